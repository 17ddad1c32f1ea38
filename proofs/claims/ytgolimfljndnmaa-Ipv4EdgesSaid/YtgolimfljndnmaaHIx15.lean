/- What is proved: each Go function of this text answers as the plain Lean function beside it (a law: its given row, out of the plain statement). Conditions: those that stand in each theorem. Written by my drive.py, which calls the printer of the kit for what that covers. -/
import Derived.Test.YtgolimfljndnmaaHIx0
import Derived.Test.YtgolimfljndnmaaHIx1
import Derived.Test.YtgolimfljndnmaaHIx3
import Derived.Test.YtgolimfljndnmaaHIx6
import Derived.Test.YtgolimfljndnmaaHIx7
import Derived.Test.YtgolimfljndnmaaHIx14
namespace Go.Proofs.Ytgolimfljndnmaa.HI
open Go.RowKit Go.Proofs.YtgolimfljndnmaaW.PrintWords Go.Proofs.YtgolimfljndnmaaW.PrintLast Go.Proofs.YtgolimfljndnmaaW.PrintMore
attribute [local go_sem] max2_int min2_int max_two min_two max_three min_three max_four min_four   -- for this text's walks alone
set_option linter.unusedVariables false
set_option linter.unusedSimpArgs false

/-! ### rampartlaw03_Ipv4Edges: function 5 -/
mutual
def rampartlaw03_Ipv4Edges.j0 : Nat → Int → Int → Bool → Int → Int → Bool → Bool → Int → Int → Int → Int → Int → ByteArray → Option (Bool)
 | 0, _, _, _, _, _, _, _, _, _, _, _, _, _ => none
 | k + 1, x0, x5, x66, x258000, x258001, x258002, x258003, x258004, x258005, x258006, x258007, x258008, x258009 => if x66 = true then (some false) else ((rampartlaw00_Place.f x0 8).bind fun t276 => (if t276 = 0 then (rampartlaw03_Ipv4Edges.j1 k x5 (wrap64 (255 + x5)) x258001 x258002 x258003 x258004 x258005 x258006 x258007 x258008 x258009) else (if t276 = 1 then (rampartlaw03_Ipv4Edges.j1 k x5 x258000 (wrap64 (-x5)) x258002 x258003 x258004 x258005 x258006 x258007 x258008 x258009) else (if t276 = 2 then (rampartlaw03_Ipv4Edges.j1 k x5 x258000 x258001 x258002 x258003 (wrap64 (65528 + (wrap64 (8 * x5)))) x258005 x258006 x258007 x258008 x258009) else (if t276 = 3 then (rampartlaw03_Ipv4Edges.j1 k x5 x258000 x258001 x258002 x258003 (wrap64 (1 + (Int.tmod x5 7))) x258005 x258006 x258007 x258008 x258009) else (if t276 = 4 then (rampartlaw03_Ipv4Edges.j1 k x5 x258000 x258001 x258002 x258003 x258004 (wrap64 (-x5)) x258006 x258007 x258008 x258009) else (if t276 = 5 then (rampartlaw03_Ipv4Edges.j1 k x5 x258000 x258001 x258002 x258003 x258004 x258005 (wrap64 (255 + x5)) x258007 x258008 x258009) else (if t276 = 6 then (if x258009.size + 4 ≤ 9223372036854775807 then (rampartlaw03_Ipv4Edges.j1 k x5 x258000 x258001 x258002 x258003 x258004 x258005 x258006 x258007 x258008 (x258009 ++ (⟨#[49, 50, 51, 52]⟩ : ByteArray))) else (none)) else (if 0 ≤ (wrap64 (1 + (Int.tmod x5 3))) then (if (wrap64 (1 + (Int.tmod x5 3))) ≤ 5 then (rampartlaw03_Ipv4Edges.j1 k x5 x258000 x258001 x258002 x258003 x258004 x258005 x258006 x258007 x258008 ((⟨#[49, 50, 51, 52, 53]⟩ : ByteArray).extract 0 ((wrap64 (1 + (Int.tmod x5 3))) : Int).toNat)) else (none)) else (none))))))))))
def rampartlaw03_Ipv4Edges.j1 : Nat → Int → Int → Int → Bool → Bool → Int → Int → Int → Int → Int → ByteArray → Option (Bool)
 | 0, _, _, _, _, _, _, _, _, _, _, _ => none
 | k + 1, x5, x258000, x258001, x258002, x258003, x258004, x258005, x258006, x258007, x258008, x258009 => (ipv4_Put.f k x258000 x258001 x258002 x258003 x258004 x258005 x258006 x258007 x258008 x258009 (⟨#[]⟩ : ByteArray)).bind fun bt277 => (if 0 ≤ (wrap64 (2000 + x5)) then (if (wrap64 (2000 + x5) : Int).toNat ≤ 281474976710656 then ((ipv4_Put.f k 0 0 false false 0 0 0 0 0 (⟨#[]⟩ : ByteArray) (strOfNums (List.replicate (wrap64 (2000 + x5) : Int).toNat 0))).bind fun bt282 => (if bt277.1.toList = ([] : List UInt8) then (if bt277.2 = 1 then ((ipv4_Check.f x258000 x258001 x258002 x258003 x258004 x258005 x258006 x258007 x258008 x258009).bind fun t284 => (if t284 = true then (some false) else (if bt282.2 = 5 then ((rampartlaw03_awake.f k).bind fun t285 => (some t285)) else (some false)))) else (some false)) else (some false))) else (none)) else (none))
end
def rampartlaw03_Ipv4Edges.f (k : Nat) (a0 : Int) (a1 : Int) : Option (Bool) := (rampartlaw00_Place.f a1 100).bind fun t253 => (if 40 ≤ 281474976710656 then ((some (List.replicate 40 0 : List Int)).bind fun y254 => (if 2000 ≤ 281474976710656 then ((ipv4_Put.f k 255 65535 true true 65528 255 255 4294967295 4294967295 (strOfNums y254) (strOfNums (List.replicate 2000 0))).bind fun bt261 => ((ipv4_Get.f k bt261.1).bind fun bt263 => (if bt261.2 = 0 then (if bt263.2.2.2.2.2.2.2.2.2.2.2 = 0 then (if bt263.2.2.2.2.1 = 65528 then (if bt263.2.2.1 = true then (if bt263.2.2.2.1 = true then (if (bt263.2.2.2.2.2.2.2.2.2.2.1.size : Int) = 2000 then (rampartlaw03_Ipv4Edges.j0 k a0 (wrap64 (1 + t253)) ((bt263.2.2.2.2.2.2.2.2.2.1.size : Int) != 40) 255 65535 true true 65528 255 255 4294967295 4294967295 (strOfNums y254)) else (rampartlaw03_Ipv4Edges.j0 k a0 (wrap64 (1 + t253)) true 255 65535 true true 65528 255 255 4294967295 4294967295 (strOfNums y254))) else (rampartlaw03_Ipv4Edges.j0 k a0 (wrap64 (1 + t253)) true 255 65535 true true 65528 255 255 4294967295 4294967295 (strOfNums y254))) else (rampartlaw03_Ipv4Edges.j0 k a0 (wrap64 (1 + t253)) true 255 65535 true true 65528 255 255 4294967295 4294967295 (strOfNums y254))) else (rampartlaw03_Ipv4Edges.j0 k a0 (wrap64 (1 + t253)) true 255 65535 true true 65528 255 255 4294967295 4294967295 (strOfNums y254))) else (rampartlaw03_Ipv4Edges.j0 k a0 (wrap64 (1 + t253)) true 255 65535 true true 65528 255 255 4294967295 4294967295 (strOfNums y254))) else (rampartlaw03_Ipv4Edges.j0 k a0 (wrap64 (1 + t253)) true 255 65535 true true 65528 255 255 4294967295 4294967295 (strOfNums y254))))) else (none))) else (none))
theorem rampartlaw03_Ipv4Edges.mono_l : ∀ k, (∀ y0 y1 y2 y3 y4 y5 y6 y7 y8 y9 y10 y11 y12, LeO (rampartlaw03_Ipv4Edges.j0 k y0 y1 y2 y3 y4 y5 y6 y7 y8 y9 y10 y11 y12) (rampartlaw03_Ipv4Edges.j0 (k + 1) y0 y1 y2 y3 y4 y5 y6 y7 y8 y9 y10 y11 y12)) ∧ (∀ y0 y1 y2 y3 y4 y5 y6 y7 y8 y9 y10, LeO (rampartlaw03_Ipv4Edges.j1 k y0 y1 y2 y3 y4 y5 y6 y7 y8 y9 y10) (rampartlaw03_Ipv4Edges.j1 (k + 1) y0 y1 y2 y3 y4 y5 y6 y7 y8 y9 y10))
 | 0 => ⟨fun _ _ _ _ _ _ _ _ _ _ _ _ _ r h => by simp [rampartlaw03_Ipv4Edges.j0] at h, fun _ _ _ _ _ _ _ _ _ _ _ r h => by simp [rampartlaw03_Ipv4Edges.j1] at h⟩
 | k + 1 => by
  obtain ⟨ih0, ih1⟩ := rampartlaw03_Ipv4Edges.mono_l k
  refine ⟨?_, ?_⟩
  ·
   intro y0 y1 y2 y3 y4 y5 y6 y7 y8 y9 y10 y11 y12
   unfold rampartlaw03_Ipv4Edges.j0
   repeat' first
   | (with_reducible exact ih0 _ _ _ _ _ _ _ _ _ _ _ _ _)
   | (with_reducible exact ih1 _ _ _ _ _ _ _ _ _ _ _)
   | (with_reducible exact ipv4_Get.mono _ _)
   | (with_reducible exact ipv4_Put.mono _ _ _ _ _ _ _ _ _ _ _ _)
   | (with_reducible exact rampartlaw03_awake.mono _)
   | (with_reducible exact LeO.refl _)
   | (with_reducible exact LeO.none _)
   | (with_reducible refine LeO.ite ?_ ?_)
   | (with_reducible refine LeO.bind ?_ (fun _ => ?_))
   | exact ih0 _ _ _ _ _ _ _ _ _ _ _ _ _
   | exact ih1 _ _ _ _ _ _ _ _ _ _ _
   | exact ipv4_Get.mono _ _
   | exact ipv4_Put.mono _ _ _ _ _ _ _ _ _ _ _ _
   | exact rampartlaw03_awake.mono _
   | exact LeO.none _
   | refine LeO.ite ?_ ?_
   | refine LeO.bind ?_ (fun _ => ?_)
  ·
   intro y0 y1 y2 y3 y4 y5 y6 y7 y8 y9 y10
   unfold rampartlaw03_Ipv4Edges.j1
   repeat' first
   | (with_reducible exact ih0 _ _ _ _ _ _ _ _ _ _ _ _ _)
   | (with_reducible exact ih1 _ _ _ _ _ _ _ _ _ _ _)
   | (with_reducible exact ipv4_Get.mono _ _)
   | (with_reducible exact ipv4_Put.mono _ _ _ _ _ _ _ _ _ _ _ _)
   | (with_reducible exact rampartlaw03_awake.mono _)
   | (with_reducible exact LeO.refl _)
   | (with_reducible exact LeO.none _)
   | (with_reducible refine LeO.ite ?_ ?_)
   | (with_reducible refine LeO.bind ?_ (fun _ => ?_))
   | exact ih0 _ _ _ _ _ _ _ _ _ _ _ _ _
   | exact ih1 _ _ _ _ _ _ _ _ _ _ _
   | exact ipv4_Get.mono _ _
   | exact ipv4_Put.mono _ _ _ _ _ _ _ _ _ _ _ _
   | exact rampartlaw03_awake.mono _
   | exact LeO.none _
   | refine LeO.ite ?_ ?_
   | refine LeO.bind ?_ (fun _ => ?_)
theorem rampartlaw03_Ipv4Edges.mono : ∀ a0 a1 k, LeO (rampartlaw03_Ipv4Edges.f k a0 a1) (rampartlaw03_Ipv4Edges.f (k + 1) a0 a1) := by
 intro a0 a1 k
 obtain ⟨ih0, ih1⟩ := rampartlaw03_Ipv4Edges.mono_l k
 unfold rampartlaw03_Ipv4Edges.f
 repeat' first
   | (with_reducible exact ih0 _ _ _ _ _ _ _ _ _ _ _ _ _)
   | (with_reducible exact ih1 _ _ _ _ _ _ _ _ _ _ _)
   | (with_reducible exact ipv4_Get.mono _ _)
   | (with_reducible exact ipv4_Put.mono _ _ _ _ _ _ _ _ _ _ _ _)
   | (with_reducible exact rampartlaw03_awake.mono _)
   | (with_reducible exact LeO.refl _)
   | (with_reducible exact LeO.none _)
   | (with_reducible refine LeO.ite ?_ ?_)
   | (with_reducible refine LeO.bind ?_ (fun _ => ?_))
   | exact ih0 _ _ _ _ _ _ _ _ _ _ _ _ _
   | exact ih1 _ _ _ _ _ _ _ _ _ _ _
   | exact ipv4_Get.mono _ _
   | exact ipv4_Put.mono _ _ _ _ _ _ _ _ _ _ _ _
   | exact rampartlaw03_awake.mono _
   | exact LeO.none _
   | refine LeO.ite ?_ ?_
   | refine LeO.bind ?_ (fun _ => ?_)
def rampartlaw03_Ipv4Edges.T3 : Bool × List (List Nat × List Nat) := (true, [([], []), ([], []), ([1], [1]), ([0, 2], [0, 2]), ([3], [3]), ([4], [4]), ([4], [4]), ([5, 3, 0, 1, 2, 3, 4, 5], [5]), ([6, 7, 0, 1, 2, 3, 4, 5, 6, 7], [6])])
def rampartlaw03_Ipv4Edges.B3 : List Nat := [0, 0, 2, 7, 15, 31, 31, 63, 255]
theorem rampartlaw03_Ipv4Edges.tab3 : rtab .any (opsOf Try.f5 3) = rampartlaw03_Ipv4Edges.T3 := by kernel_rfl
theorem rampartlaw03_Ipv4Edges.bits3 : waitsOk rampartlaw03_Ipv4Edges.T3.2 rampartlaw03_Ipv4Edges.B3 = true := by kernel_rfl
set_option maxHeartbeats 8000000 in
set_option maxRecDepth 100000 in
theorem rampartlaw03_Ipv4Edges.calls (k : Nat) (a0 : Int) (a1 : Int) (r : Bool) (w : World) (h : rampartlaw03_Ipv4Edges.f k a0 a1 = some r) (HR0 : r = true) :
  Calls Try.prog 5 #[.int .i64 a0, .int .i64 a1] w fun e w' => e = .returned (.bool r) ∧ Below w.heap.size w w' := by
 have HR := Aside0.mk HR0
 clear HR0
 have hu24 := Try.underlying24
 have HB := Aside0.mk (Below.refl w.heap.size w)
 have H : ((rampartlaw00_Place.f a1 100).bind fun t253 => (if 40 ≤ 281474976710656 then ((some (List.replicate 40 0 : List Int)).bind fun y254 => (if 2000 ≤ 281474976710656 then ((ipv4_Put.f k 255 65535 true true 65528 255 255 4294967295 4294967295 (strOfNums y254) (strOfNums (List.replicate 2000 0))).bind fun bt261 => ((ipv4_Get.f k bt261.1).bind fun bt263 => (if bt261.2 = 0 then (if bt263.2.2.2.2.2.2.2.2.2.2.2 = 0 then (if bt263.2.2.2.2.1 = 65528 then (if bt263.2.2.1 = true then (if bt263.2.2.2.1 = true then (if (bt263.2.2.2.2.2.2.2.2.2.2.1.size : Int) = 2000 then (rampartlaw03_Ipv4Edges.j0 k a0 (wrap64 (1 + t253)) ((bt263.2.2.2.2.2.2.2.2.2.1.size : Int) != 40) 255 65535 true true 65528 255 255 4294967295 4294967295 (strOfNums y254)) else (rampartlaw03_Ipv4Edges.j0 k a0 (wrap64 (1 + t253)) true 255 65535 true true 65528 255 255 4294967295 4294967295 (strOfNums y254))) else (rampartlaw03_Ipv4Edges.j0 k a0 (wrap64 (1 + t253)) true 255 65535 true true 65528 255 255 4294967295 4294967295 (strOfNums y254))) else (rampartlaw03_Ipv4Edges.j0 k a0 (wrap64 (1 + t253)) true 255 65535 true true 65528 255 255 4294967295 4294967295 (strOfNums y254))) else (rampartlaw03_Ipv4Edges.j0 k a0 (wrap64 (1 + t253)) true 255 65535 true true 65528 255 255 4294967295 4294967295 (strOfNums y254))) else (rampartlaw03_Ipv4Edges.j0 k a0 (wrap64 (1 + t253)) true 255 65535 true true 65528 255 255 4294967295 4294967295 (strOfNums y254))) else (rampartlaw03_Ipv4Edges.j0 k a0 (wrap64 (1 + t253)) true 255 65535 true true 65528 255 255 4294967295 4294967295 (strOfNums y254))))) else (none))) else (none))) = some r := h
 clear h
 replace H := Option.bind_eq_some_iff.mp H
 obtain ⟨t253, A30, H⟩ := H
 replace H : (if 40 ≤ 281474976710656 then ((some (List.replicate 40 0 : List Int)).bind fun y254 => (if 2000 ≤ 281474976710656 then ((ipv4_Put.f k 255 65535 true true 65528 255 255 4294967295 4294967295 (strOfNums y254) (strOfNums (List.replicate 2000 0))).bind fun bt261 => ((ipv4_Get.f k bt261.1).bind fun bt263 => (if bt261.2 = 0 then (if bt263.2.2.2.2.2.2.2.2.2.2.2 = 0 then (if bt263.2.2.2.2.1 = 65528 then (if bt263.2.2.1 = true then (if bt263.2.2.2.1 = true then (if (bt263.2.2.2.2.2.2.2.2.2.2.1.size : Int) = 2000 then (rampartlaw03_Ipv4Edges.j0 k a0 (wrap64 (1 + t253)) ((bt263.2.2.2.2.2.2.2.2.2.1.size : Int) != 40) 255 65535 true true 65528 255 255 4294967295 4294967295 (strOfNums y254)) else (rampartlaw03_Ipv4Edges.j0 k a0 (wrap64 (1 + t253)) true 255 65535 true true 65528 255 255 4294967295 4294967295 (strOfNums y254))) else (rampartlaw03_Ipv4Edges.j0 k a0 (wrap64 (1 + t253)) true 255 65535 true true 65528 255 255 4294967295 4294967295 (strOfNums y254))) else (rampartlaw03_Ipv4Edges.j0 k a0 (wrap64 (1 + t253)) true 255 65535 true true 65528 255 255 4294967295 4294967295 (strOfNums y254))) else (rampartlaw03_Ipv4Edges.j0 k a0 (wrap64 (1 + t253)) true 255 65535 true true 65528 255 255 4294967295 4294967295 (strOfNums y254))) else (rampartlaw03_Ipv4Edges.j0 k a0 (wrap64 (1 + t253)) true 255 65535 true true 65528 255 255 4294967295 4294967295 (strOfNums y254))) else (rampartlaw03_Ipv4Edges.j0 k a0 (wrap64 (1 + t253)) true 255 65535 true true 65528 255 255 4294967295 4294967295 (strOfNums y254))))) else (none))) else (none)) = some r := H
 have A3 := Aside0.mk A30
 clear A30
 by_cases c4 : 40 ≤ 281474976710656
 ·
  rw [if_pos c4] at H
  have c4b0 := eq_true c4
  have c4b1 : decide (40 ≤ 281474976710656) = true := decide_eq_true c4
  clear c4
  obtain ⟨y254, hy254⟩ : ∃ y_ : List Int, y_ = (List.replicate 40 0) := ⟨_, rfl⟩
  replace H : (if 2000 ≤ 281474976710656 then ((ipv4_Put.f k 255 65535 true true 65528 255 255 4294967295 4294967295 (strOfNums y254) (strOfNums (List.replicate 2000 0))).bind fun bt261 => ((ipv4_Get.f k bt261.1).bind fun bt263 => (if bt261.2 = 0 then (if bt263.2.2.2.2.2.2.2.2.2.2.2 = 0 then (if bt263.2.2.2.2.1 = 65528 then (if bt263.2.2.1 = true then (if bt263.2.2.2.1 = true then (if (bt263.2.2.2.2.2.2.2.2.2.2.1.size : Int) = 2000 then (rampartlaw03_Ipv4Edges.j0 k a0 (wrap64 (1 + t253)) ((bt263.2.2.2.2.2.2.2.2.2.1.size : Int) != 40) 255 65535 true true 65528 255 255 4294967295 4294967295 (strOfNums y254)) else (rampartlaw03_Ipv4Edges.j0 k a0 (wrap64 (1 + t253)) true 255 65535 true true 65528 255 255 4294967295 4294967295 (strOfNums y254))) else (rampartlaw03_Ipv4Edges.j0 k a0 (wrap64 (1 + t253)) true 255 65535 true true 65528 255 255 4294967295 4294967295 (strOfNums y254))) else (rampartlaw03_Ipv4Edges.j0 k a0 (wrap64 (1 + t253)) true 255 65535 true true 65528 255 255 4294967295 4294967295 (strOfNums y254))) else (rampartlaw03_Ipv4Edges.j0 k a0 (wrap64 (1 + t253)) true 255 65535 true true 65528 255 255 4294967295 4294967295 (strOfNums y254))) else (rampartlaw03_Ipv4Edges.j0 k a0 (wrap64 (1 + t253)) true 255 65535 true true 65528 255 255 4294967295 4294967295 (strOfNums y254))) else (rampartlaw03_Ipv4Edges.j0 k a0 (wrap64 (1 + t253)) true 255 65535 true true 65528 255 255 4294967295 4294967295 (strOfNums y254))))) else (none)) = some r := by first | (rw [hy254]; with_reducible exact H) | (have H2_ := (Option.bind_some _ _).symm.trans H; rw [hy254]; with_reducible exact H2_) | (have H2_ := (Option.bind_some _ _).symm.trans H; with_reducible exact H2_) | with_reducible exact H | (rw [hy254]; exact H) | exact H
  have Ny254 := Aside0.mk hy254
  clear hy254
  by_cases c5 : 2000 ≤ 281474976710656
  ·
   rw [if_pos c5] at H
   have c5b0 := eq_true c5
   have c5b1 : decide (2000 ≤ 281474976710656) = true := decide_eq_true c5
   clear c5
   obtain ⟨y258, hy258⟩ : ∃ y_ : List Int, y_ = (List.replicate 2000 0) := ⟨_, rfl⟩
   replace H : ((ipv4_Put.f k 255 65535 true true 65528 255 255 4294967295 4294967295 (strOfNums y254) (strOfNums y258)).bind fun bt261 => ((ipv4_Get.f k bt261.1).bind fun bt263 => (if bt261.2 = 0 then (if bt263.2.2.2.2.2.2.2.2.2.2.2 = 0 then (if bt263.2.2.2.2.1 = 65528 then (if bt263.2.2.1 = true then (if bt263.2.2.2.1 = true then (if (bt263.2.2.2.2.2.2.2.2.2.2.1.size : Int) = 2000 then (rampartlaw03_Ipv4Edges.j0 k a0 (wrap64 (1 + t253)) ((bt263.2.2.2.2.2.2.2.2.2.1.size : Int) != 40) 255 65535 true true 65528 255 255 4294967295 4294967295 (strOfNums y254)) else (rampartlaw03_Ipv4Edges.j0 k a0 (wrap64 (1 + t253)) true 255 65535 true true 65528 255 255 4294967295 4294967295 (strOfNums y254))) else (rampartlaw03_Ipv4Edges.j0 k a0 (wrap64 (1 + t253)) true 255 65535 true true 65528 255 255 4294967295 4294967295 (strOfNums y254))) else (rampartlaw03_Ipv4Edges.j0 k a0 (wrap64 (1 + t253)) true 255 65535 true true 65528 255 255 4294967295 4294967295 (strOfNums y254))) else (rampartlaw03_Ipv4Edges.j0 k a0 (wrap64 (1 + t253)) true 255 65535 true true 65528 255 255 4294967295 4294967295 (strOfNums y254))) else (rampartlaw03_Ipv4Edges.j0 k a0 (wrap64 (1 + t253)) true 255 65535 true true 65528 255 255 4294967295 4294967295 (strOfNums y254))) else (rampartlaw03_Ipv4Edges.j0 k a0 (wrap64 (1 + t253)) true 255 65535 true true 65528 255 255 4294967295 4294967295 (strOfNums y254))))) = some r := by first | (rw [hy258]; with_reducible exact H) | (have H2_ := (Option.bind_some _ _).symm.trans H; rw [hy258]; with_reducible exact H2_) | (have H2_ := (Option.bind_some _ _).symm.trans H; with_reducible exact H2_) | with_reducible exact H | (rw [hy258]; exact H) | exact H
   have Ny258 := Aside0.mk hy258
   clear hy258
   replace H := Option.bind_eq_some_iff.mp H
   obtain ⟨⟨t261, t262⟩, A60, H⟩ := H
   replace H : ((ipv4_Get.f k t261).bind fun bt263 => (if t262 = 0 then (if bt263.2.2.2.2.2.2.2.2.2.2.2 = 0 then (if bt263.2.2.2.2.1 = 65528 then (if bt263.2.2.1 = true then (if bt263.2.2.2.1 = true then (if (bt263.2.2.2.2.2.2.2.2.2.2.1.size : Int) = 2000 then (rampartlaw03_Ipv4Edges.j0 k a0 (wrap64 (1 + t253)) ((bt263.2.2.2.2.2.2.2.2.2.1.size : Int) != 40) 255 65535 true true 65528 255 255 4294967295 4294967295 (strOfNums y254)) else (rampartlaw03_Ipv4Edges.j0 k a0 (wrap64 (1 + t253)) true 255 65535 true true 65528 255 255 4294967295 4294967295 (strOfNums y254))) else (rampartlaw03_Ipv4Edges.j0 k a0 (wrap64 (1 + t253)) true 255 65535 true true 65528 255 255 4294967295 4294967295 (strOfNums y254))) else (rampartlaw03_Ipv4Edges.j0 k a0 (wrap64 (1 + t253)) true 255 65535 true true 65528 255 255 4294967295 4294967295 (strOfNums y254))) else (rampartlaw03_Ipv4Edges.j0 k a0 (wrap64 (1 + t253)) true 255 65535 true true 65528 255 255 4294967295 4294967295 (strOfNums y254))) else (rampartlaw03_Ipv4Edges.j0 k a0 (wrap64 (1 + t253)) true 255 65535 true true 65528 255 255 4294967295 4294967295 (strOfNums y254))) else (rampartlaw03_Ipv4Edges.j0 k a0 (wrap64 (1 + t253)) true 255 65535 true true 65528 255 255 4294967295 4294967295 (strOfNums y254)))) = some r := H
   have A6 := Aside0.mk A60
   clear A60
   replace H := Option.bind_eq_some_iff.mp H
   obtain ⟨⟨t263, t264, t265, t266, t267, t268, t269, t270, t271, t272, t273, t274⟩, A70, H⟩ := H
   replace H : (if t262 = 0 then (if t274 = 0 then (if t267 = 65528 then (if t265 = true then (if t266 = true then (if (t273.size : Int) = 2000 then (rampartlaw03_Ipv4Edges.j0 k a0 (wrap64 (1 + t253)) ((t272.size : Int) != 40) 255 65535 true true 65528 255 255 4294967295 4294967295 (strOfNums y254)) else (rampartlaw03_Ipv4Edges.j0 k a0 (wrap64 (1 + t253)) true 255 65535 true true 65528 255 255 4294967295 4294967295 (strOfNums y254))) else (rampartlaw03_Ipv4Edges.j0 k a0 (wrap64 (1 + t253)) true 255 65535 true true 65528 255 255 4294967295 4294967295 (strOfNums y254))) else (rampartlaw03_Ipv4Edges.j0 k a0 (wrap64 (1 + t253)) true 255 65535 true true 65528 255 255 4294967295 4294967295 (strOfNums y254))) else (rampartlaw03_Ipv4Edges.j0 k a0 (wrap64 (1 + t253)) true 255 65535 true true 65528 255 255 4294967295 4294967295 (strOfNums y254))) else (rampartlaw03_Ipv4Edges.j0 k a0 (wrap64 (1 + t253)) true 255 65535 true true 65528 255 255 4294967295 4294967295 (strOfNums y254))) else (rampartlaw03_Ipv4Edges.j0 k a0 (wrap64 (1 + t253)) true 255 65535 true true 65528 255 255 4294967295 4294967295 (strOfNums y254))) = some r := H
   have A7 := Aside0.mk A70
   clear A70
   have HC8 := Aside0.mk H
   clear H
   go_enter Try.func5, Try.ntmps5
   try go_wp2_with (first | ((with_reducible refine gate_callee (f := 23) rfl ?_); refine goesL_ (some 17) rfl rfl Try.func23 (by kernel_rfl) rfl #[.int .i64 a1, .int .i64 100] rfl (by (try simp only [List.map_toArray, List.map_cons, List.map_nil]); first | done | rfl | (simp only [List.length_drop, List.length_take]; rfl)) ?_; (with_reducible refine (rampartlaw00_Place.calls a1 100 t253 _ A3.out).mono ?_); rintro e w' ⟨rfl, ⟨nd, rfl⟩⟩; refine ⟨_, rfl, ?_⟩) | ((with_reducible refine gate_dst (N := 19) rfl ?_); (try (refine gate_guard (by rfl) ?_; dsimp only)); refine Kd.R_make (Kd.int .u8) _ 5 rfl (N := 19) rfl 34 _ _ rfl 40 rfl rfl Try.underlying34 (.int .u8 0) 1 info5 rfl (by decide) (by omega) 0 (ok := fun _ => True) (okp := fun _ => True) rfl (fun _ hk => hk) trivial (by omega) (by omega) (Below.refl _ _) (Nat.le_refl _) ?_; intro v255 w9 ho10 hb hg_ hnew_; clear hg_ hnew_; (first | rw [← Ny254.out] at ho10 | (simp only [Int.reduceToNat] at ho10; rw [← Ny254.out] at ho10)); have n0_ := Aside0.mk (Kd.R_lower ho10 (below_size (by repeat (first | (with_reducible first | exact HB.out | apply below_alloc | apply pw_below_drewN | apply below_drew1) | exact HB.out)))); have n1_ := Aside0.mk (below_step (by repeat (first | (with_reducible first | exact HB.out | apply below_alloc | apply pw_below_drewN | apply below_drew1) | exact HB.out)) hb); clear HB; have HO256 := n0_; have HB := n1_; clear n0_ n1_; clear hb ho10; have hcv11 := own_string (P := Try.prog) Try.underlying34 Try.underlying5 Try.underlying9 (Kd.own_of_R HO256.out)) | ((with_reducible refine gate_dst (N := 6) rfl ?_); (try (refine gate_guard (by rfl) ?_; dsimp only)); refine box_event ?hg (N := 6) ?hd (cs := #[.int .i64 0, .int .i64 0, .bool false, .bool false, .int .i64 0, .int .i64 0, .int .i64 0, .int .u32 0, .int .u32 0, .string (⟨#[]⟩ : ByteArray)]) (t := 24) ?hr ?_; (case hd => rfl); (case hg => rfl); (case hr => first | (go_simp; done) | (go_simp; rfl)); intro gb257 hg w12 hbox hb; have n0_ := Aside0.mk (Kd.R_below (by (with_reducible repeat (first | apply Kd.R_alloc | apply Kd.R_drewN | apply Kd.R_drew)); exact HO256.out) hb); have n1_ := Aside0.mk (below_step (by repeat (first | (with_reducible first | exact HB.out | apply below_alloc | apply pw_below_drewN | apply below_drew1) | exact HB.out)) hb); have n2_ := Aside0.mk (hbox); have n3_ := Aside0.mk ((by rw [hg]; exact (below_size (by repeat (first | (with_reducible first | exact HB.out | apply below_alloc | apply pw_below_drewN | apply below_drew1) | exact HB.out))) : w.heap.size ≤ gb257)); have n4_ := Aside0.mk ((by rw [hg]; exact (below_size (by repeat (first | (with_reducible first | exact HB.out | apply below_alloc | apply pw_below_drewN | apply below_drew1) | exact HB.out))) : w.heap.size ≤ gb257)); clear HO256; clear HB; have HO256 := n0_; have HB := n1_; have BK257 := n2_; have GW257 := n3_; have GE257 := n4_; clear n0_ n1_ n2_ n3_ n4_; clear hb hbox hg; have hcz13_0 : w12.cell? ⟨gb257, 0, none⟩ = some (.int .i64 0) := (blk_cell BK257.out 0).trans rfl; have hcz13_1 : w12.cell? ⟨gb257, 1, none⟩ = some (.int .i64 0) := (blk_cell BK257.out 1).trans rfl; have hcz13_2 : w12.cell? ⟨gb257, 2, none⟩ = some (.bool false) := (blk_cell BK257.out 2).trans rfl; have hcz13_3 : w12.cell? ⟨gb257, 3, none⟩ = some (.bool false) := (blk_cell BK257.out 3).trans rfl; have hcz13_4 : w12.cell? ⟨gb257, 4, none⟩ = some (.int .i64 0) := (blk_cell BK257.out 4).trans rfl; have hcz13_5 : w12.cell? ⟨gb257, 5, none⟩ = some (.int .i64 0) := (blk_cell BK257.out 5).trans rfl; have hcz13_6 : w12.cell? ⟨gb257, 6, none⟩ = some (.int .i64 0) := (blk_cell BK257.out 6).trans rfl; have hcz13_7 : w12.cell? ⟨gb257, 7, none⟩ = some (.int .u32 0) := (blk_cell BK257.out 7).trans rfl; have hcz13_8 : w12.cell? ⟨gb257, 8, none⟩ = some (.int .u32 0) := (blk_cell BK257.out 8).trans rfl; have hcz13_9 : w12.cell? ⟨gb257, 9, none⟩ = some (.string (⟨#[]⟩ : ByteArray)) := (blk_cell BK257.out 9).trans rfl; have hfz13_0 := blk_frozen BK257.out 0; have hfz13_1 := blk_frozen BK257.out 1; have hfz13_2 := blk_frozen BK257.out 2; have hfz13_3 := blk_frozen BK257.out 3; have hfz13_4 := blk_frozen BK257.out 4; have hfz13_5 := blk_frozen BK257.out 5; have hfz13_6 := blk_frozen BK257.out 6; have hfz13_7 := blk_frozen BK257.out 7; have hfz13_8 := blk_frozen BK257.out 8; have hfz13_9 := blk_frozen BK257.out 9))
   have n0_ : Aside0 (Kd.R (Kd.int .u8) 5 ((((((((((w12.setCell ⟨gb257, 0, none⟩ (.int .i64 255)).setCell ⟨gb257, 1, none⟩ (.int .i64 65535)).setCell ⟨gb257, 2, none⟩ (.bool true)).setCell ⟨gb257, 3, none⟩ (.bool true)).setCell ⟨gb257, 4, none⟩ (.int .i64 65528)).setCell ⟨gb257, 5, none⟩ (.int .i64 255)).setCell ⟨gb257, 6, none⟩ (.int .i64 255)).setCell ⟨gb257, 7, none⟩ (.int .u32 4294967295)).setCell ⟨gb257, 8, none⟩ (.int .u32 4294967295)).setCell ⟨gb257, 9, none⟩ (.string (strOfNums y254))) w.heap.size (fun _ => True) v255 y254) := ⟨by (with_reducible repeat (first | apply Kd.R_alloc | apply Kd.R_drewN | apply Kd.R_drew)); exact Kd.R_mono (Kd.R_far (p := ⟨gb257, 9, none⟩) (Kd.R_far (p := ⟨gb257, 8, none⟩) (Kd.R_far (p := ⟨gb257, 7, none⟩) (Kd.R_far (p := ⟨gb257, 6, none⟩) (Kd.R_far (p := ⟨gb257, 5, none⟩) (Kd.R_far (p := ⟨gb257, 4, none⟩) (Kd.R_far (p := ⟨gb257, 3, none⟩) (Kd.R_far (p := ⟨gb257, 2, none⟩) (Kd.R_far (p := ⟨gb257, 1, none⟩) (Kd.R_far (p := ⟨gb257, 0, none⟩) (Kd.R_types HO256.out BK257.out (by decide)) (fun _ hk => hk.2) (.int .i64 255)) (fun _ hk => hk.2) (.int .i64 65535)) (fun _ hk => hk.2) (.bool true)) (fun _ hk => hk.2) (.bool true)) (fun _ hk => hk.2) (.int .i64 65528)) (fun _ hk => hk.2) (.int .i64 255)) (fun _ hk => hk.2) (.int .i64 255)) (fun _ hk => hk.2) (.int .u32 4294967295)) (fun _ hk => hk.2) (.int .u32 4294967295)) (fun _ hk => hk.2) (.string (strOfNums y254))) (fun _ hk => trivial)⟩
   have n1_ : Aside0 (((((((((((w12.setCell ⟨gb257, 0, none⟩ (.int .i64 255)).setCell ⟨gb257, 1, none⟩ (.int .i64 65535)).setCell ⟨gb257, 2, none⟩ (.bool true)).setCell ⟨gb257, 3, none⟩ (.bool true)).setCell ⟨gb257, 4, none⟩ (.int .i64 65528)).setCell ⟨gb257, 5, none⟩ (.int .i64 255)).setCell ⟨gb257, 6, none⟩ (.int .i64 255)).setCell ⟨gb257, 7, none⟩ (.int .u32 4294967295)).setCell ⟨gb257, 8, none⟩ (.int .u32 4294967295)).setCell ⟨gb257, 9, none⟩ (.string (strOfNums y254))).heap[gb257]? = some (.cells #[.int .i64 255, .int .i64 65535, .bool true, .bool true, .int .i64 65528, .int .i64 255, .int .i64 255, .int .u32 4294967295, .int .u32 4294967295, .string (strOfNums y254)] 24 (0, 0))) := ⟨by (with_reducible repeat (first | refine blk_drewN ?_ _ | refine blk_drew ?_ | refine blk_alloc ?_ _)); refine blk_put (cs := #[.int .i64 255, .int .i64 65535, .bool true, .bool true, .int .i64 65528, .int .i64 255, .int .i64 255, .int .u32 4294967295, .int .u32 4294967295, .string (⟨#[]⟩ : ByteArray)]) ?_ 9 _ rfl; (with_reducible repeat (first | refine blk_drewN ?_ _ | refine blk_drew ?_ | refine blk_alloc ?_ _)); refine blk_put (cs := #[.int .i64 255, .int .i64 65535, .bool true, .bool true, .int .i64 65528, .int .i64 255, .int .i64 255, .int .u32 4294967295, .int .u32 0, .string (⟨#[]⟩ : ByteArray)]) ?_ 8 _ rfl; (with_reducible repeat (first | refine blk_drewN ?_ _ | refine blk_drew ?_ | refine blk_alloc ?_ _)); refine blk_put (cs := #[.int .i64 255, .int .i64 65535, .bool true, .bool true, .int .i64 65528, .int .i64 255, .int .i64 255, .int .u32 0, .int .u32 0, .string (⟨#[]⟩ : ByteArray)]) ?_ 7 _ rfl; (with_reducible repeat (first | refine blk_drewN ?_ _ | refine blk_drew ?_ | refine blk_alloc ?_ _)); refine blk_put (cs := #[.int .i64 255, .int .i64 65535, .bool true, .bool true, .int .i64 65528, .int .i64 255, .int .i64 0, .int .u32 0, .int .u32 0, .string (⟨#[]⟩ : ByteArray)]) ?_ 6 _ rfl; (with_reducible repeat (first | refine blk_drewN ?_ _ | refine blk_drew ?_ | refine blk_alloc ?_ _)); refine blk_put (cs := #[.int .i64 255, .int .i64 65535, .bool true, .bool true, .int .i64 65528, .int .i64 0, .int .i64 0, .int .u32 0, .int .u32 0, .string (⟨#[]⟩ : ByteArray)]) ?_ 5 _ rfl; (with_reducible repeat (first | refine blk_drewN ?_ _ | refine blk_drew ?_ | refine blk_alloc ?_ _)); refine blk_put (cs := #[.int .i64 255, .int .i64 65535, .bool true, .bool true, .int .i64 0, .int .i64 0, .int .i64 0, .int .u32 0, .int .u32 0, .string (⟨#[]⟩ : ByteArray)]) ?_ 4 _ rfl; (with_reducible repeat (first | refine blk_drewN ?_ _ | refine blk_drew ?_ | refine blk_alloc ?_ _)); refine blk_put (cs := #[.int .i64 255, .int .i64 65535, .bool true, .bool false, .int .i64 0, .int .i64 0, .int .i64 0, .int .u32 0, .int .u32 0, .string (⟨#[]⟩ : ByteArray)]) ?_ 3 _ rfl; (with_reducible repeat (first | refine blk_drewN ?_ _ | refine blk_drew ?_ | refine blk_alloc ?_ _)); refine blk_put (cs := #[.int .i64 255, .int .i64 65535, .bool false, .bool false, .int .i64 0, .int .i64 0, .int .i64 0, .int .u32 0, .int .u32 0, .string (⟨#[]⟩ : ByteArray)]) ?_ 2 _ rfl; (with_reducible repeat (first | refine blk_drewN ?_ _ | refine blk_drew ?_ | refine blk_alloc ?_ _)); refine blk_put (cs := #[.int .i64 255, .int .i64 0, .bool false, .bool false, .int .i64 0, .int .i64 0, .int .i64 0, .int .u32 0, .int .u32 0, .string (⟨#[]⟩ : ByteArray)]) ?_ 1 _ rfl; (with_reducible repeat (first | refine blk_drewN ?_ _ | refine blk_drew ?_ | refine blk_alloc ?_ _)); refine blk_put (cs := #[.int .i64 0, .int .i64 0, .bool false, .bool false, .int .i64 0, .int .i64 0, .int .i64 0, .int .u32 0, .int .u32 0, .string (⟨#[]⟩ : ByteArray)]) ?_ 0 _ rfl; (with_reducible repeat (first | refine blk_drewN ?_ _ | refine blk_drew ?_ | refine blk_alloc ?_ _)); exact BK257.out⟩
   have n2_ : Aside0 (Below w.heap.size w ((((((((((w12.setCell ⟨gb257, 0, none⟩ (.int .i64 255)).setCell ⟨gb257, 1, none⟩ (.int .i64 65535)).setCell ⟨gb257, 2, none⟩ (.bool true)).setCell ⟨gb257, 3, none⟩ (.bool true)).setCell ⟨gb257, 4, none⟩ (.int .i64 65528)).setCell ⟨gb257, 5, none⟩ (.int .i64 255)).setCell ⟨gb257, 6, none⟩ (.int .i64 255)).setCell ⟨gb257, 7, none⟩ (.int .u32 4294967295)).setCell ⟨gb257, 8, none⟩ (.int .u32 4294967295)).setCell ⟨gb257, 9, none⟩ (.string (strOfNums y254)))) := ⟨by repeat (first | (with_reducible first | exact HB.out | apply below_alloc | apply pw_below_drewN | apply below_drew1 | refine below_set ?_ GE257.out) | exact HB.out)⟩
   (try clear HO256)
   (try clear BK257)
   (try clear HB)
   generalize ((((((((((w12.setCell ⟨gb257, 0, none⟩ (.int .i64 255)).setCell ⟨gb257, 1, none⟩ (.int .i64 65535)).setCell ⟨gb257, 2, none⟩ (.bool true)).setCell ⟨gb257, 3, none⟩ (.bool true)).setCell ⟨gb257, 4, none⟩ (.int .i64 65528)).setCell ⟨gb257, 5, none⟩ (.int .i64 255)).setCell ⟨gb257, 6, none⟩ (.int .i64 255)).setCell ⟨gb257, 7, none⟩ (.int .u32 4294967295)).setCell ⟨gb257, 8, none⟩ (.int .u32 4294967295)).setCell ⟨gb257, 9, none⟩ (.string (strOfNums y254))) = w14 at n0_ n1_ n2_ ⊢
   have HO256 := n0_
   have BK257 := n1_
   have HB := n2_
   clear n0_ n1_ n2_
   have n0_ := Aside0.mk (Kd.R_drew HO256.out)
   have n1_ := Aside0.mk (blk_drew BK257.out)
   have n2_ := Aside0.mk (below_drew1 HB.out)
   clear HO256
   clear BK257
   clear HB
   have HO256 := n0_
   have BK257 := n1_
   have HB := n2_
   clear n0_ n1_ n2_
   refine start_ (n := 9) (S := fun w' => w'.cell? ⟨gb257, 0, none⟩ = some (.int .i64 255) ∧ w'.cell? ⟨gb257, 1, none⟩ = some (.int .i64 65535) ∧ w'.cell? ⟨gb257, 2, none⟩ = some (.bool true) ∧ w'.cell? ⟨gb257, 3, none⟩ = some (.bool true) ∧ w'.cell? ⟨gb257, 4, none⟩ = some (.int .i64 65528) ∧ w'.cell? ⟨gb257, 5, none⟩ = some (.int .i64 255) ∧ w'.cell? ⟨gb257, 6, none⟩ = some (.int .i64 255) ∧ w'.cell? ⟨gb257, 7, none⟩ = some (.int .u32 4294967295) ∧ w'.cell? ⟨gb257, 8, none⟩ = some (.int .u32 4294967295) ∧ w'.cell? ⟨gb257, 9, none⟩ = some (.string (strOfNums y254))) (ds := []) #[false, false, false, false, false, false, false, false, false] (by kernel_rfl) rfl rfl ⟨(blk_cell BK257.out 0).trans rfl, (blk_cell BK257.out 1).trans rfl, (blk_cell BK257.out 2).trans rfl, (blk_cell BK257.out 3).trans rfl, (blk_cell BK257.out 4).trans rfl, (blk_cell BK257.out 5).trans rfl, (blk_cell BK257.out 6).trans rfl, (blk_cell BK257.out 7).trans rfl, (blk_cell BK257.out 8).trans rfl, (blk_cell BK257.out 9).trans rfl⟩ (fun hHeld => ?_); refine with_tabW rampartlaw03_Ipv4Edges.tab3 rampartlaw03_Ipv4Edges.bits3 (fun HT_ HW_ => ?_)
   generalize w14.drew = w15 at HO256 BK257 HB hHeld ⊢
   refine take_ (i := 0) (N := some 23) (v := ?_) (a' := ?_) #[true, false, false, false, false, false, false, false, false] rfl rfl (take_ofW HT_.out HW_.out (by kernel_rfl)) (fun _ _ _ h => h) (Or.inl ⟨by rfl, ?_⟩) hHeld ?_ ?_
   rotate_left
   ·
    rintro w' ⟨s0, s1, s2, s3, s4, s5, s6, s7, s8, s9⟩
    go_simp
    with_reducible rfl
   rotate_left
   ·
    simp only [Act.put, List.setIfInBounds_toArray, List.set_cons_zero, List.set_cons_succ, i64_w, i32_w]
    rfl
   refine one_ (i := 1) (N := some 24) #[true, true, false, false, false, false, false, false, false] rfl rfl (one_of HT_.out (by kernel_rfl)) (by decide) (fun K hK => ?_)
   refine Kd.R_make_step (Kd.int .u8) _ 5 (by rfl) (N := 24) rfl 34 _ _ rfl 2000 rfl rfl Try.underlying34 (.int .u8 0) 1 info5 rfl (by decide) (by omega) 0 (ok := fun _ => True) (okp := fun _ => True) rfl (fun _ hk => hk) trivial (by omega) (by omega) (Below.refl _ _) (Nat.le_refl _) ?_
   intro v259 w16 ho17 hb hg_ hnew_
   clear hg_ hnew_
   (first | rw [← Ny258.out] at ho17 | (simp only [Int.reduceToNat] at ho17; rw [← Ny258.out] at ho17))
   have n0_ := Aside0.mk (Kd.R_elder' (by (with_reducible repeat (first | apply Kd.R_alloc | apply Kd.R_drewN | apply Kd.R_drew)); exact HO256.out) (Kd.R_base ho17) hb)
   have n1_ := Aside0.mk (Kd.R_lower (Kd.R_new' ho17 (Kd.R_lt (by (with_reducible repeat (first | apply Kd.R_alloc | apply Kd.R_drewN | apply Kd.R_drew)); exact HO256.out))) (below_size (by repeat (first | (with_reducible first | exact HB.out | apply below_alloc | apply pw_below_drewN | apply below_drew1 | refine below_set ?_ GE257.out) | exact HB.out))))
   have n2_ := Aside0.mk (blk_below (g := gb257) (o := .cells #[.int .i64 255, .int .i64 65535, .bool true, .bool true, .int .i64 65528, .int .i64 255, .int .i64 255, .int .u32 4294967295, .int .u32 4294967295, .string (strOfNums y254)] 24 (0, 0)) (by (with_reducible repeat (first | refine blk_drewN ?_ _ | refine blk_drew ?_ | refine blk_alloc ?_ _)); exact BK257.out) hb)
   have n3_ := Aside0.mk (below_step (by repeat (first | (with_reducible first | exact HB.out | apply below_alloc | apply pw_below_drewN | apply below_drew1 | refine below_set ?_ GE257.out) | exact HB.out)) hb)
   clear HO256
   clear BK257
   clear HB
   have HO256 := n0_
   have HO260 := n1_
   have BK257 := n2_
   have HB := n3_
   clear n0_ n1_ n2_ n3_
   clear hb ho17
   refine hK.out _ _ ⟨(blk_cell BK257.out 0).trans rfl, (blk_cell BK257.out 1).trans rfl, (blk_cell BK257.out 2).trans rfl, (blk_cell BK257.out 3).trans rfl, (blk_cell BK257.out 4).trans rfl, (blk_cell BK257.out 5).trans rfl, (blk_cell BK257.out 6).trans rfl, (blk_cell BK257.out 7).trans rfl, (blk_cell BK257.out 8).trans rfl, (blk_cell BK257.out 9).trans rfl⟩ (fun hHeld => ?_)
   clear hK K
   refine norm_ (a' := ?_) ?_ ?_
   rotate_left
   ·
    show Act.put _ (some 24) _ = _
    simp only [Act.put, List.setIfInBounds_toArray, List.set_cons_zero, List.set_cons_succ, i64_w, i32_w]
    rfl
   refine one_ (i := 2) (N := some 25) #[true, true, true, false, false, false, false, false, false] rfl rfl (one_of HT_.out (by kernel_rfl)) (by decide) (fun K hK => ?_)
   have hcv18 := own_string (P := Try.prog) Try.underlying34 Try.underlying5 Try.underlying9 (Kd.own_of_R HO260.out)
   refine value_ (w1 := ?_) (v := ?_) (by rfl) rfl ?_ ?_
   rotate_left 2
   ·
    go_simp
    constructor
    ·
     rfl
    ·
     rfl
   clear hcv18
   refine hK.out _ _ ⟨(blk_cell BK257.out 0).trans rfl, (blk_cell BK257.out 1).trans rfl, (blk_cell BK257.out 2).trans rfl, (blk_cell BK257.out 3).trans rfl, (blk_cell BK257.out 4).trans rfl, (blk_cell BK257.out 5).trans rfl, (blk_cell BK257.out 6).trans rfl, (blk_cell BK257.out 7).trans rfl, (blk_cell BK257.out 8).trans rfl, (blk_cell BK257.out 9).trans rfl⟩ (fun hHeld => ?_)
   clear hK K
   refine norm_ (a' := ?_) ?_ ?_
   rotate_left
   ·
    show Act.put _ (some 25) _ = _
    simp only [Act.put, List.setIfInBounds_toArray, List.set_cons_zero, List.set_cons_succ, i64_w, i32_w]
    rfl
   refine one_ (i := 3) (N := some 26) #[true, true, true, true, false, false, false, false, false] rfl rfl (one_of HT_.out (by kernel_rfl)) (by decide) (fun K hK => ?_)
   refine goes_ Try.func16 (by kernel_rfl) rfl #[.agg #[.int .i64 255, .int .i64 65535, .bool true, .bool true, .int .i64 65528, .int .i64 255, .int .i64 255, .int .u32 4294967295, .int .u32 4294967295, .string (strOfNums y254)], .string (strOfNums y258)] (by rfl) rfl rfl (by (try simp only [List.map_toArray, List.map_cons, List.map_nil]); first | done | rfl | (simp only [List.length_drop, List.length_take]; rfl)) ?_
   with_reducible refine (ipv4_Put.calls k 255 65535 true true 65528 255 255 4294967295 4294967295 (strOfNums y254) (strOfNums y258) t261 t262 _ A6.out).mono ?_
   rintro e w19 ⟨rfl, hb⟩
   refine ⟨_, rfl, ?_⟩
   have n0_ := Aside0.mk (Kd.R_below (by (with_reducible repeat (first | apply Kd.R_alloc | apply Kd.R_drewN | apply Kd.R_drew)); exact HO256.out) hb)
   have n1_ := Aside0.mk (Kd.R_below (by (with_reducible repeat (first | apply Kd.R_alloc | apply Kd.R_drewN | apply Kd.R_drew)); exact HO260.out) hb)
   have n2_ := Aside0.mk (blk_below (g := gb257) (o := .cells #[.int .i64 255, .int .i64 65535, .bool true, .bool true, .int .i64 65528, .int .i64 255, .int .i64 255, .int .u32 4294967295, .int .u32 4294967295, .string (strOfNums y254)] 24 (0, 0)) (by (with_reducible repeat (first | refine blk_drewN ?_ _ | refine blk_drew ?_ | refine blk_alloc ?_ _)); exact BK257.out) hb)
   have n3_ := Aside0.mk (below_step (by repeat (first | (with_reducible first | exact HB.out | apply below_alloc | apply pw_below_drewN | apply below_drew1 | refine below_set ?_ GE257.out) | exact HB.out)) hb)
   clear HO256
   clear HO260
   clear BK257
   clear HB
   have HO256 := n0_
   have HO260 := n1_
   have BK257 := n2_
   have HB := n3_
   clear n0_ n1_ n2_ n3_
   (try clear hb)
   (try clear hb2)
   (try clear hk)
   (try clear hi)
   refine hK.out _ _ ⟨(blk_cell BK257.out 0).trans rfl, (blk_cell BK257.out 1).trans rfl, (blk_cell BK257.out 2).trans rfl, (blk_cell BK257.out 3).trans rfl, (blk_cell BK257.out 4).trans rfl, (blk_cell BK257.out 5).trans rfl, (blk_cell BK257.out 6).trans rfl, (blk_cell BK257.out 7).trans rfl, (blk_cell BK257.out 8).trans rfl, (blk_cell BK257.out 9).trans rfl⟩ (fun hHeld => ?_)
   clear hK K
   refine norm_ (a' := ?_) ?_ ?_
   rotate_left
   ·
    show Act.put _ (some 26) _ = _
    simp only [Act.put, List.setIfInBounds_toArray, List.set_cons_zero, List.set_cons_succ, i64_w, i32_w]
    rfl
   refine pure_ (i := 4) (N := some 22) (v := ?_) (a' := ?_) #[true, true, true, true, true, false, false, false, false] rfl rfl (any_of HT_.out (by kernel_rfl)) (fun _ _ _ h => h) (Or.inl ⟨by rfl, ?_⟩) ?_ ?_
   rotate_left
   ·
    intro w'
    go_simp
    with_reducible rfl
   rotate_left
   ·
    simp only [Act.put, List.setIfInBounds_toArray, List.set_cons_zero, List.set_cons_succ, i64_w, i32_w]
    rfl
   refine pure_ (i := 5) (N := some 27) (v := ?_) (a' := ?_) #[true, true, true, true, true, true, false, false, false] rfl rfl (any_of HT_.out (by kernel_rfl)) (fun _ _ _ h => h) (Or.inl ⟨by rfl, ?_⟩) ?_ ?_
   rotate_left
   ·
    intro w'
    go_simp
    with_reducible rfl
   rotate_left
   ·
    simp only [Act.put, List.setIfInBounds_toArray, List.set_cons_zero, List.set_cons_succ, i64_w, i32_w]
    rfl
   refine pure_ (i := 6) (N := some 28) (v := ?_) (a' := ?_) #[true, true, true, true, true, true, true, false, false] rfl rfl (any_of HT_.out (by kernel_rfl)) (fun _ _ _ h => h) (Or.inl ⟨by rfl, ?_⟩) ?_ ?_
   rotate_left
   ·
    intro w'
    go_simp
    with_reducible rfl
   rotate_left
   ·
    simp only [Act.put, List.setIfInBounds_toArray, List.set_cons_zero, List.set_cons_succ, i64_w, i32_w]
    rfl
   refine pure_ (i := 7) (N := some 7) (v := ?_) (a' := ?_) #[true, true, true, true, true, true, true, true, false] rfl rfl (any_of HT_.out (by kernel_rfl)) (fun _ _ _ h => h) (Or.inl ⟨by rfl, ?_⟩) ?_ ?_
   rotate_left
   ·
    intro w'
    go_simp
    with_reducible rfl
   rotate_left
   ·
    simp only [Act.put, List.setIfInBounds_toArray, List.set_cons_zero, List.set_cons_succ, i64_w, i32_w]
    rfl
   refine pure_ (i := 8) (N := some 8) (v := ?_) (a' := ?_) #[true, true, true, true, true, true, true, true, true] rfl rfl (any_of HT_.out (by kernel_rfl)) (fun _ _ _ h => h) (Or.inl ⟨by rfl, ?_⟩) ?_ ?_
   rotate_left
   ·
    intro w'
    go_simp
    with_reducible rfl
   rotate_left
   ·
    simp only [Act.put, List.setIfInBounds_toArray, List.set_cons_zero, List.set_cons_succ, i64_w, i32_w]
    rfl
   refine done_ (done_of HT_.out (by kernel_rfl)) ?_
   go_upto_region 5 with (first | ((with_reducible refine gate_callee (f := 18) rfl ?_); refine goesL_ (some 31) rfl rfl Try.func18 (by kernel_rfl) rfl #[.string t261] rfl (by (try simp only [List.map_toArray, List.map_cons, List.map_nil]); first | done | rfl | (simp only [List.length_drop, List.length_take]; rfl)) ?_; (with_reducible refine (ipv4_Get.calls k t261 t263 t264 t265 t266 t267 t268 t269 t270 t271 t272 t273 t274 _ A7.out).mono ?_); rintro e w20 ⟨rfl, hb⟩; refine ⟨_, rfl, ?_⟩; have n0_ := Aside0.mk (Kd.R_below (by (with_reducible repeat (first | apply Kd.R_alloc | apply Kd.R_drewN | apply Kd.R_drew)); exact HO256.out) hb); have n1_ := Aside0.mk (Kd.R_below (by (with_reducible repeat (first | apply Kd.R_alloc | apply Kd.R_drewN | apply Kd.R_drew)); exact HO260.out) hb); have n2_ := Aside0.mk (blk_below (g := gb257) (o := .cells #[.int .i64 255, .int .i64 65535, .bool true, .bool true, .int .i64 65528, .int .i64 255, .int .i64 255, .int .u32 4294967295, .int .u32 4294967295, .string (strOfNums y254)] 24 (0, 0)) (by (with_reducible repeat (first | refine blk_drewN ?_ _ | refine blk_drew ?_ | refine blk_alloc ?_ _)); exact BK257.out) hb); have n3_ := Aside0.mk (below_step (by repeat (first | (with_reducible first | exact HB.out | apply below_alloc | apply pw_below_drewN | apply below_drew1 | refine below_set ?_ GE257.out) | exact HB.out)) hb); clear HO256; clear HO260; clear BK257; clear HB; have HO256 := n0_; have HO260 := n1_; have BK257 := n2_; have HB := n3_; clear n0_ n1_ n2_ n3_; (try clear hb); (try clear hb2); (try clear hk); (try clear hi)) | ((with_reducible refine gate_dst (N := 9) rfl ?_); (try (refine gate_guard (by rfl) ?_; dsimp only)); refine box_event ?hg (N := 9) ?hd (cs := #[.int .i64 0, .int .i64 0, .bool false, .bool false, .int .i64 0, .int .i64 0, .int .i64 0, .int .u32 0, .int .u32 0, .string (⟨#[]⟩ : ByteArray)]) (t := 24) ?hr ?_; (case hd => rfl); (case hg => rfl); (case hr => first | (go_simp; done) | (go_simp; rfl)); intro gb275 hg w21 hbox hb; have n0_ := Aside0.mk (Kd.R_below (by (with_reducible repeat (first | apply Kd.R_alloc | apply Kd.R_drewN | apply Kd.R_drew)); exact HO256.out) hb); have n1_ := Aside0.mk (Kd.R_below (by (with_reducible repeat (first | apply Kd.R_alloc | apply Kd.R_drewN | apply Kd.R_drew)); exact HO260.out) hb); have n2_ := Aside0.mk (blk_below (g := gb257) (o := .cells #[.int .i64 255, .int .i64 65535, .bool true, .bool true, .int .i64 65528, .int .i64 255, .int .i64 255, .int .u32 4294967295, .int .u32 4294967295, .string (strOfNums y254)] 24 (0, 0)) (by (with_reducible repeat (first | refine blk_drewN ?_ _ | refine blk_drew ?_ | refine blk_alloc ?_ _)); exact BK257.out) hb); have n3_ := Aside0.mk (below_step (by repeat (first | (with_reducible first | exact HB.out | apply below_alloc | apply pw_below_drewN | apply below_drew1 | refine below_set ?_ GE257.out) | exact HB.out)) hb); have n4_ := Aside0.mk (hbox); have n5_ := Aside0.mk ((by rw [hg]; exact (below_size (by repeat (first | (with_reducible first | exact HB.out | apply below_alloc | apply pw_below_drewN | apply below_drew1 | refine below_set ?_ GE257.out) | exact HB.out))) : w.heap.size ≤ gb275)); have n6_ := Aside0.mk ((by rw [hg]; exact (below_size (by repeat (first | (with_reducible first | exact HB.out | apply below_alloc | apply pw_below_drewN | apply below_drew1 | refine below_set ?_ GE257.out) | exact HB.out))) : w.heap.size ≤ gb275)); have n7_ := Aside0.mk ((by rw [hg]; exact Nat.ne_of_lt (blk_lt (g := gb257) (o := .cells #[.int .i64 255, .int .i64 65535, .bool true, .bool true, .int .i64 65528, .int .i64 255, .int .i64 255, .int .u32 4294967295, .int .u32 4294967295, .string (strOfNums y254)] 24 (0, 0)) (by (with_reducible repeat (first | refine blk_drewN ?_ _ | refine blk_drew ?_ | refine blk_alloc ?_ _)); exact BK257.out)) : gb257 ≠ gb275)); have n8_ := Aside0.mk ((by rw [hg]; exact Nat.ne_of_gt (blk_lt (g := gb257) (o := .cells #[.int .i64 255, .int .i64 65535, .bool true, .bool true, .int .i64 65528, .int .i64 255, .int .i64 255, .int .u32 4294967295, .int .u32 4294967295, .string (strOfNums y254)] 24 (0, 0)) (by (with_reducible repeat (first | refine blk_drewN ?_ _ | refine blk_drew ?_ | refine blk_alloc ?_ _)); exact BK257.out)) : gb275 ≠ gb257)); clear HO256; clear HO260; clear BK257; clear HB; have HO256 := n0_; have HO260 := n1_; have BK257 := n2_; have HB := n3_; have BK275 := n4_; have GW275 := n5_; have GE275 := n6_; have NB257_275 := n7_; have NB275_257 := n8_; clear n0_ n1_ n2_ n3_ n4_ n5_ n6_ n7_ n8_; clear hb hbox hg; have hnb22 := NB275_257.out; have hnc22 := NB257_275.out; have hcz23_0 : w21.cell? ⟨gb275, 0, none⟩ = some (.int .i64 0) := (blk_cell BK275.out 0).trans rfl; have hcz23_1 : w21.cell? ⟨gb275, 1, none⟩ = some (.int .i64 0) := (blk_cell BK275.out 1).trans rfl; have hcz23_2 : w21.cell? ⟨gb275, 2, none⟩ = some (.bool false) := (blk_cell BK275.out 2).trans rfl; have hcz23_3 : w21.cell? ⟨gb275, 3, none⟩ = some (.bool false) := (blk_cell BK275.out 3).trans rfl; have hcz23_4 : w21.cell? ⟨gb275, 4, none⟩ = some (.int .i64 0) := (blk_cell BK275.out 4).trans rfl; have hcz23_5 : w21.cell? ⟨gb275, 5, none⟩ = some (.int .i64 0) := (blk_cell BK275.out 5).trans rfl; have hcz23_6 : w21.cell? ⟨gb275, 6, none⟩ = some (.int .i64 0) := (blk_cell BK275.out 6).trans rfl; have hcz23_7 : w21.cell? ⟨gb275, 7, none⟩ = some (.int .u32 0) := (blk_cell BK275.out 7).trans rfl; have hcz23_8 : w21.cell? ⟨gb275, 8, none⟩ = some (.int .u32 0) := (blk_cell BK275.out 8).trans rfl; have hcz23_9 : w21.cell? ⟨gb275, 9, none⟩ = some (.string (⟨#[]⟩ : ByteArray)) := (blk_cell BK275.out 9).trans rfl; have hfz23_0 := blk_frozen BK275.out 0; have hfz23_1 := blk_frozen BK275.out 1; have hfz23_2 := blk_frozen BK275.out 2; have hfz23_3 := blk_frozen BK275.out 3; have hfz23_4 := blk_frozen BK275.out 4; have hfz23_5 := blk_frozen BK275.out 5; have hfz23_6 := blk_frozen BK275.out 6; have hfz23_7 := blk_frozen BK275.out 7; have hfz23_8 := blk_frozen BK275.out 8; have hfz23_9 := blk_frozen BK275.out 9))
   (try simp only [Act.put, List.setIfInBounds_toArray, List.set_cons_zero, List.set_cons_succ])
   go_cut [66] (fun v66 wc => ∃ (kq : Nat) (x66_7 : Bool), v66 = .bool x66_7 ∧ Aside0 (rampartlaw03_Ipv4Edges.j0 kq a0 (wrap64 (1 + t253)) x66_7 255 65535 true true 65528 255 255 4294967295 4294967295 (strOfNums y254) = some r) ∧ Aside0 (kq ≤ k) ∧ Aside0 (wc.heap[gb257]? = some (.cells #[.int .i64 255, .int .i64 65535, .bool true, .bool true, .int .i64 65528, .int .i64 255, .int .i64 255, .int .u32 4294967295, .int .u32 4294967295, .string (strOfNums y254)] 24 (0, 0))) ∧ Aside0 (wc.heap[gb275]? = some (.cells #[.int .i64 t263, .int .i64 t264, .bool t265, .bool t266, .int .i64 t267, .int .i64 t268, .int .i64 t269, .int .u32 t270, .int .u32 t271, .string t272] 24 (0, 0))) ∧ Aside0 (Below w.heap.size w wc))
   case first =>
    have H := HC8.out
    clear HC8
    by_cases c24 : t262 = 0
    ·
     rw [if_pos c24] at H
     have c24b0 : (t262 == 0) = true := beq_iff_eq.mpr c24
     have c24b1 : (t262 != 0) = false := bne_eq_false_iff_eq.mpr c24
     clear c24
     (first | rw [c24b0] | (simp only [i64_w, i32_w]; rw [c24b0]) | skip)
     by_cases c25 : t274 = 0
     ·
      rw [if_pos c25] at H
      have c25b0 : (t274 == 0) = true := beq_iff_eq.mpr c25
      have c25b1 : (t274 != 0) = false := bne_eq_false_iff_eq.mpr c25
      clear c25
      by_cases c26 : t267 = 65528
      ·
       rw [if_pos c26] at H
       have c26b0 : (t267 == 65528) = true := beq_iff_eq.mpr c26
       have c26b1 : (t267 != 65528) = false := bne_eq_false_iff_eq.mpr c26
       clear c26
       by_cases c27 : t265 = true
       ·
        subst c27
        have H1 : (if t266 = true then (if (t273.size : Int) = 2000 then (rampartlaw03_Ipv4Edges.j0 k a0 (wrap64 (1 + t253)) ((t272.size : Int) != 40) 255 65535 true true 65528 255 255 4294967295 4294967295 (strOfNums y254)) else (rampartlaw03_Ipv4Edges.j0 k a0 (wrap64 (1 + t253)) true 255 65535 true true 65528 255 255 4294967295 4294967295 (strOfNums y254))) else (rampartlaw03_Ipv4Edges.j0 k a0 (wrap64 (1 + t253)) true 255 65535 true true 65528 255 255 4294967295 4294967295 (strOfNums y254))) = some r := by rw [if_pos rfl] at H; exact H
        clear H
        have H := H1
        clear H1
        by_cases c28 : t266 = true
        ·
         subst c28
         have H1 : (if (t273.size : Int) = 2000 then (rampartlaw03_Ipv4Edges.j0 k a0 (wrap64 (1 + t253)) ((t272.size : Int) != 40) 255 65535 true true 65528 255 255 4294967295 4294967295 (strOfNums y254)) else (rampartlaw03_Ipv4Edges.j0 k a0 (wrap64 (1 + t253)) true 255 65535 true true 65528 255 255 4294967295 4294967295 (strOfNums y254))) = some r := by rw [if_pos rfl] at H; exact H
         clear H
         have H := H1
         clear H1
         by_cases c29 : (t273.size : Int) = 2000
         ·
          rw [if_pos c29] at H
          have c29b0 : ((t273.size : Int) == 2000) = true := beq_iff_eq.mpr c29
          have c29b1 : ((t273.size : Int) != 2000) = false := bne_eq_false_iff_eq.mpr c29
          clear c29
          have H' := Aside0.mk H
          clear H
          have hnb30 := NB275_257.out
          have hnc30 := NB257_275.out
          have hcz31_0 : w21.cell? ⟨gb275, 0, none⟩ = some (.int .i64 0) := (blk_cell BK275.out 0).trans rfl
          have hcz31_1 : w21.cell? ⟨gb275, 1, none⟩ = some (.int .i64 0) := (blk_cell BK275.out 1).trans rfl
          have hcz31_2 : w21.cell? ⟨gb275, 2, none⟩ = some (.bool false) := (blk_cell BK275.out 2).trans rfl
          have hcz31_3 : w21.cell? ⟨gb275, 3, none⟩ = some (.bool false) := (blk_cell BK275.out 3).trans rfl
          have hcz31_4 : w21.cell? ⟨gb275, 4, none⟩ = some (.int .i64 0) := (blk_cell BK275.out 4).trans rfl
          have hcz31_5 : w21.cell? ⟨gb275, 5, none⟩ = some (.int .i64 0) := (blk_cell BK275.out 5).trans rfl
          have hcz31_6 : w21.cell? ⟨gb275, 6, none⟩ = some (.int .i64 0) := (blk_cell BK275.out 6).trans rfl
          have hcz31_7 : w21.cell? ⟨gb275, 7, none⟩ = some (.int .u32 0) := (blk_cell BK275.out 7).trans rfl
          have hcz31_8 : w21.cell? ⟨gb275, 8, none⟩ = some (.int .u32 0) := (blk_cell BK275.out 8).trans rfl
          have hcz31_9 : w21.cell? ⟨gb275, 9, none⟩ = some (.string (⟨#[]⟩ : ByteArray)) := (blk_cell BK275.out 9).trans rfl
          have hfz31_0 := blk_frozen BK275.out 0
          have hfz31_1 := blk_frozen BK275.out 1
          have hfz31_2 := blk_frozen BK275.out 2
          have hfz31_3 := blk_frozen BK275.out 3
          have hfz31_4 := blk_frozen BK275.out 4
          have hfz31_5 := blk_frozen BK275.out 5
          have hfz31_6 := blk_frozen BK275.out 6
          have hfz31_7 := blk_frozen BK275.out 7
          have hfz31_8 := blk_frozen BK275.out 8
          have hfz31_9 := blk_frozen BK275.out 9
          go_wp2
          go_meet
          case rel => exact ⟨_, (((t272.size : Int) != 40)), (by first | rfl | (simp; done) | (simp [*]; done)), H', ⟨by first | omega | exact Nat.le_refl _⟩, ⟨by (with_reducible repeat (first | refine blk_drewN ?_ _ | refine blk_drew ?_ | refine blk_alloc ?_ _)); refine blk_far ?_ NB257_275.out _; (with_reducible repeat (first | refine blk_drewN ?_ _ | refine blk_drew ?_ | refine blk_alloc ?_ _)); refine blk_far ?_ NB257_275.out _; (with_reducible repeat (first | refine blk_drewN ?_ _ | refine blk_drew ?_ | refine blk_alloc ?_ _)); refine blk_far ?_ NB257_275.out _; (with_reducible repeat (first | refine blk_drewN ?_ _ | refine blk_drew ?_ | refine blk_alloc ?_ _)); refine blk_far ?_ NB257_275.out _; (with_reducible repeat (first | refine blk_drewN ?_ _ | refine blk_drew ?_ | refine blk_alloc ?_ _)); refine blk_far ?_ NB257_275.out _; (with_reducible repeat (first | refine blk_drewN ?_ _ | refine blk_drew ?_ | refine blk_alloc ?_ _)); refine blk_far ?_ NB257_275.out _; (with_reducible repeat (first | refine blk_drewN ?_ _ | refine blk_drew ?_ | refine blk_alloc ?_ _)); refine blk_far ?_ NB257_275.out _; (with_reducible repeat (first | refine blk_drewN ?_ _ | refine blk_drew ?_ | refine blk_alloc ?_ _)); refine blk_far ?_ NB257_275.out _; (with_reducible repeat (first | refine blk_drewN ?_ _ | refine blk_drew ?_ | refine blk_alloc ?_ _)); refine blk_far ?_ NB257_275.out _; (with_reducible repeat (first | refine blk_drewN ?_ _ | refine blk_drew ?_ | refine blk_alloc ?_ _)); refine blk_far ?_ NB257_275.out _; (with_reducible repeat (first | refine blk_drewN ?_ _ | refine blk_drew ?_ | refine blk_alloc ?_ _)); exact BK257.out⟩, ⟨by (with_reducible repeat (first | refine blk_drewN ?_ _ | refine blk_drew ?_ | refine blk_alloc ?_ _)); refine blk_put (cs := #[.int .i64 t263, .int .i64 t264, .bool true, .bool true, .int .i64 t267, .int .i64 t268, .int .i64 t269, .int .u32 t270, .int .u32 t271, .string (⟨#[]⟩ : ByteArray)]) ?_ 9 _ rfl; (with_reducible repeat (first | refine blk_drewN ?_ _ | refine blk_drew ?_ | refine blk_alloc ?_ _)); refine blk_put (cs := #[.int .i64 t263, .int .i64 t264, .bool true, .bool true, .int .i64 t267, .int .i64 t268, .int .i64 t269, .int .u32 t270, .int .u32 0, .string (⟨#[]⟩ : ByteArray)]) ?_ 8 _ rfl; (with_reducible repeat (first | refine blk_drewN ?_ _ | refine blk_drew ?_ | refine blk_alloc ?_ _)); refine blk_put (cs := #[.int .i64 t263, .int .i64 t264, .bool true, .bool true, .int .i64 t267, .int .i64 t268, .int .i64 t269, .int .u32 0, .int .u32 0, .string (⟨#[]⟩ : ByteArray)]) ?_ 7 _ rfl; (with_reducible repeat (first | refine blk_drewN ?_ _ | refine blk_drew ?_ | refine blk_alloc ?_ _)); refine blk_put (cs := #[.int .i64 t263, .int .i64 t264, .bool true, .bool true, .int .i64 t267, .int .i64 t268, .int .i64 0, .int .u32 0, .int .u32 0, .string (⟨#[]⟩ : ByteArray)]) ?_ 6 _ rfl; (with_reducible repeat (first | refine blk_drewN ?_ _ | refine blk_drew ?_ | refine blk_alloc ?_ _)); refine blk_put (cs := #[.int .i64 t263, .int .i64 t264, .bool true, .bool true, .int .i64 t267, .int .i64 0, .int .i64 0, .int .u32 0, .int .u32 0, .string (⟨#[]⟩ : ByteArray)]) ?_ 5 _ rfl; (with_reducible repeat (first | refine blk_drewN ?_ _ | refine blk_drew ?_ | refine blk_alloc ?_ _)); refine blk_put (cs := #[.int .i64 t263, .int .i64 t264, .bool true, .bool true, .int .i64 0, .int .i64 0, .int .i64 0, .int .u32 0, .int .u32 0, .string (⟨#[]⟩ : ByteArray)]) ?_ 4 _ rfl; (with_reducible repeat (first | refine blk_drewN ?_ _ | refine blk_drew ?_ | refine blk_alloc ?_ _)); refine blk_put (cs := #[.int .i64 t263, .int .i64 t264, .bool true, .bool false, .int .i64 0, .int .i64 0, .int .i64 0, .int .u32 0, .int .u32 0, .string (⟨#[]⟩ : ByteArray)]) ?_ 3 _ rfl; (with_reducible repeat (first | refine blk_drewN ?_ _ | refine blk_drew ?_ | refine blk_alloc ?_ _)); refine blk_put (cs := #[.int .i64 t263, .int .i64 t264, .bool false, .bool false, .int .i64 0, .int .i64 0, .int .i64 0, .int .u32 0, .int .u32 0, .string (⟨#[]⟩ : ByteArray)]) ?_ 2 _ rfl; (with_reducible repeat (first | refine blk_drewN ?_ _ | refine blk_drew ?_ | refine blk_alloc ?_ _)); refine blk_put (cs := #[.int .i64 t263, .int .i64 0, .bool false, .bool false, .int .i64 0, .int .i64 0, .int .i64 0, .int .u32 0, .int .u32 0, .string (⟨#[]⟩ : ByteArray)]) ?_ 1 _ rfl; (with_reducible repeat (first | refine blk_drewN ?_ _ | refine blk_drew ?_ | refine blk_alloc ?_ _)); refine blk_put (cs := #[.int .i64 0, .int .i64 0, .bool false, .bool false, .int .i64 0, .int .i64 0, .int .i64 0, .int .u32 0, .int .u32 0, .string (⟨#[]⟩ : ByteArray)]) ?_ 0 _ rfl; (with_reducible repeat (first | refine blk_drewN ?_ _ | refine blk_drew ?_ | refine blk_alloc ?_ _)); exact BK275.out⟩, ⟨by repeat (first | (with_reducible first | exact HB.out | apply below_alloc | apply pw_below_drewN | apply below_drew1 | refine below_set ?_ GE257.out | refine below_set ?_ GE275.out) | exact HB.out)⟩⟩
         ·
          rw [if_neg c29] at H
          have c29b0 : ((t273.size : Int) == 2000) = false := beq_eq_false_iff_ne.mpr c29
          have c29b1 : ((t273.size : Int) != 2000) = true := bne_iff_ne.mpr c29
          have H' := Aside0.mk H
          clear H
          have hnb32 := NB275_257.out
          have hnc32 := NB257_275.out
          have hcz33_0 : w21.cell? ⟨gb275, 0, none⟩ = some (.int .i64 0) := (blk_cell BK275.out 0).trans rfl
          have hcz33_1 : w21.cell? ⟨gb275, 1, none⟩ = some (.int .i64 0) := (blk_cell BK275.out 1).trans rfl
          have hcz33_2 : w21.cell? ⟨gb275, 2, none⟩ = some (.bool false) := (blk_cell BK275.out 2).trans rfl
          have hcz33_3 : w21.cell? ⟨gb275, 3, none⟩ = some (.bool false) := (blk_cell BK275.out 3).trans rfl
          have hcz33_4 : w21.cell? ⟨gb275, 4, none⟩ = some (.int .i64 0) := (blk_cell BK275.out 4).trans rfl
          have hcz33_5 : w21.cell? ⟨gb275, 5, none⟩ = some (.int .i64 0) := (blk_cell BK275.out 5).trans rfl
          have hcz33_6 : w21.cell? ⟨gb275, 6, none⟩ = some (.int .i64 0) := (blk_cell BK275.out 6).trans rfl
          have hcz33_7 : w21.cell? ⟨gb275, 7, none⟩ = some (.int .u32 0) := (blk_cell BK275.out 7).trans rfl
          have hcz33_8 : w21.cell? ⟨gb275, 8, none⟩ = some (.int .u32 0) := (blk_cell BK275.out 8).trans rfl
          have hcz33_9 : w21.cell? ⟨gb275, 9, none⟩ = some (.string (⟨#[]⟩ : ByteArray)) := (blk_cell BK275.out 9).trans rfl
          have hfz33_0 := blk_frozen BK275.out 0
          have hfz33_1 := blk_frozen BK275.out 1
          have hfz33_2 := blk_frozen BK275.out 2
          have hfz33_3 := blk_frozen BK275.out 3
          have hfz33_4 := blk_frozen BK275.out 4
          have hfz33_5 := blk_frozen BK275.out 5
          have hfz33_6 := blk_frozen BK275.out 6
          have hfz33_7 := blk_frozen BK275.out 7
          have hfz33_8 := blk_frozen BK275.out 8
          have hfz33_9 := blk_frozen BK275.out 9
          go_wp2
          go_meet
          case rel => exact ⟨_, (true), (by first | rfl | (simp; done) | (simp [*]; done)), H', ⟨by first | omega | exact Nat.le_refl _⟩, ⟨by (with_reducible repeat (first | refine blk_drewN ?_ _ | refine blk_drew ?_ | refine blk_alloc ?_ _)); refine blk_far ?_ NB257_275.out _; (with_reducible repeat (first | refine blk_drewN ?_ _ | refine blk_drew ?_ | refine blk_alloc ?_ _)); refine blk_far ?_ NB257_275.out _; (with_reducible repeat (first | refine blk_drewN ?_ _ | refine blk_drew ?_ | refine blk_alloc ?_ _)); refine blk_far ?_ NB257_275.out _; (with_reducible repeat (first | refine blk_drewN ?_ _ | refine blk_drew ?_ | refine blk_alloc ?_ _)); refine blk_far ?_ NB257_275.out _; (with_reducible repeat (first | refine blk_drewN ?_ _ | refine blk_drew ?_ | refine blk_alloc ?_ _)); refine blk_far ?_ NB257_275.out _; (with_reducible repeat (first | refine blk_drewN ?_ _ | refine blk_drew ?_ | refine blk_alloc ?_ _)); refine blk_far ?_ NB257_275.out _; (with_reducible repeat (first | refine blk_drewN ?_ _ | refine blk_drew ?_ | refine blk_alloc ?_ _)); refine blk_far ?_ NB257_275.out _; (with_reducible repeat (first | refine blk_drewN ?_ _ | refine blk_drew ?_ | refine blk_alloc ?_ _)); refine blk_far ?_ NB257_275.out _; (with_reducible repeat (first | refine blk_drewN ?_ _ | refine blk_drew ?_ | refine blk_alloc ?_ _)); refine blk_far ?_ NB257_275.out _; (with_reducible repeat (first | refine blk_drewN ?_ _ | refine blk_drew ?_ | refine blk_alloc ?_ _)); refine blk_far ?_ NB257_275.out _; (with_reducible repeat (first | refine blk_drewN ?_ _ | refine blk_drew ?_ | refine blk_alloc ?_ _)); exact BK257.out⟩, ⟨by (with_reducible repeat (first | refine blk_drewN ?_ _ | refine blk_drew ?_ | refine blk_alloc ?_ _)); refine blk_put (cs := #[.int .i64 t263, .int .i64 t264, .bool true, .bool true, .int .i64 t267, .int .i64 t268, .int .i64 t269, .int .u32 t270, .int .u32 t271, .string (⟨#[]⟩ : ByteArray)]) ?_ 9 _ rfl; (with_reducible repeat (first | refine blk_drewN ?_ _ | refine blk_drew ?_ | refine blk_alloc ?_ _)); refine blk_put (cs := #[.int .i64 t263, .int .i64 t264, .bool true, .bool true, .int .i64 t267, .int .i64 t268, .int .i64 t269, .int .u32 t270, .int .u32 0, .string (⟨#[]⟩ : ByteArray)]) ?_ 8 _ rfl; (with_reducible repeat (first | refine blk_drewN ?_ _ | refine blk_drew ?_ | refine blk_alloc ?_ _)); refine blk_put (cs := #[.int .i64 t263, .int .i64 t264, .bool true, .bool true, .int .i64 t267, .int .i64 t268, .int .i64 t269, .int .u32 0, .int .u32 0, .string (⟨#[]⟩ : ByteArray)]) ?_ 7 _ rfl; (with_reducible repeat (first | refine blk_drewN ?_ _ | refine blk_drew ?_ | refine blk_alloc ?_ _)); refine blk_put (cs := #[.int .i64 t263, .int .i64 t264, .bool true, .bool true, .int .i64 t267, .int .i64 t268, .int .i64 0, .int .u32 0, .int .u32 0, .string (⟨#[]⟩ : ByteArray)]) ?_ 6 _ rfl; (with_reducible repeat (first | refine blk_drewN ?_ _ | refine blk_drew ?_ | refine blk_alloc ?_ _)); refine blk_put (cs := #[.int .i64 t263, .int .i64 t264, .bool true, .bool true, .int .i64 t267, .int .i64 0, .int .i64 0, .int .u32 0, .int .u32 0, .string (⟨#[]⟩ : ByteArray)]) ?_ 5 _ rfl; (with_reducible repeat (first | refine blk_drewN ?_ _ | refine blk_drew ?_ | refine blk_alloc ?_ _)); refine blk_put (cs := #[.int .i64 t263, .int .i64 t264, .bool true, .bool true, .int .i64 0, .int .i64 0, .int .i64 0, .int .u32 0, .int .u32 0, .string (⟨#[]⟩ : ByteArray)]) ?_ 4 _ rfl; (with_reducible repeat (first | refine blk_drewN ?_ _ | refine blk_drew ?_ | refine blk_alloc ?_ _)); refine blk_put (cs := #[.int .i64 t263, .int .i64 t264, .bool true, .bool false, .int .i64 0, .int .i64 0, .int .i64 0, .int .u32 0, .int .u32 0, .string (⟨#[]⟩ : ByteArray)]) ?_ 3 _ rfl; (with_reducible repeat (first | refine blk_drewN ?_ _ | refine blk_drew ?_ | refine blk_alloc ?_ _)); refine blk_put (cs := #[.int .i64 t263, .int .i64 t264, .bool false, .bool false, .int .i64 0, .int .i64 0, .int .i64 0, .int .u32 0, .int .u32 0, .string (⟨#[]⟩ : ByteArray)]) ?_ 2 _ rfl; (with_reducible repeat (first | refine blk_drewN ?_ _ | refine blk_drew ?_ | refine blk_alloc ?_ _)); refine blk_put (cs := #[.int .i64 t263, .int .i64 0, .bool false, .bool false, .int .i64 0, .int .i64 0, .int .i64 0, .int .u32 0, .int .u32 0, .string (⟨#[]⟩ : ByteArray)]) ?_ 1 _ rfl; (with_reducible repeat (first | refine blk_drewN ?_ _ | refine blk_drew ?_ | refine blk_alloc ?_ _)); refine blk_put (cs := #[.int .i64 0, .int .i64 0, .bool false, .bool false, .int .i64 0, .int .i64 0, .int .i64 0, .int .u32 0, .int .u32 0, .string (⟨#[]⟩ : ByteArray)]) ?_ 0 _ rfl; (with_reducible repeat (first | refine blk_drewN ?_ _ | refine blk_drew ?_ | refine blk_alloc ?_ _)); exact BK275.out⟩, ⟨by repeat (first | (with_reducible first | exact HB.out | apply below_alloc | apply pw_below_drewN | apply below_drew1 | refine below_set ?_ GE257.out | refine below_set ?_ GE275.out) | exact HB.out)⟩⟩
        ·
         replace c28 := Bool.eq_false_iff.mpr c28
         subst c28
         have H1 : (rampartlaw03_Ipv4Edges.j0 k a0 (wrap64 (1 + t253)) true 255 65535 true true 65528 255 255 4294967295 4294967295 (strOfNums y254)) = some r := by rw [if_neg (show ¬ (false = true) by decide)] at H; exact H
         clear H
         have H := H1
         clear H1
         have H' := Aside0.mk H
         clear H
         have hnb34 := NB275_257.out
         have hnc34 := NB257_275.out
         have hcz35_0 : w21.cell? ⟨gb275, 0, none⟩ = some (.int .i64 0) := (blk_cell BK275.out 0).trans rfl
         have hcz35_1 : w21.cell? ⟨gb275, 1, none⟩ = some (.int .i64 0) := (blk_cell BK275.out 1).trans rfl
         have hcz35_2 : w21.cell? ⟨gb275, 2, none⟩ = some (.bool false) := (blk_cell BK275.out 2).trans rfl
         have hcz35_3 : w21.cell? ⟨gb275, 3, none⟩ = some (.bool false) := (blk_cell BK275.out 3).trans rfl
         have hcz35_4 : w21.cell? ⟨gb275, 4, none⟩ = some (.int .i64 0) := (blk_cell BK275.out 4).trans rfl
         have hcz35_5 : w21.cell? ⟨gb275, 5, none⟩ = some (.int .i64 0) := (blk_cell BK275.out 5).trans rfl
         have hcz35_6 : w21.cell? ⟨gb275, 6, none⟩ = some (.int .i64 0) := (blk_cell BK275.out 6).trans rfl
         have hcz35_7 : w21.cell? ⟨gb275, 7, none⟩ = some (.int .u32 0) := (blk_cell BK275.out 7).trans rfl
         have hcz35_8 : w21.cell? ⟨gb275, 8, none⟩ = some (.int .u32 0) := (blk_cell BK275.out 8).trans rfl
         have hcz35_9 : w21.cell? ⟨gb275, 9, none⟩ = some (.string (⟨#[]⟩ : ByteArray)) := (blk_cell BK275.out 9).trans rfl
         have hfz35_0 := blk_frozen BK275.out 0
         have hfz35_1 := blk_frozen BK275.out 1
         have hfz35_2 := blk_frozen BK275.out 2
         have hfz35_3 := blk_frozen BK275.out 3
         have hfz35_4 := blk_frozen BK275.out 4
         have hfz35_5 := blk_frozen BK275.out 5
         have hfz35_6 := blk_frozen BK275.out 6
         have hfz35_7 := blk_frozen BK275.out 7
         have hfz35_8 := blk_frozen BK275.out 8
         have hfz35_9 := blk_frozen BK275.out 9
         go_wp2
         go_meet
         case rel => exact ⟨_, (true), (by first | rfl | (simp; done) | (simp [*]; done)), H', ⟨by first | omega | exact Nat.le_refl _⟩, ⟨by (with_reducible repeat (first | refine blk_drewN ?_ _ | refine blk_drew ?_ | refine blk_alloc ?_ _)); refine blk_far ?_ NB257_275.out _; (with_reducible repeat (first | refine blk_drewN ?_ _ | refine blk_drew ?_ | refine blk_alloc ?_ _)); refine blk_far ?_ NB257_275.out _; (with_reducible repeat (first | refine blk_drewN ?_ _ | refine blk_drew ?_ | refine blk_alloc ?_ _)); refine blk_far ?_ NB257_275.out _; (with_reducible repeat (first | refine blk_drewN ?_ _ | refine blk_drew ?_ | refine blk_alloc ?_ _)); refine blk_far ?_ NB257_275.out _; (with_reducible repeat (first | refine blk_drewN ?_ _ | refine blk_drew ?_ | refine blk_alloc ?_ _)); refine blk_far ?_ NB257_275.out _; (with_reducible repeat (first | refine blk_drewN ?_ _ | refine blk_drew ?_ | refine blk_alloc ?_ _)); refine blk_far ?_ NB257_275.out _; (with_reducible repeat (first | refine blk_drewN ?_ _ | refine blk_drew ?_ | refine blk_alloc ?_ _)); refine blk_far ?_ NB257_275.out _; (with_reducible repeat (first | refine blk_drewN ?_ _ | refine blk_drew ?_ | refine blk_alloc ?_ _)); refine blk_far ?_ NB257_275.out _; (with_reducible repeat (first | refine blk_drewN ?_ _ | refine blk_drew ?_ | refine blk_alloc ?_ _)); refine blk_far ?_ NB257_275.out _; (with_reducible repeat (first | refine blk_drewN ?_ _ | refine blk_drew ?_ | refine blk_alloc ?_ _)); refine blk_far ?_ NB257_275.out _; (with_reducible repeat (first | refine blk_drewN ?_ _ | refine blk_drew ?_ | refine blk_alloc ?_ _)); exact BK257.out⟩, ⟨by (with_reducible repeat (first | refine blk_drewN ?_ _ | refine blk_drew ?_ | refine blk_alloc ?_ _)); refine blk_put (cs := #[.int .i64 t263, .int .i64 t264, .bool true, .bool false, .int .i64 t267, .int .i64 t268, .int .i64 t269, .int .u32 t270, .int .u32 t271, .string (⟨#[]⟩ : ByteArray)]) ?_ 9 _ rfl; (with_reducible repeat (first | refine blk_drewN ?_ _ | refine blk_drew ?_ | refine blk_alloc ?_ _)); refine blk_put (cs := #[.int .i64 t263, .int .i64 t264, .bool true, .bool false, .int .i64 t267, .int .i64 t268, .int .i64 t269, .int .u32 t270, .int .u32 0, .string (⟨#[]⟩ : ByteArray)]) ?_ 8 _ rfl; (with_reducible repeat (first | refine blk_drewN ?_ _ | refine blk_drew ?_ | refine blk_alloc ?_ _)); refine blk_put (cs := #[.int .i64 t263, .int .i64 t264, .bool true, .bool false, .int .i64 t267, .int .i64 t268, .int .i64 t269, .int .u32 0, .int .u32 0, .string (⟨#[]⟩ : ByteArray)]) ?_ 7 _ rfl; (with_reducible repeat (first | refine blk_drewN ?_ _ | refine blk_drew ?_ | refine blk_alloc ?_ _)); refine blk_put (cs := #[.int .i64 t263, .int .i64 t264, .bool true, .bool false, .int .i64 t267, .int .i64 t268, .int .i64 0, .int .u32 0, .int .u32 0, .string (⟨#[]⟩ : ByteArray)]) ?_ 6 _ rfl; (with_reducible repeat (first | refine blk_drewN ?_ _ | refine blk_drew ?_ | refine blk_alloc ?_ _)); refine blk_put (cs := #[.int .i64 t263, .int .i64 t264, .bool true, .bool false, .int .i64 t267, .int .i64 0, .int .i64 0, .int .u32 0, .int .u32 0, .string (⟨#[]⟩ : ByteArray)]) ?_ 5 _ rfl; (with_reducible repeat (first | refine blk_drewN ?_ _ | refine blk_drew ?_ | refine blk_alloc ?_ _)); refine blk_put (cs := #[.int .i64 t263, .int .i64 t264, .bool true, .bool false, .int .i64 0, .int .i64 0, .int .i64 0, .int .u32 0, .int .u32 0, .string (⟨#[]⟩ : ByteArray)]) ?_ 4 _ rfl; (with_reducible repeat (first | refine blk_drewN ?_ _ | refine blk_drew ?_ | refine blk_alloc ?_ _)); refine blk_put (cs := #[.int .i64 t263, .int .i64 t264, .bool true, .bool false, .int .i64 0, .int .i64 0, .int .i64 0, .int .u32 0, .int .u32 0, .string (⟨#[]⟩ : ByteArray)]) ?_ 3 _ rfl; (with_reducible repeat (first | refine blk_drewN ?_ _ | refine blk_drew ?_ | refine blk_alloc ?_ _)); refine blk_put (cs := #[.int .i64 t263, .int .i64 t264, .bool false, .bool false, .int .i64 0, .int .i64 0, .int .i64 0, .int .u32 0, .int .u32 0, .string (⟨#[]⟩ : ByteArray)]) ?_ 2 _ rfl; (with_reducible repeat (first | refine blk_drewN ?_ _ | refine blk_drew ?_ | refine blk_alloc ?_ _)); refine blk_put (cs := #[.int .i64 t263, .int .i64 0, .bool false, .bool false, .int .i64 0, .int .i64 0, .int .i64 0, .int .u32 0, .int .u32 0, .string (⟨#[]⟩ : ByteArray)]) ?_ 1 _ rfl; (with_reducible repeat (first | refine blk_drewN ?_ _ | refine blk_drew ?_ | refine blk_alloc ?_ _)); refine blk_put (cs := #[.int .i64 0, .int .i64 0, .bool false, .bool false, .int .i64 0, .int .i64 0, .int .i64 0, .int .u32 0, .int .u32 0, .string (⟨#[]⟩ : ByteArray)]) ?_ 0 _ rfl; (with_reducible repeat (first | refine blk_drewN ?_ _ | refine blk_drew ?_ | refine blk_alloc ?_ _)); exact BK275.out⟩, ⟨by repeat (first | (with_reducible first | exact HB.out | apply below_alloc | apply pw_below_drewN | apply below_drew1 | refine below_set ?_ GE257.out | refine below_set ?_ GE275.out) | exact HB.out)⟩⟩
       ·
        replace c27 := Bool.eq_false_iff.mpr c27
        subst c27
        have H1 : (rampartlaw03_Ipv4Edges.j0 k a0 (wrap64 (1 + t253)) true 255 65535 true true 65528 255 255 4294967295 4294967295 (strOfNums y254)) = some r := by rw [if_neg (show ¬ (false = true) by decide)] at H; exact H
        clear H
        have H := H1
        clear H1
        have H' := Aside0.mk H
        clear H
        have hnb36 := NB275_257.out
        have hnc36 := NB257_275.out
        have hcz37_0 : w21.cell? ⟨gb275, 0, none⟩ = some (.int .i64 0) := (blk_cell BK275.out 0).trans rfl
        have hcz37_1 : w21.cell? ⟨gb275, 1, none⟩ = some (.int .i64 0) := (blk_cell BK275.out 1).trans rfl
        have hcz37_2 : w21.cell? ⟨gb275, 2, none⟩ = some (.bool false) := (blk_cell BK275.out 2).trans rfl
        have hcz37_3 : w21.cell? ⟨gb275, 3, none⟩ = some (.bool false) := (blk_cell BK275.out 3).trans rfl
        have hcz37_4 : w21.cell? ⟨gb275, 4, none⟩ = some (.int .i64 0) := (blk_cell BK275.out 4).trans rfl
        have hcz37_5 : w21.cell? ⟨gb275, 5, none⟩ = some (.int .i64 0) := (blk_cell BK275.out 5).trans rfl
        have hcz37_6 : w21.cell? ⟨gb275, 6, none⟩ = some (.int .i64 0) := (blk_cell BK275.out 6).trans rfl
        have hcz37_7 : w21.cell? ⟨gb275, 7, none⟩ = some (.int .u32 0) := (blk_cell BK275.out 7).trans rfl
        have hcz37_8 : w21.cell? ⟨gb275, 8, none⟩ = some (.int .u32 0) := (blk_cell BK275.out 8).trans rfl
        have hcz37_9 : w21.cell? ⟨gb275, 9, none⟩ = some (.string (⟨#[]⟩ : ByteArray)) := (blk_cell BK275.out 9).trans rfl
        have hfz37_0 := blk_frozen BK275.out 0
        have hfz37_1 := blk_frozen BK275.out 1
        have hfz37_2 := blk_frozen BK275.out 2
        have hfz37_3 := blk_frozen BK275.out 3
        have hfz37_4 := blk_frozen BK275.out 4
        have hfz37_5 := blk_frozen BK275.out 5
        have hfz37_6 := blk_frozen BK275.out 6
        have hfz37_7 := blk_frozen BK275.out 7
        have hfz37_8 := blk_frozen BK275.out 8
        have hfz37_9 := blk_frozen BK275.out 9
        go_wp2
        go_meet
        case rel => exact ⟨_, (true), (by first | rfl | (simp; done) | (simp [*]; done)), H', ⟨by first | omega | exact Nat.le_refl _⟩, ⟨by (with_reducible repeat (first | refine blk_drewN ?_ _ | refine blk_drew ?_ | refine blk_alloc ?_ _)); refine blk_far ?_ NB257_275.out _; (with_reducible repeat (first | refine blk_drewN ?_ _ | refine blk_drew ?_ | refine blk_alloc ?_ _)); refine blk_far ?_ NB257_275.out _; (with_reducible repeat (first | refine blk_drewN ?_ _ | refine blk_drew ?_ | refine blk_alloc ?_ _)); refine blk_far ?_ NB257_275.out _; (with_reducible repeat (first | refine blk_drewN ?_ _ | refine blk_drew ?_ | refine blk_alloc ?_ _)); refine blk_far ?_ NB257_275.out _; (with_reducible repeat (first | refine blk_drewN ?_ _ | refine blk_drew ?_ | refine blk_alloc ?_ _)); refine blk_far ?_ NB257_275.out _; (with_reducible repeat (first | refine blk_drewN ?_ _ | refine blk_drew ?_ | refine blk_alloc ?_ _)); refine blk_far ?_ NB257_275.out _; (with_reducible repeat (first | refine blk_drewN ?_ _ | refine blk_drew ?_ | refine blk_alloc ?_ _)); refine blk_far ?_ NB257_275.out _; (with_reducible repeat (first | refine blk_drewN ?_ _ | refine blk_drew ?_ | refine blk_alloc ?_ _)); refine blk_far ?_ NB257_275.out _; (with_reducible repeat (first | refine blk_drewN ?_ _ | refine blk_drew ?_ | refine blk_alloc ?_ _)); refine blk_far ?_ NB257_275.out _; (with_reducible repeat (first | refine blk_drewN ?_ _ | refine blk_drew ?_ | refine blk_alloc ?_ _)); refine blk_far ?_ NB257_275.out _; (with_reducible repeat (first | refine blk_drewN ?_ _ | refine blk_drew ?_ | refine blk_alloc ?_ _)); exact BK257.out⟩, ⟨by (with_reducible repeat (first | refine blk_drewN ?_ _ | refine blk_drew ?_ | refine blk_alloc ?_ _)); refine blk_put (cs := #[.int .i64 t263, .int .i64 t264, .bool false, .bool t266, .int .i64 t267, .int .i64 t268, .int .i64 t269, .int .u32 t270, .int .u32 t271, .string (⟨#[]⟩ : ByteArray)]) ?_ 9 _ rfl; (with_reducible repeat (first | refine blk_drewN ?_ _ | refine blk_drew ?_ | refine blk_alloc ?_ _)); refine blk_put (cs := #[.int .i64 t263, .int .i64 t264, .bool false, .bool t266, .int .i64 t267, .int .i64 t268, .int .i64 t269, .int .u32 t270, .int .u32 0, .string (⟨#[]⟩ : ByteArray)]) ?_ 8 _ rfl; (with_reducible repeat (first | refine blk_drewN ?_ _ | refine blk_drew ?_ | refine blk_alloc ?_ _)); refine blk_put (cs := #[.int .i64 t263, .int .i64 t264, .bool false, .bool t266, .int .i64 t267, .int .i64 t268, .int .i64 t269, .int .u32 0, .int .u32 0, .string (⟨#[]⟩ : ByteArray)]) ?_ 7 _ rfl; (with_reducible repeat (first | refine blk_drewN ?_ _ | refine blk_drew ?_ | refine blk_alloc ?_ _)); refine blk_put (cs := #[.int .i64 t263, .int .i64 t264, .bool false, .bool t266, .int .i64 t267, .int .i64 t268, .int .i64 0, .int .u32 0, .int .u32 0, .string (⟨#[]⟩ : ByteArray)]) ?_ 6 _ rfl; (with_reducible repeat (first | refine blk_drewN ?_ _ | refine blk_drew ?_ | refine blk_alloc ?_ _)); refine blk_put (cs := #[.int .i64 t263, .int .i64 t264, .bool false, .bool t266, .int .i64 t267, .int .i64 0, .int .i64 0, .int .u32 0, .int .u32 0, .string (⟨#[]⟩ : ByteArray)]) ?_ 5 _ rfl; (with_reducible repeat (first | refine blk_drewN ?_ _ | refine blk_drew ?_ | refine blk_alloc ?_ _)); refine blk_put (cs := #[.int .i64 t263, .int .i64 t264, .bool false, .bool t266, .int .i64 0, .int .i64 0, .int .i64 0, .int .u32 0, .int .u32 0, .string (⟨#[]⟩ : ByteArray)]) ?_ 4 _ rfl; (with_reducible repeat (first | refine blk_drewN ?_ _ | refine blk_drew ?_ | refine blk_alloc ?_ _)); refine blk_put (cs := #[.int .i64 t263, .int .i64 t264, .bool false, .bool false, .int .i64 0, .int .i64 0, .int .i64 0, .int .u32 0, .int .u32 0, .string (⟨#[]⟩ : ByteArray)]) ?_ 3 _ rfl; (with_reducible repeat (first | refine blk_drewN ?_ _ | refine blk_drew ?_ | refine blk_alloc ?_ _)); refine blk_put (cs := #[.int .i64 t263, .int .i64 t264, .bool false, .bool false, .int .i64 0, .int .i64 0, .int .i64 0, .int .u32 0, .int .u32 0, .string (⟨#[]⟩ : ByteArray)]) ?_ 2 _ rfl; (with_reducible repeat (first | refine blk_drewN ?_ _ | refine blk_drew ?_ | refine blk_alloc ?_ _)); refine blk_put (cs := #[.int .i64 t263, .int .i64 0, .bool false, .bool false, .int .i64 0, .int .i64 0, .int .i64 0, .int .u32 0, .int .u32 0, .string (⟨#[]⟩ : ByteArray)]) ?_ 1 _ rfl; (with_reducible repeat (first | refine blk_drewN ?_ _ | refine blk_drew ?_ | refine blk_alloc ?_ _)); refine blk_put (cs := #[.int .i64 0, .int .i64 0, .bool false, .bool false, .int .i64 0, .int .i64 0, .int .i64 0, .int .u32 0, .int .u32 0, .string (⟨#[]⟩ : ByteArray)]) ?_ 0 _ rfl; (with_reducible repeat (first | refine blk_drewN ?_ _ | refine blk_drew ?_ | refine blk_alloc ?_ _)); exact BK275.out⟩, ⟨by repeat (first | (with_reducible first | exact HB.out | apply below_alloc | apply pw_below_drewN | apply below_drew1 | refine below_set ?_ GE257.out | refine below_set ?_ GE275.out) | exact HB.out)⟩⟩
      ·
       rw [if_neg c26] at H
       have c26b0 : (t267 == 65528) = false := beq_eq_false_iff_ne.mpr c26
       have c26b1 : (t267 != 65528) = true := bne_iff_ne.mpr c26
       have H' := Aside0.mk H
       clear H
       have hnb38 := NB275_257.out
       have hnc38 := NB257_275.out
       have hcz39_0 : w21.cell? ⟨gb275, 0, none⟩ = some (.int .i64 0) := (blk_cell BK275.out 0).trans rfl
       have hcz39_1 : w21.cell? ⟨gb275, 1, none⟩ = some (.int .i64 0) := (blk_cell BK275.out 1).trans rfl
       have hcz39_2 : w21.cell? ⟨gb275, 2, none⟩ = some (.bool false) := (blk_cell BK275.out 2).trans rfl
       have hcz39_3 : w21.cell? ⟨gb275, 3, none⟩ = some (.bool false) := (blk_cell BK275.out 3).trans rfl
       have hcz39_4 : w21.cell? ⟨gb275, 4, none⟩ = some (.int .i64 0) := (blk_cell BK275.out 4).trans rfl
       have hcz39_5 : w21.cell? ⟨gb275, 5, none⟩ = some (.int .i64 0) := (blk_cell BK275.out 5).trans rfl
       have hcz39_6 : w21.cell? ⟨gb275, 6, none⟩ = some (.int .i64 0) := (blk_cell BK275.out 6).trans rfl
       have hcz39_7 : w21.cell? ⟨gb275, 7, none⟩ = some (.int .u32 0) := (blk_cell BK275.out 7).trans rfl
       have hcz39_8 : w21.cell? ⟨gb275, 8, none⟩ = some (.int .u32 0) := (blk_cell BK275.out 8).trans rfl
       have hcz39_9 : w21.cell? ⟨gb275, 9, none⟩ = some (.string (⟨#[]⟩ : ByteArray)) := (blk_cell BK275.out 9).trans rfl
       have hfz39_0 := blk_frozen BK275.out 0
       have hfz39_1 := blk_frozen BK275.out 1
       have hfz39_2 := blk_frozen BK275.out 2
       have hfz39_3 := blk_frozen BK275.out 3
       have hfz39_4 := blk_frozen BK275.out 4
       have hfz39_5 := blk_frozen BK275.out 5
       have hfz39_6 := blk_frozen BK275.out 6
       have hfz39_7 := blk_frozen BK275.out 7
       have hfz39_8 := blk_frozen BK275.out 8
       have hfz39_9 := blk_frozen BK275.out 9
       go_wp2
       go_meet
       case rel => exact ⟨_, (true), (by first | rfl | (simp; done) | (simp [*]; done)), H', ⟨by first | omega | exact Nat.le_refl _⟩, ⟨by (with_reducible repeat (first | refine blk_drewN ?_ _ | refine blk_drew ?_ | refine blk_alloc ?_ _)); refine blk_far ?_ NB257_275.out _; (with_reducible repeat (first | refine blk_drewN ?_ _ | refine blk_drew ?_ | refine blk_alloc ?_ _)); refine blk_far ?_ NB257_275.out _; (with_reducible repeat (first | refine blk_drewN ?_ _ | refine blk_drew ?_ | refine blk_alloc ?_ _)); refine blk_far ?_ NB257_275.out _; (with_reducible repeat (first | refine blk_drewN ?_ _ | refine blk_drew ?_ | refine blk_alloc ?_ _)); refine blk_far ?_ NB257_275.out _; (with_reducible repeat (first | refine blk_drewN ?_ _ | refine blk_drew ?_ | refine blk_alloc ?_ _)); refine blk_far ?_ NB257_275.out _; (with_reducible repeat (first | refine blk_drewN ?_ _ | refine blk_drew ?_ | refine blk_alloc ?_ _)); refine blk_far ?_ NB257_275.out _; (with_reducible repeat (first | refine blk_drewN ?_ _ | refine blk_drew ?_ | refine blk_alloc ?_ _)); refine blk_far ?_ NB257_275.out _; (with_reducible repeat (first | refine blk_drewN ?_ _ | refine blk_drew ?_ | refine blk_alloc ?_ _)); refine blk_far ?_ NB257_275.out _; (with_reducible repeat (first | refine blk_drewN ?_ _ | refine blk_drew ?_ | refine blk_alloc ?_ _)); refine blk_far ?_ NB257_275.out _; (with_reducible repeat (first | refine blk_drewN ?_ _ | refine blk_drew ?_ | refine blk_alloc ?_ _)); refine blk_far ?_ NB257_275.out _; (with_reducible repeat (first | refine blk_drewN ?_ _ | refine blk_drew ?_ | refine blk_alloc ?_ _)); exact BK257.out⟩, ⟨by (with_reducible repeat (first | refine blk_drewN ?_ _ | refine blk_drew ?_ | refine blk_alloc ?_ _)); refine blk_put (cs := #[.int .i64 t263, .int .i64 t264, .bool t265, .bool t266, .int .i64 t267, .int .i64 t268, .int .i64 t269, .int .u32 t270, .int .u32 t271, .string (⟨#[]⟩ : ByteArray)]) ?_ 9 _ rfl; (with_reducible repeat (first | refine blk_drewN ?_ _ | refine blk_drew ?_ | refine blk_alloc ?_ _)); refine blk_put (cs := #[.int .i64 t263, .int .i64 t264, .bool t265, .bool t266, .int .i64 t267, .int .i64 t268, .int .i64 t269, .int .u32 t270, .int .u32 0, .string (⟨#[]⟩ : ByteArray)]) ?_ 8 _ rfl; (with_reducible repeat (first | refine blk_drewN ?_ _ | refine blk_drew ?_ | refine blk_alloc ?_ _)); refine blk_put (cs := #[.int .i64 t263, .int .i64 t264, .bool t265, .bool t266, .int .i64 t267, .int .i64 t268, .int .i64 t269, .int .u32 0, .int .u32 0, .string (⟨#[]⟩ : ByteArray)]) ?_ 7 _ rfl; (with_reducible repeat (first | refine blk_drewN ?_ _ | refine blk_drew ?_ | refine blk_alloc ?_ _)); refine blk_put (cs := #[.int .i64 t263, .int .i64 t264, .bool t265, .bool t266, .int .i64 t267, .int .i64 t268, .int .i64 0, .int .u32 0, .int .u32 0, .string (⟨#[]⟩ : ByteArray)]) ?_ 6 _ rfl; (with_reducible repeat (first | refine blk_drewN ?_ _ | refine blk_drew ?_ | refine blk_alloc ?_ _)); refine blk_put (cs := #[.int .i64 t263, .int .i64 t264, .bool t265, .bool t266, .int .i64 t267, .int .i64 0, .int .i64 0, .int .u32 0, .int .u32 0, .string (⟨#[]⟩ : ByteArray)]) ?_ 5 _ rfl; (with_reducible repeat (first | refine blk_drewN ?_ _ | refine blk_drew ?_ | refine blk_alloc ?_ _)); refine blk_put (cs := #[.int .i64 t263, .int .i64 t264, .bool t265, .bool t266, .int .i64 0, .int .i64 0, .int .i64 0, .int .u32 0, .int .u32 0, .string (⟨#[]⟩ : ByteArray)]) ?_ 4 _ rfl; (with_reducible repeat (first | refine blk_drewN ?_ _ | refine blk_drew ?_ | refine blk_alloc ?_ _)); refine blk_put (cs := #[.int .i64 t263, .int .i64 t264, .bool t265, .bool false, .int .i64 0, .int .i64 0, .int .i64 0, .int .u32 0, .int .u32 0, .string (⟨#[]⟩ : ByteArray)]) ?_ 3 _ rfl; (with_reducible repeat (first | refine blk_drewN ?_ _ | refine blk_drew ?_ | refine blk_alloc ?_ _)); refine blk_put (cs := #[.int .i64 t263, .int .i64 t264, .bool false, .bool false, .int .i64 0, .int .i64 0, .int .i64 0, .int .u32 0, .int .u32 0, .string (⟨#[]⟩ : ByteArray)]) ?_ 2 _ rfl; (with_reducible repeat (first | refine blk_drewN ?_ _ | refine blk_drew ?_ | refine blk_alloc ?_ _)); refine blk_put (cs := #[.int .i64 t263, .int .i64 0, .bool false, .bool false, .int .i64 0, .int .i64 0, .int .i64 0, .int .u32 0, .int .u32 0, .string (⟨#[]⟩ : ByteArray)]) ?_ 1 _ rfl; (with_reducible repeat (first | refine blk_drewN ?_ _ | refine blk_drew ?_ | refine blk_alloc ?_ _)); refine blk_put (cs := #[.int .i64 0, .int .i64 0, .bool false, .bool false, .int .i64 0, .int .i64 0, .int .i64 0, .int .u32 0, .int .u32 0, .string (⟨#[]⟩ : ByteArray)]) ?_ 0 _ rfl; (with_reducible repeat (first | refine blk_drewN ?_ _ | refine blk_drew ?_ | refine blk_alloc ?_ _)); exact BK275.out⟩, ⟨by repeat (first | (with_reducible first | exact HB.out | apply below_alloc | apply pw_below_drewN | apply below_drew1 | refine below_set ?_ GE257.out | refine below_set ?_ GE275.out) | exact HB.out)⟩⟩
     ·
      rw [if_neg c25] at H
      have c25b0 : (t274 == 0) = false := beq_eq_false_iff_ne.mpr c25
      have c25b1 : (t274 != 0) = true := bne_iff_ne.mpr c25
      have H' := Aside0.mk H
      clear H
      go_wp2
      go_meet
      case rel => exact ⟨_, (true), (by first | rfl | (simp; done) | (simp [*]; done)), H', ⟨by first | omega | exact Nat.le_refl _⟩, ⟨by (with_reducible repeat (first | refine blk_drewN ?_ _ | refine blk_drew ?_ | refine blk_alloc ?_ _)); refine blk_far ?_ NB257_275.out _; (with_reducible repeat (first | refine blk_drewN ?_ _ | refine blk_drew ?_ | refine blk_alloc ?_ _)); refine blk_far ?_ NB257_275.out _; (with_reducible repeat (first | refine blk_drewN ?_ _ | refine blk_drew ?_ | refine blk_alloc ?_ _)); refine blk_far ?_ NB257_275.out _; (with_reducible repeat (first | refine blk_drewN ?_ _ | refine blk_drew ?_ | refine blk_alloc ?_ _)); refine blk_far ?_ NB257_275.out _; (with_reducible repeat (first | refine blk_drewN ?_ _ | refine blk_drew ?_ | refine blk_alloc ?_ _)); refine blk_far ?_ NB257_275.out _; (with_reducible repeat (first | refine blk_drewN ?_ _ | refine blk_drew ?_ | refine blk_alloc ?_ _)); refine blk_far ?_ NB257_275.out _; (with_reducible repeat (first | refine blk_drewN ?_ _ | refine blk_drew ?_ | refine blk_alloc ?_ _)); refine blk_far ?_ NB257_275.out _; (with_reducible repeat (first | refine blk_drewN ?_ _ | refine blk_drew ?_ | refine blk_alloc ?_ _)); refine blk_far ?_ NB257_275.out _; (with_reducible repeat (first | refine blk_drewN ?_ _ | refine blk_drew ?_ | refine blk_alloc ?_ _)); refine blk_far ?_ NB257_275.out _; (with_reducible repeat (first | refine blk_drewN ?_ _ | refine blk_drew ?_ | refine blk_alloc ?_ _)); refine blk_far ?_ NB257_275.out _; (with_reducible repeat (first | refine blk_drewN ?_ _ | refine blk_drew ?_ | refine blk_alloc ?_ _)); exact BK257.out⟩, ⟨by (with_reducible repeat (first | refine blk_drewN ?_ _ | refine blk_drew ?_ | refine blk_alloc ?_ _)); refine blk_put (cs := #[.int .i64 t263, .int .i64 t264, .bool t265, .bool t266, .int .i64 t267, .int .i64 t268, .int .i64 t269, .int .u32 t270, .int .u32 t271, .string (⟨#[]⟩ : ByteArray)]) ?_ 9 _ rfl; (with_reducible repeat (first | refine blk_drewN ?_ _ | refine blk_drew ?_ | refine blk_alloc ?_ _)); refine blk_put (cs := #[.int .i64 t263, .int .i64 t264, .bool t265, .bool t266, .int .i64 t267, .int .i64 t268, .int .i64 t269, .int .u32 t270, .int .u32 0, .string (⟨#[]⟩ : ByteArray)]) ?_ 8 _ rfl; (with_reducible repeat (first | refine blk_drewN ?_ _ | refine blk_drew ?_ | refine blk_alloc ?_ _)); refine blk_put (cs := #[.int .i64 t263, .int .i64 t264, .bool t265, .bool t266, .int .i64 t267, .int .i64 t268, .int .i64 t269, .int .u32 0, .int .u32 0, .string (⟨#[]⟩ : ByteArray)]) ?_ 7 _ rfl; (with_reducible repeat (first | refine blk_drewN ?_ _ | refine blk_drew ?_ | refine blk_alloc ?_ _)); refine blk_put (cs := #[.int .i64 t263, .int .i64 t264, .bool t265, .bool t266, .int .i64 t267, .int .i64 t268, .int .i64 0, .int .u32 0, .int .u32 0, .string (⟨#[]⟩ : ByteArray)]) ?_ 6 _ rfl; (with_reducible repeat (first | refine blk_drewN ?_ _ | refine blk_drew ?_ | refine blk_alloc ?_ _)); refine blk_put (cs := #[.int .i64 t263, .int .i64 t264, .bool t265, .bool t266, .int .i64 t267, .int .i64 0, .int .i64 0, .int .u32 0, .int .u32 0, .string (⟨#[]⟩ : ByteArray)]) ?_ 5 _ rfl; (with_reducible repeat (first | refine blk_drewN ?_ _ | refine blk_drew ?_ | refine blk_alloc ?_ _)); refine blk_put (cs := #[.int .i64 t263, .int .i64 t264, .bool t265, .bool t266, .int .i64 0, .int .i64 0, .int .i64 0, .int .u32 0, .int .u32 0, .string (⟨#[]⟩ : ByteArray)]) ?_ 4 _ rfl; (with_reducible repeat (first | refine blk_drewN ?_ _ | refine blk_drew ?_ | refine blk_alloc ?_ _)); refine blk_put (cs := #[.int .i64 t263, .int .i64 t264, .bool t265, .bool false, .int .i64 0, .int .i64 0, .int .i64 0, .int .u32 0, .int .u32 0, .string (⟨#[]⟩ : ByteArray)]) ?_ 3 _ rfl; (with_reducible repeat (first | refine blk_drewN ?_ _ | refine blk_drew ?_ | refine blk_alloc ?_ _)); refine blk_put (cs := #[.int .i64 t263, .int .i64 t264, .bool false, .bool false, .int .i64 0, .int .i64 0, .int .i64 0, .int .u32 0, .int .u32 0, .string (⟨#[]⟩ : ByteArray)]) ?_ 2 _ rfl; (with_reducible repeat (first | refine blk_drewN ?_ _ | refine blk_drew ?_ | refine blk_alloc ?_ _)); refine blk_put (cs := #[.int .i64 t263, .int .i64 0, .bool false, .bool false, .int .i64 0, .int .i64 0, .int .i64 0, .int .u32 0, .int .u32 0, .string (⟨#[]⟩ : ByteArray)]) ?_ 1 _ rfl; (with_reducible repeat (first | refine blk_drewN ?_ _ | refine blk_drew ?_ | refine blk_alloc ?_ _)); refine blk_put (cs := #[.int .i64 0, .int .i64 0, .bool false, .bool false, .int .i64 0, .int .i64 0, .int .i64 0, .int .u32 0, .int .u32 0, .string (⟨#[]⟩ : ByteArray)]) ?_ 0 _ rfl; (with_reducible repeat (first | refine blk_drewN ?_ _ | refine blk_drew ?_ | refine blk_alloc ?_ _)); exact BK275.out⟩, ⟨by repeat (first | (with_reducible first | exact HB.out | apply below_alloc | apply pw_below_drewN | apply below_drew1 | refine below_set ?_ GE257.out | refine below_set ?_ GE275.out) | exact HB.out)⟩⟩
    ·
     rw [if_neg c24] at H
     have c24b0 : (t262 == 0) = false := beq_eq_false_iff_ne.mpr c24
     have c24b1 : (t262 != 0) = true := bne_iff_ne.mpr c24
     (first | rw [c24b0] | (simp only [i64_w, i32_w]; rw [c24b0]) | skip)
     have H' := Aside0.mk H
     clear H
     go_wp2
     go_meet
     case rel => exact ⟨_, (true), (by first | rfl | (simp; done) | (simp [*]; done)), H', ⟨by first | omega | exact Nat.le_refl _⟩, ⟨by (with_reducible repeat (first | refine blk_drewN ?_ _ | refine blk_drew ?_ | refine blk_alloc ?_ _)); refine blk_far ?_ NB257_275.out _; (with_reducible repeat (first | refine blk_drewN ?_ _ | refine blk_drew ?_ | refine blk_alloc ?_ _)); refine blk_far ?_ NB257_275.out _; (with_reducible repeat (first | refine blk_drewN ?_ _ | refine blk_drew ?_ | refine blk_alloc ?_ _)); refine blk_far ?_ NB257_275.out _; (with_reducible repeat (first | refine blk_drewN ?_ _ | refine blk_drew ?_ | refine blk_alloc ?_ _)); refine blk_far ?_ NB257_275.out _; (with_reducible repeat (first | refine blk_drewN ?_ _ | refine blk_drew ?_ | refine blk_alloc ?_ _)); refine blk_far ?_ NB257_275.out _; (with_reducible repeat (first | refine blk_drewN ?_ _ | refine blk_drew ?_ | refine blk_alloc ?_ _)); refine blk_far ?_ NB257_275.out _; (with_reducible repeat (first | refine blk_drewN ?_ _ | refine blk_drew ?_ | refine blk_alloc ?_ _)); refine blk_far ?_ NB257_275.out _; (with_reducible repeat (first | refine blk_drewN ?_ _ | refine blk_drew ?_ | refine blk_alloc ?_ _)); refine blk_far ?_ NB257_275.out _; (with_reducible repeat (first | refine blk_drewN ?_ _ | refine blk_drew ?_ | refine blk_alloc ?_ _)); refine blk_far ?_ NB257_275.out _; (with_reducible repeat (first | refine blk_drewN ?_ _ | refine blk_drew ?_ | refine blk_alloc ?_ _)); refine blk_far ?_ NB257_275.out _; (with_reducible repeat (first | refine blk_drewN ?_ _ | refine blk_drew ?_ | refine blk_alloc ?_ _)); exact BK257.out⟩, ⟨by (with_reducible repeat (first | refine blk_drewN ?_ _ | refine blk_drew ?_ | refine blk_alloc ?_ _)); refine blk_put (cs := #[.int .i64 t263, .int .i64 t264, .bool t265, .bool t266, .int .i64 t267, .int .i64 t268, .int .i64 t269, .int .u32 t270, .int .u32 t271, .string (⟨#[]⟩ : ByteArray)]) ?_ 9 _ rfl; (with_reducible repeat (first | refine blk_drewN ?_ _ | refine blk_drew ?_ | refine blk_alloc ?_ _)); refine blk_put (cs := #[.int .i64 t263, .int .i64 t264, .bool t265, .bool t266, .int .i64 t267, .int .i64 t268, .int .i64 t269, .int .u32 t270, .int .u32 0, .string (⟨#[]⟩ : ByteArray)]) ?_ 8 _ rfl; (with_reducible repeat (first | refine blk_drewN ?_ _ | refine blk_drew ?_ | refine blk_alloc ?_ _)); refine blk_put (cs := #[.int .i64 t263, .int .i64 t264, .bool t265, .bool t266, .int .i64 t267, .int .i64 t268, .int .i64 t269, .int .u32 0, .int .u32 0, .string (⟨#[]⟩ : ByteArray)]) ?_ 7 _ rfl; (with_reducible repeat (first | refine blk_drewN ?_ _ | refine blk_drew ?_ | refine blk_alloc ?_ _)); refine blk_put (cs := #[.int .i64 t263, .int .i64 t264, .bool t265, .bool t266, .int .i64 t267, .int .i64 t268, .int .i64 0, .int .u32 0, .int .u32 0, .string (⟨#[]⟩ : ByteArray)]) ?_ 6 _ rfl; (with_reducible repeat (first | refine blk_drewN ?_ _ | refine blk_drew ?_ | refine blk_alloc ?_ _)); refine blk_put (cs := #[.int .i64 t263, .int .i64 t264, .bool t265, .bool t266, .int .i64 t267, .int .i64 0, .int .i64 0, .int .u32 0, .int .u32 0, .string (⟨#[]⟩ : ByteArray)]) ?_ 5 _ rfl; (with_reducible repeat (first | refine blk_drewN ?_ _ | refine blk_drew ?_ | refine blk_alloc ?_ _)); refine blk_put (cs := #[.int .i64 t263, .int .i64 t264, .bool t265, .bool t266, .int .i64 0, .int .i64 0, .int .i64 0, .int .u32 0, .int .u32 0, .string (⟨#[]⟩ : ByteArray)]) ?_ 4 _ rfl; (with_reducible repeat (first | refine blk_drewN ?_ _ | refine blk_drew ?_ | refine blk_alloc ?_ _)); refine blk_put (cs := #[.int .i64 t263, .int .i64 t264, .bool t265, .bool false, .int .i64 0, .int .i64 0, .int .i64 0, .int .u32 0, .int .u32 0, .string (⟨#[]⟩ : ByteArray)]) ?_ 3 _ rfl; (with_reducible repeat (first | refine blk_drewN ?_ _ | refine blk_drew ?_ | refine blk_alloc ?_ _)); refine blk_put (cs := #[.int .i64 t263, .int .i64 t264, .bool false, .bool false, .int .i64 0, .int .i64 0, .int .i64 0, .int .u32 0, .int .u32 0, .string (⟨#[]⟩ : ByteArray)]) ?_ 2 _ rfl; (with_reducible repeat (first | refine blk_drewN ?_ _ | refine blk_drew ?_ | refine blk_alloc ?_ _)); refine blk_put (cs := #[.int .i64 t263, .int .i64 0, .bool false, .bool false, .int .i64 0, .int .i64 0, .int .i64 0, .int .u32 0, .int .u32 0, .string (⟨#[]⟩ : ByteArray)]) ?_ 1 _ rfl; (with_reducible repeat (first | refine blk_drewN ?_ _ | refine blk_drew ?_ | refine blk_alloc ?_ _)); refine blk_put (cs := #[.int .i64 0, .int .i64 0, .bool false, .bool false, .int .i64 0, .int .i64 0, .int .i64 0, .int .u32 0, .int .u32 0, .string (⟨#[]⟩ : ByteArray)]) ?_ 0 _ rfl; (with_reducible repeat (first | refine blk_drewN ?_ _ | refine blk_drew ?_ | refine blk_alloc ?_ _)); exact BK275.out⟩, ⟨by repeat (first | (with_reducible first | exact HB.out | apply below_alloc | apply pw_below_drewN | apply below_drew1 | refine below_set ?_ GE257.out | refine below_set ?_ GE275.out) | exact HB.out)⟩⟩
   case rest =>
    clear HC8
    try clear c1
    try clear hcv1
    try clear c2
    try clear p2
    try clear c3
    try clear c4
    try clear c4b0
    try clear c4b1
    try clear c5
    try clear c5b0
    try clear c5b1
    try clear p6
    try clear hcv11
    try clear c16
    try clear c18
    try clear hcv18
    try clear c22
    try clear c23
    try clear c24
    try clear c24b0
    try clear c24b1
    try clear c25
    try clear c25b0
    try clear c25b1
    try clear c26
    try clear c26b0
    try clear c26b1
    try clear c27
    try clear c28
    try clear c29
    try clear c29b0
    try clear c29b1
    try clear c30
    try clear c32
    try clear c34
    try clear c36
    try clear c38
    try clear hcz13_0
    try clear hcz13_1
    try clear hcz13_2
    try clear hcz13_3
    try clear hcz13_4
    try clear hcz13_5
    try clear hcz13_6
    try clear hcz13_7
    try clear hcz13_8
    try clear hcz13_9
    try clear hcz23_0
    try clear hcz23_1
    try clear hcz23_2
    try clear hcz23_3
    try clear hcz23_4
    try clear hcz23_5
    try clear hcz23_6
    try clear hcz23_7
    try clear hcz23_8
    try clear hcz23_9
    try clear hcz31_0
    try clear hcz31_1
    try clear hcz31_2
    try clear hcz31_3
    try clear hcz31_4
    try clear hcz31_5
    try clear hcz31_6
    try clear hcz31_7
    try clear hcz31_8
    try clear hcz31_9
    try clear hcz33_0
    try clear hcz33_1
    try clear hcz33_2
    try clear hcz33_3
    try clear hcz33_4
    try clear hcz33_5
    try clear hcz33_6
    try clear hcz33_7
    try clear hcz33_8
    try clear hcz33_9
    try clear hcz35_0
    try clear hcz35_1
    try clear hcz35_2
    try clear hcz35_3
    try clear hcz35_4
    try clear hcz35_5
    try clear hcz35_6
    try clear hcz35_7
    try clear hcz35_8
    try clear hcz35_9
    try clear hcz37_0
    try clear hcz37_1
    try clear hcz37_2
    try clear hcz37_3
    try clear hcz37_4
    try clear hcz37_5
    try clear hcz37_6
    try clear hcz37_7
    try clear hcz37_8
    try clear hcz37_9
    try clear hcz39_0
    try clear hcz39_1
    try clear hcz39_2
    try clear hcz39_3
    try clear hcz39_4
    try clear hcz39_5
    try clear hcz39_6
    try clear hcz39_7
    try clear hcz39_8
    try clear hcz39_9
    try clear hfz13_0
    try clear hfz13_1
    try clear hfz13_2
    try clear hfz13_3
    try clear hfz13_4
    try clear hfz13_5
    try clear hfz13_6
    try clear hfz13_7
    try clear hfz13_8
    try clear hfz13_9
    try clear hfz23_0
    try clear hfz23_1
    try clear hfz23_2
    try clear hfz23_3
    try clear hfz23_4
    try clear hfz23_5
    try clear hfz23_6
    try clear hfz23_7
    try clear hfz23_8
    try clear hfz23_9
    try clear hfz31_0
    try clear hfz31_1
    try clear hfz31_2
    try clear hfz31_3
    try clear hfz31_4
    try clear hfz31_5
    try clear hfz31_6
    try clear hfz31_7
    try clear hfz31_8
    try clear hfz31_9
    try clear hfz33_0
    try clear hfz33_1
    try clear hfz33_2
    try clear hfz33_3
    try clear hfz33_4
    try clear hfz33_5
    try clear hfz33_6
    try clear hfz33_7
    try clear hfz33_8
    try clear hfz33_9
    try clear hfz35_0
    try clear hfz35_1
    try clear hfz35_2
    try clear hfz35_3
    try clear hfz35_4
    try clear hfz35_5
    try clear hfz35_6
    try clear hfz35_7
    try clear hfz35_8
    try clear hfz35_9
    try clear hfz37_0
    try clear hfz37_1
    try clear hfz37_2
    try clear hfz37_3
    try clear hfz37_4
    try clear hfz37_5
    try clear hfz37_6
    try clear hfz37_7
    try clear hfz37_8
    try clear hfz37_9
    try clear hfz39_0
    try clear hfz39_1
    try clear hfz39_2
    try clear hfz39_3
    try clear hfz39_4
    try clear hfz39_5
    try clear hfz39_6
    try clear hfz39_7
    try clear hfz39_8
    try clear hfz39_9
    obtain ⟨kq, x66_7, rfl, HA, HJ7, BK257, BK275, HB⟩ := hcut
    cases kq with
    | zero => exact absurd HA.out (by simp [rampartlaw03_Ipv4Edges.j0])
    | succ kj7 =>
     have H := HA.out
     clear HA
     simp only [rampartlaw03_Ipv4Edges.j0] at H
     by_cases c40 : x66_7 = true
     ·
      subst c40
      have H1 : (some false) = some r := by rw [if_pos rfl] at H; exact H
      clear H
      have H := H1
      clear H1
      exact absurd ((Option.some.inj H).trans HR.out) (by decide)
     ·
      replace c40 := Bool.eq_false_iff.mpr c40
      subst c40
      have H1 : ((rampartlaw00_Place.f a0 8).bind fun t276 => (if t276 = 0 then (rampartlaw03_Ipv4Edges.j1 kj7 (wrap64 (1 + t253)) (wrap64 (255 + (wrap64 (1 + t253)))) 65535 true true 65528 255 255 4294967295 4294967295 (strOfNums y254)) else (if t276 = 1 then (rampartlaw03_Ipv4Edges.j1 kj7 (wrap64 (1 + t253)) 255 (wrap64 (-(wrap64 (1 + t253)))) true true 65528 255 255 4294967295 4294967295 (strOfNums y254)) else (if t276 = 2 then (rampartlaw03_Ipv4Edges.j1 kj7 (wrap64 (1 + t253)) 255 65535 true true (wrap64 (65528 + (wrap64 (8 * (wrap64 (1 + t253)))))) 255 255 4294967295 4294967295 (strOfNums y254)) else (if t276 = 3 then (rampartlaw03_Ipv4Edges.j1 kj7 (wrap64 (1 + t253)) 255 65535 true true (wrap64 (1 + (Int.tmod (wrap64 (1 + t253)) 7))) 255 255 4294967295 4294967295 (strOfNums y254)) else (if t276 = 4 then (rampartlaw03_Ipv4Edges.j1 kj7 (wrap64 (1 + t253)) 255 65535 true true 65528 (wrap64 (-(wrap64 (1 + t253)))) 255 4294967295 4294967295 (strOfNums y254)) else (if t276 = 5 then (rampartlaw03_Ipv4Edges.j1 kj7 (wrap64 (1 + t253)) 255 65535 true true 65528 255 (wrap64 (255 + (wrap64 (1 + t253)))) 4294967295 4294967295 (strOfNums y254)) else (if t276 = 6 then (if (strOfNums y254).size + 4 ≤ 9223372036854775807 then (rampartlaw03_Ipv4Edges.j1 kj7 (wrap64 (1 + t253)) 255 65535 true true 65528 255 255 4294967295 4294967295 ((strOfNums y254) ++ (⟨#[49, 50, 51, 52]⟩ : ByteArray))) else (none)) else (if 0 ≤ (wrap64 (1 + (Int.tmod (wrap64 (1 + t253)) 3))) then (if (wrap64 (1 + (Int.tmod (wrap64 (1 + t253)) 3))) ≤ 5 then (rampartlaw03_Ipv4Edges.j1 kj7 (wrap64 (1 + t253)) 255 65535 true true 65528 255 255 4294967295 4294967295 ((⟨#[49, 50, 51, 52, 53]⟩ : ByteArray).extract 0 ((wrap64 (1 + (Int.tmod (wrap64 (1 + t253)) 3))) : Int).toNat)) else (none)) else (none)))))))))) = some r := by rw [if_neg (show ¬ (false = true) by decide)] at H; exact H
      clear H
      have H := H1
      clear H1
      replace H := Option.bind_eq_some_iff.mp H
      obtain ⟨t276, A410, H⟩ := H
      replace H : (if t276 = 0 then (rampartlaw03_Ipv4Edges.j1 kj7 (wrap64 (1 + t253)) (wrap64 (255 + (wrap64 (1 + t253)))) 65535 true true 65528 255 255 4294967295 4294967295 (strOfNums y254)) else (if t276 = 1 then (rampartlaw03_Ipv4Edges.j1 kj7 (wrap64 (1 + t253)) 255 (wrap64 (-(wrap64 (1 + t253)))) true true 65528 255 255 4294967295 4294967295 (strOfNums y254)) else (if t276 = 2 then (rampartlaw03_Ipv4Edges.j1 kj7 (wrap64 (1 + t253)) 255 65535 true true (wrap64 (65528 + (wrap64 (8 * (wrap64 (1 + t253)))))) 255 255 4294967295 4294967295 (strOfNums y254)) else (if t276 = 3 then (rampartlaw03_Ipv4Edges.j1 kj7 (wrap64 (1 + t253)) 255 65535 true true (wrap64 (1 + (Int.tmod (wrap64 (1 + t253)) 7))) 255 255 4294967295 4294967295 (strOfNums y254)) else (if t276 = 4 then (rampartlaw03_Ipv4Edges.j1 kj7 (wrap64 (1 + t253)) 255 65535 true true 65528 (wrap64 (-(wrap64 (1 + t253)))) 255 4294967295 4294967295 (strOfNums y254)) else (if t276 = 5 then (rampartlaw03_Ipv4Edges.j1 kj7 (wrap64 (1 + t253)) 255 65535 true true 65528 255 (wrap64 (255 + (wrap64 (1 + t253)))) 4294967295 4294967295 (strOfNums y254)) else (if t276 = 6 then (if (strOfNums y254).size + 4 ≤ 9223372036854775807 then (rampartlaw03_Ipv4Edges.j1 kj7 (wrap64 (1 + t253)) 255 65535 true true 65528 255 255 4294967295 4294967295 ((strOfNums y254) ++ (⟨#[49, 50, 51, 52]⟩ : ByteArray))) else (none)) else (if 0 ≤ (wrap64 (1 + (Int.tmod (wrap64 (1 + t253)) 3))) then (if (wrap64 (1 + (Int.tmod (wrap64 (1 + t253)) 3))) ≤ 5 then (rampartlaw03_Ipv4Edges.j1 kj7 (wrap64 (1 + t253)) 255 65535 true true 65528 255 255 4294967295 4294967295 ((⟨#[49, 50, 51, 52, 53]⟩ : ByteArray).extract 0 ((wrap64 (1 + (Int.tmod (wrap64 (1 + t253)) 3))) : Int).toNat)) else (none)) else (none))))))))) = some r := H
      have A41 := Aside0.mk A410
      clear A410
      have HC42 := Aside0.mk H
      clear H
      go_upto_block 0 with (first | ((with_reducible refine gate_callee (f := 23) rfl ?_); refine goesL_ (some 68) rfl rfl Try.func23 (by kernel_rfl) rfl #[.int .i64 a0, .int .i64 8] rfl (by (try simp only [List.map_toArray, List.map_cons, List.map_nil]); first | done | rfl | (simp only [List.length_drop, List.length_take]; rfl)) ?_; (with_reducible refine (rampartlaw00_Place.calls a0 8 t276 _ A41.out).mono ?_); rintro e w' ⟨rfl, ⟨nd, rfl⟩⟩; refine ⟨_, rfl, ?_⟩))
      (try simp only [Act.put, List.setIfInBounds_toArray, List.set_cons_zero, List.set_cons_succ])
      go_cut [] (fun wc => ∃ (kq : Nat) (x258000_41 : Int) (x258001_41 : Int) (x258004_41 : Int) (x258005_41 : Int) (x258006_41 : Int) (x258009_41 : ByteArray), Aside0 (rampartlaw03_Ipv4Edges.j1 kq (wrap64 (1 + t253)) x258000_41 x258001_41 true true x258004_41 x258005_41 x258006_41 4294967295 4294967295 x258009_41 = some r) ∧ Aside0 (kq ≤ kj7) ∧ Aside0 (wc.heap[gb257]? = some (.cells #[.int .i64 x258000_41, .int .i64 x258001_41, .bool true, .bool true, .int .i64 x258004_41, .int .i64 x258005_41, .int .i64 x258006_41, .int .u32 4294967295, .int .u32 4294967295, .string x258009_41] 24 (0, 0))) ∧ Aside0 (wc.heap[gb275]? = some (.cells #[.int .i64 t263, .int .i64 t264, .bool t265, .bool t266, .int .i64 t267, .int .i64 t268, .int .i64 t269, .int .u32 t270, .int .u32 t271, .string t272] 24 (0, 0))) ∧ Aside0 (Below w.heap.size w wc))
      case first =>
       have H := HC42.out
       clear HC42
       by_cases c43 : t276 = 0
       ·
        rw [if_pos c43] at H
        have c43b0 : (t276 == 0) = true := beq_iff_eq.mpr c43
        have c43b1 : (t276 != 0) = false := bne_eq_false_iff_eq.mpr c43
        clear c43
        (first | rw [c43b0] | (simp only [i64_w, i32_w]; rw [c43b0]) | skip)
        have H' := Aside0.mk H
        clear H
        have hnb44 := NB257_275.out
        have hnc44 := NB275_257.out
        have hcz45_0 : wc.cell? ⟨gb257, 0, none⟩ = some (.int .i64 255) := (blk_cell BK257.out 0).trans rfl
        have hcz45_1 : wc.cell? ⟨gb257, 1, none⟩ = some (.int .i64 65535) := (blk_cell BK257.out 1).trans rfl
        have hcz45_2 : wc.cell? ⟨gb257, 2, none⟩ = some (.bool true) := (blk_cell BK257.out 2).trans rfl
        have hcz45_3 : wc.cell? ⟨gb257, 3, none⟩ = some (.bool true) := (blk_cell BK257.out 3).trans rfl
        have hcz45_4 : wc.cell? ⟨gb257, 4, none⟩ = some (.int .i64 65528) := (blk_cell BK257.out 4).trans rfl
        have hcz45_5 : wc.cell? ⟨gb257, 5, none⟩ = some (.int .i64 255) := (blk_cell BK257.out 5).trans rfl
        have hcz45_6 : wc.cell? ⟨gb257, 6, none⟩ = some (.int .i64 255) := (blk_cell BK257.out 6).trans rfl
        have hcz45_7 : wc.cell? ⟨gb257, 7, none⟩ = some (.int .u32 4294967295) := (blk_cell BK257.out 7).trans rfl
        have hcz45_8 : wc.cell? ⟨gb257, 8, none⟩ = some (.int .u32 4294967295) := (blk_cell BK257.out 8).trans rfl
        have hcz45_9 : wc.cell? ⟨gb257, 9, none⟩ = some (.string (strOfNums y254)) := (blk_cell BK257.out 9).trans rfl
        have hfz45_0 := blk_frozen BK257.out 0
        have hfz45_1 := blk_frozen BK257.out 1
        have hfz45_2 := blk_frozen BK257.out 2
        have hfz45_3 := blk_frozen BK257.out 3
        have hfz45_4 := blk_frozen BK257.out 4
        have hfz45_5 := blk_frozen BK257.out 5
        have hfz45_6 := blk_frozen BK257.out 6
        have hfz45_7 := blk_frozen BK257.out 7
        have hfz45_8 := blk_frozen BK257.out 8
        have hfz45_9 := blk_frozen BK257.out 9
        go_wp2
        go_meet
        case rel => exact ⟨_, (wrap64 (255 + (wrap64 (1 + t253)))), (65535), (65528), (255), (255), ((strOfNums y254)), H', ⟨by have := HJ7.out; first | omega | exact Nat.le_refl _⟩, ⟨by (with_reducible repeat (first | refine blk_drewN ?_ _ | refine blk_drew ?_ | refine blk_alloc ?_ _)); refine blk_put (cs := #[.int .i64 255, .int .i64 65535, .bool true, .bool true, .int .i64 65528, .int .i64 255, .int .i64 255, .int .u32 4294967295, .int .u32 4294967295, .string (strOfNums y254)]) ?_ 0 _ rfl; (with_reducible repeat (first | refine blk_drewN ?_ _ | refine blk_drew ?_ | refine blk_alloc ?_ _)); exact BK257.out⟩, ⟨by (with_reducible repeat (first | refine blk_drewN ?_ _ | refine blk_drew ?_ | refine blk_alloc ?_ _)); refine blk_far ?_ NB275_257.out _; (with_reducible repeat (first | refine blk_drewN ?_ _ | refine blk_drew ?_ | refine blk_alloc ?_ _)); exact BK275.out⟩, ⟨by repeat (first | (with_reducible first | exact HB.out | apply below_alloc | apply pw_below_drewN | apply below_drew1 | refine below_set ?_ GE257.out | refine below_set ?_ GE275.out) | exact HB.out)⟩⟩
       ·
        rw [if_neg c43] at H
        have c43b0 : (t276 == 0) = false := beq_eq_false_iff_ne.mpr c43
        have c43b1 : (t276 != 0) = true := bne_iff_ne.mpr c43
        (first | rw [c43b0] | (simp only [i64_w, i32_w]; rw [c43b0]) | skip)
        by_cases c46 : t276 = 1
        ·
         rw [if_pos c46] at H
         have c46b0 : (t276 == 1) = true := beq_iff_eq.mpr c46
         have c46b1 : (t276 != 1) = false := bne_eq_false_iff_eq.mpr c46
         clear c46
         have H' := Aside0.mk H
         clear H
         have hnb47 := NB257_275.out
         have hnc47 := NB275_257.out
         have hcz48_0 : wc.cell? ⟨gb257, 0, none⟩ = some (.int .i64 255) := (blk_cell BK257.out 0).trans rfl
         have hcz48_1 : wc.cell? ⟨gb257, 1, none⟩ = some (.int .i64 65535) := (blk_cell BK257.out 1).trans rfl
         have hcz48_2 : wc.cell? ⟨gb257, 2, none⟩ = some (.bool true) := (blk_cell BK257.out 2).trans rfl
         have hcz48_3 : wc.cell? ⟨gb257, 3, none⟩ = some (.bool true) := (blk_cell BK257.out 3).trans rfl
         have hcz48_4 : wc.cell? ⟨gb257, 4, none⟩ = some (.int .i64 65528) := (blk_cell BK257.out 4).trans rfl
         have hcz48_5 : wc.cell? ⟨gb257, 5, none⟩ = some (.int .i64 255) := (blk_cell BK257.out 5).trans rfl
         have hcz48_6 : wc.cell? ⟨gb257, 6, none⟩ = some (.int .i64 255) := (blk_cell BK257.out 6).trans rfl
         have hcz48_7 : wc.cell? ⟨gb257, 7, none⟩ = some (.int .u32 4294967295) := (blk_cell BK257.out 7).trans rfl
         have hcz48_8 : wc.cell? ⟨gb257, 8, none⟩ = some (.int .u32 4294967295) := (blk_cell BK257.out 8).trans rfl
         have hcz48_9 : wc.cell? ⟨gb257, 9, none⟩ = some (.string (strOfNums y254)) := (blk_cell BK257.out 9).trans rfl
         have hfz48_0 := blk_frozen BK257.out 0
         have hfz48_1 := blk_frozen BK257.out 1
         have hfz48_2 := blk_frozen BK257.out 2
         have hfz48_3 := blk_frozen BK257.out 3
         have hfz48_4 := blk_frozen BK257.out 4
         have hfz48_5 := blk_frozen BK257.out 5
         have hfz48_6 := blk_frozen BK257.out 6
         have hfz48_7 := blk_frozen BK257.out 7
         have hfz48_8 := blk_frozen BK257.out 8
         have hfz48_9 := blk_frozen BK257.out 9
         go_wp2
         go_meet
         case rel => exact ⟨_, (255), (wrap64 (-(wrap64 (1 + t253)))), (65528), (255), (255), ((strOfNums y254)), H', ⟨by have := HJ7.out; first | omega | exact Nat.le_refl _⟩, ⟨by (with_reducible repeat (first | refine blk_drewN ?_ _ | refine blk_drew ?_ | refine blk_alloc ?_ _)); refine blk_put (cs := #[.int .i64 255, .int .i64 65535, .bool true, .bool true, .int .i64 65528, .int .i64 255, .int .i64 255, .int .u32 4294967295, .int .u32 4294967295, .string (strOfNums y254)]) ?_ 1 _ rfl; (with_reducible repeat (first | refine blk_drewN ?_ _ | refine blk_drew ?_ | refine blk_alloc ?_ _)); exact BK257.out⟩, ⟨by (with_reducible repeat (first | refine blk_drewN ?_ _ | refine blk_drew ?_ | refine blk_alloc ?_ _)); refine blk_far ?_ NB275_257.out _; (with_reducible repeat (first | refine blk_drewN ?_ _ | refine blk_drew ?_ | refine blk_alloc ?_ _)); exact BK275.out⟩, ⟨by repeat (first | (with_reducible first | exact HB.out | apply below_alloc | apply pw_below_drewN | apply below_drew1 | refine below_set ?_ GE257.out | refine below_set ?_ GE275.out) | exact HB.out)⟩⟩
        ·
         rw [if_neg c46] at H
         have c46b0 : (t276 == 1) = false := beq_eq_false_iff_ne.mpr c46
         have c46b1 : (t276 != 1) = true := bne_iff_ne.mpr c46
         by_cases c49 : t276 = 2
         ·
          rw [if_pos c49] at H
          have c49b0 : (t276 == 2) = true := beq_iff_eq.mpr c49
          have c49b1 : (t276 != 2) = false := bne_eq_false_iff_eq.mpr c49
          clear c49
          have H' := Aside0.mk H
          clear H
          have hnb50 := NB257_275.out
          have hnc50 := NB275_257.out
          have hcz51_0 : wc.cell? ⟨gb257, 0, none⟩ = some (.int .i64 255) := (blk_cell BK257.out 0).trans rfl
          have hcz51_1 : wc.cell? ⟨gb257, 1, none⟩ = some (.int .i64 65535) := (blk_cell BK257.out 1).trans rfl
          have hcz51_2 : wc.cell? ⟨gb257, 2, none⟩ = some (.bool true) := (blk_cell BK257.out 2).trans rfl
          have hcz51_3 : wc.cell? ⟨gb257, 3, none⟩ = some (.bool true) := (blk_cell BK257.out 3).trans rfl
          have hcz51_4 : wc.cell? ⟨gb257, 4, none⟩ = some (.int .i64 65528) := (blk_cell BK257.out 4).trans rfl
          have hcz51_5 : wc.cell? ⟨gb257, 5, none⟩ = some (.int .i64 255) := (blk_cell BK257.out 5).trans rfl
          have hcz51_6 : wc.cell? ⟨gb257, 6, none⟩ = some (.int .i64 255) := (blk_cell BK257.out 6).trans rfl
          have hcz51_7 : wc.cell? ⟨gb257, 7, none⟩ = some (.int .u32 4294967295) := (blk_cell BK257.out 7).trans rfl
          have hcz51_8 : wc.cell? ⟨gb257, 8, none⟩ = some (.int .u32 4294967295) := (blk_cell BK257.out 8).trans rfl
          have hcz51_9 : wc.cell? ⟨gb257, 9, none⟩ = some (.string (strOfNums y254)) := (blk_cell BK257.out 9).trans rfl
          have hfz51_0 := blk_frozen BK257.out 0
          have hfz51_1 := blk_frozen BK257.out 1
          have hfz51_2 := blk_frozen BK257.out 2
          have hfz51_3 := blk_frozen BK257.out 3
          have hfz51_4 := blk_frozen BK257.out 4
          have hfz51_5 := blk_frozen BK257.out 5
          have hfz51_6 := blk_frozen BK257.out 6
          have hfz51_7 := blk_frozen BK257.out 7
          have hfz51_8 := blk_frozen BK257.out 8
          have hfz51_9 := blk_frozen BK257.out 9
          go_wp2
          go_meet
          case rel => exact ⟨_, (255), (65535), (wrap64 (65528 + (wrap64 (8 * (wrap64 (1 + t253)))))), (255), (255), ((strOfNums y254)), H', ⟨by have := HJ7.out; first | omega | exact Nat.le_refl _⟩, ⟨by (with_reducible repeat (first | refine blk_drewN ?_ _ | refine blk_drew ?_ | refine blk_alloc ?_ _)); refine blk_put (cs := #[.int .i64 255, .int .i64 65535, .bool true, .bool true, .int .i64 65528, .int .i64 255, .int .i64 255, .int .u32 4294967295, .int .u32 4294967295, .string (strOfNums y254)]) ?_ 4 _ rfl; (with_reducible repeat (first | refine blk_drewN ?_ _ | refine blk_drew ?_ | refine blk_alloc ?_ _)); exact BK257.out⟩, ⟨by (with_reducible repeat (first | refine blk_drewN ?_ _ | refine blk_drew ?_ | refine blk_alloc ?_ _)); refine blk_far ?_ NB275_257.out _; (with_reducible repeat (first | refine blk_drewN ?_ _ | refine blk_drew ?_ | refine blk_alloc ?_ _)); exact BK275.out⟩, ⟨by repeat (first | (with_reducible first | exact HB.out | apply below_alloc | apply pw_below_drewN | apply below_drew1 | refine below_set ?_ GE257.out | refine below_set ?_ GE275.out) | exact HB.out)⟩⟩
         ·
          rw [if_neg c49] at H
          have c49b0 : (t276 == 2) = false := beq_eq_false_iff_ne.mpr c49
          have c49b1 : (t276 != 2) = true := bne_iff_ne.mpr c49
          by_cases c52 : t276 = 3
          ·
           rw [if_pos c52] at H
           have c52b0 : (t276 == 3) = true := beq_iff_eq.mpr c52
           have c52b1 : (t276 != 3) = false := bne_eq_false_iff_eq.mpr c52
           clear c52
           have H' := Aside0.mk H
           clear H
           have hnb53 := NB257_275.out
           have hnc53 := NB275_257.out
           have hcz54_0 : wc.cell? ⟨gb257, 0, none⟩ = some (.int .i64 255) := (blk_cell BK257.out 0).trans rfl
           have hcz54_1 : wc.cell? ⟨gb257, 1, none⟩ = some (.int .i64 65535) := (blk_cell BK257.out 1).trans rfl
           have hcz54_2 : wc.cell? ⟨gb257, 2, none⟩ = some (.bool true) := (blk_cell BK257.out 2).trans rfl
           have hcz54_3 : wc.cell? ⟨gb257, 3, none⟩ = some (.bool true) := (blk_cell BK257.out 3).trans rfl
           have hcz54_4 : wc.cell? ⟨gb257, 4, none⟩ = some (.int .i64 65528) := (blk_cell BK257.out 4).trans rfl
           have hcz54_5 : wc.cell? ⟨gb257, 5, none⟩ = some (.int .i64 255) := (blk_cell BK257.out 5).trans rfl
           have hcz54_6 : wc.cell? ⟨gb257, 6, none⟩ = some (.int .i64 255) := (blk_cell BK257.out 6).trans rfl
           have hcz54_7 : wc.cell? ⟨gb257, 7, none⟩ = some (.int .u32 4294967295) := (blk_cell BK257.out 7).trans rfl
           have hcz54_8 : wc.cell? ⟨gb257, 8, none⟩ = some (.int .u32 4294967295) := (blk_cell BK257.out 8).trans rfl
           have hcz54_9 : wc.cell? ⟨gb257, 9, none⟩ = some (.string (strOfNums y254)) := (blk_cell BK257.out 9).trans rfl
           have hfz54_0 := blk_frozen BK257.out 0
           have hfz54_1 := blk_frozen BK257.out 1
           have hfz54_2 := blk_frozen BK257.out 2
           have hfz54_3 := blk_frozen BK257.out 3
           have hfz54_4 := blk_frozen BK257.out 4
           have hfz54_5 := blk_frozen BK257.out 5
           have hfz54_6 := blk_frozen BK257.out 6
           have hfz54_7 := blk_frozen BK257.out 7
           have hfz54_8 := blk_frozen BK257.out 8
           have hfz54_9 := blk_frozen BK257.out 9
           go_wp2
           go_meet
           case rel => exact ⟨_, (255), (65535), (wrap64 (1 + (Int.tmod (wrap64 (1 + t253)) 7))), (255), (255), ((strOfNums y254)), H', ⟨by have := HJ7.out; first | omega | exact Nat.le_refl _⟩, ⟨by (with_reducible repeat (first | refine blk_drewN ?_ _ | refine blk_drew ?_ | refine blk_alloc ?_ _)); refine blk_put (cs := #[.int .i64 255, .int .i64 65535, .bool true, .bool true, .int .i64 65528, .int .i64 255, .int .i64 255, .int .u32 4294967295, .int .u32 4294967295, .string (strOfNums y254)]) ?_ 4 _ rfl; (with_reducible repeat (first | refine blk_drewN ?_ _ | refine blk_drew ?_ | refine blk_alloc ?_ _)); exact BK257.out⟩, ⟨by (with_reducible repeat (first | refine blk_drewN ?_ _ | refine blk_drew ?_ | refine blk_alloc ?_ _)); refine blk_far ?_ NB275_257.out _; (with_reducible repeat (first | refine blk_drewN ?_ _ | refine blk_drew ?_ | refine blk_alloc ?_ _)); exact BK275.out⟩, ⟨by repeat (first | (with_reducible first | exact HB.out | apply below_alloc | apply pw_below_drewN | apply below_drew1 | refine below_set ?_ GE257.out | refine below_set ?_ GE275.out) | exact HB.out)⟩⟩
          ·
           rw [if_neg c52] at H
           have c52b0 : (t276 == 3) = false := beq_eq_false_iff_ne.mpr c52
           have c52b1 : (t276 != 3) = true := bne_iff_ne.mpr c52
           by_cases c55 : t276 = 4
           ·
            rw [if_pos c55] at H
            have c55b0 : (t276 == 4) = true := beq_iff_eq.mpr c55
            have c55b1 : (t276 != 4) = false := bne_eq_false_iff_eq.mpr c55
            clear c55
            have H' := Aside0.mk H
            clear H
            have hnb56 := NB257_275.out
            have hnc56 := NB275_257.out
            have hcz57_0 : wc.cell? ⟨gb257, 0, none⟩ = some (.int .i64 255) := (blk_cell BK257.out 0).trans rfl
            have hcz57_1 : wc.cell? ⟨gb257, 1, none⟩ = some (.int .i64 65535) := (blk_cell BK257.out 1).trans rfl
            have hcz57_2 : wc.cell? ⟨gb257, 2, none⟩ = some (.bool true) := (blk_cell BK257.out 2).trans rfl
            have hcz57_3 : wc.cell? ⟨gb257, 3, none⟩ = some (.bool true) := (blk_cell BK257.out 3).trans rfl
            have hcz57_4 : wc.cell? ⟨gb257, 4, none⟩ = some (.int .i64 65528) := (blk_cell BK257.out 4).trans rfl
            have hcz57_5 : wc.cell? ⟨gb257, 5, none⟩ = some (.int .i64 255) := (blk_cell BK257.out 5).trans rfl
            have hcz57_6 : wc.cell? ⟨gb257, 6, none⟩ = some (.int .i64 255) := (blk_cell BK257.out 6).trans rfl
            have hcz57_7 : wc.cell? ⟨gb257, 7, none⟩ = some (.int .u32 4294967295) := (blk_cell BK257.out 7).trans rfl
            have hcz57_8 : wc.cell? ⟨gb257, 8, none⟩ = some (.int .u32 4294967295) := (blk_cell BK257.out 8).trans rfl
            have hcz57_9 : wc.cell? ⟨gb257, 9, none⟩ = some (.string (strOfNums y254)) := (blk_cell BK257.out 9).trans rfl
            have hfz57_0 := blk_frozen BK257.out 0
            have hfz57_1 := blk_frozen BK257.out 1
            have hfz57_2 := blk_frozen BK257.out 2
            have hfz57_3 := blk_frozen BK257.out 3
            have hfz57_4 := blk_frozen BK257.out 4
            have hfz57_5 := blk_frozen BK257.out 5
            have hfz57_6 := blk_frozen BK257.out 6
            have hfz57_7 := blk_frozen BK257.out 7
            have hfz57_8 := blk_frozen BK257.out 8
            have hfz57_9 := blk_frozen BK257.out 9
            go_wp2
            go_meet
            case rel => exact ⟨_, (255), (65535), (65528), (wrap64 (-(wrap64 (1 + t253)))), (255), ((strOfNums y254)), H', ⟨by have := HJ7.out; first | omega | exact Nat.le_refl _⟩, ⟨by (with_reducible repeat (first | refine blk_drewN ?_ _ | refine blk_drew ?_ | refine blk_alloc ?_ _)); refine blk_put (cs := #[.int .i64 255, .int .i64 65535, .bool true, .bool true, .int .i64 65528, .int .i64 255, .int .i64 255, .int .u32 4294967295, .int .u32 4294967295, .string (strOfNums y254)]) ?_ 5 _ rfl; (with_reducible repeat (first | refine blk_drewN ?_ _ | refine blk_drew ?_ | refine blk_alloc ?_ _)); exact BK257.out⟩, ⟨by (with_reducible repeat (first | refine blk_drewN ?_ _ | refine blk_drew ?_ | refine blk_alloc ?_ _)); refine blk_far ?_ NB275_257.out _; (with_reducible repeat (first | refine blk_drewN ?_ _ | refine blk_drew ?_ | refine blk_alloc ?_ _)); exact BK275.out⟩, ⟨by repeat (first | (with_reducible first | exact HB.out | apply below_alloc | apply pw_below_drewN | apply below_drew1 | refine below_set ?_ GE257.out | refine below_set ?_ GE275.out) | exact HB.out)⟩⟩
           ·
            rw [if_neg c55] at H
            have c55b0 : (t276 == 4) = false := beq_eq_false_iff_ne.mpr c55
            have c55b1 : (t276 != 4) = true := bne_iff_ne.mpr c55
            by_cases c58 : t276 = 5
            ·
             rw [if_pos c58] at H
             have c58b0 : (t276 == 5) = true := beq_iff_eq.mpr c58
             have c58b1 : (t276 != 5) = false := bne_eq_false_iff_eq.mpr c58
             clear c58
             have H' := Aside0.mk H
             clear H
             have hnb59 := NB257_275.out
             have hnc59 := NB275_257.out
             have hcz60_0 : wc.cell? ⟨gb257, 0, none⟩ = some (.int .i64 255) := (blk_cell BK257.out 0).trans rfl
             have hcz60_1 : wc.cell? ⟨gb257, 1, none⟩ = some (.int .i64 65535) := (blk_cell BK257.out 1).trans rfl
             have hcz60_2 : wc.cell? ⟨gb257, 2, none⟩ = some (.bool true) := (blk_cell BK257.out 2).trans rfl
             have hcz60_3 : wc.cell? ⟨gb257, 3, none⟩ = some (.bool true) := (blk_cell BK257.out 3).trans rfl
             have hcz60_4 : wc.cell? ⟨gb257, 4, none⟩ = some (.int .i64 65528) := (blk_cell BK257.out 4).trans rfl
             have hcz60_5 : wc.cell? ⟨gb257, 5, none⟩ = some (.int .i64 255) := (blk_cell BK257.out 5).trans rfl
             have hcz60_6 : wc.cell? ⟨gb257, 6, none⟩ = some (.int .i64 255) := (blk_cell BK257.out 6).trans rfl
             have hcz60_7 : wc.cell? ⟨gb257, 7, none⟩ = some (.int .u32 4294967295) := (blk_cell BK257.out 7).trans rfl
             have hcz60_8 : wc.cell? ⟨gb257, 8, none⟩ = some (.int .u32 4294967295) := (blk_cell BK257.out 8).trans rfl
             have hcz60_9 : wc.cell? ⟨gb257, 9, none⟩ = some (.string (strOfNums y254)) := (blk_cell BK257.out 9).trans rfl
             have hfz60_0 := blk_frozen BK257.out 0
             have hfz60_1 := blk_frozen BK257.out 1
             have hfz60_2 := blk_frozen BK257.out 2
             have hfz60_3 := blk_frozen BK257.out 3
             have hfz60_4 := blk_frozen BK257.out 4
             have hfz60_5 := blk_frozen BK257.out 5
             have hfz60_6 := blk_frozen BK257.out 6
             have hfz60_7 := blk_frozen BK257.out 7
             have hfz60_8 := blk_frozen BK257.out 8
             have hfz60_9 := blk_frozen BK257.out 9
             go_wp2
             go_meet
             case rel => exact ⟨_, (255), (65535), (65528), (255), (wrap64 (255 + (wrap64 (1 + t253)))), ((strOfNums y254)), H', ⟨by have := HJ7.out; first | omega | exact Nat.le_refl _⟩, ⟨by (with_reducible repeat (first | refine blk_drewN ?_ _ | refine blk_drew ?_ | refine blk_alloc ?_ _)); refine blk_put (cs := #[.int .i64 255, .int .i64 65535, .bool true, .bool true, .int .i64 65528, .int .i64 255, .int .i64 255, .int .u32 4294967295, .int .u32 4294967295, .string (strOfNums y254)]) ?_ 6 _ rfl; (with_reducible repeat (first | refine blk_drewN ?_ _ | refine blk_drew ?_ | refine blk_alloc ?_ _)); exact BK257.out⟩, ⟨by (with_reducible repeat (first | refine blk_drewN ?_ _ | refine blk_drew ?_ | refine blk_alloc ?_ _)); refine blk_far ?_ NB275_257.out _; (with_reducible repeat (first | refine blk_drewN ?_ _ | refine blk_drew ?_ | refine blk_alloc ?_ _)); exact BK275.out⟩, ⟨by repeat (first | (with_reducible first | exact HB.out | apply below_alloc | apply pw_below_drewN | apply below_drew1 | refine below_set ?_ GE257.out | refine below_set ?_ GE275.out) | exact HB.out)⟩⟩
            ·
             rw [if_neg c58] at H
             have c58b0 : (t276 == 5) = false := beq_eq_false_iff_ne.mpr c58
             have c58b1 : (t276 != 5) = true := bne_iff_ne.mpr c58
             by_cases c61 : t276 = 6
             ·
              rw [if_pos c61] at H
              have c61b0 : (t276 == 6) = true := beq_iff_eq.mpr c61
              have c61b1 : (t276 != 6) = false := bne_eq_false_iff_eq.mpr c61
              clear c61
              by_cases c62 : (strOfNums y254).size + 4 ≤ 9223372036854775807
              ·
               rw [if_pos c62] at H
               have c62b0 := eq_true c62
               have c62b1 : decide ((strOfNums y254).size + 4 ≤ 9223372036854775807) = true := decide_eq_true c62
               try have c62b2 : (9223372036854775807 < (strOfNums y254).size + 4) = False := eq_false (Nat.not_lt.2 c62)
               have H' := Aside0.mk H
               clear H
               have hnb63 := NB257_275.out
               have hnc63 := NB275_257.out
               have hcz64_0 : wc.cell? ⟨gb257, 0, none⟩ = some (.int .i64 255) := (blk_cell BK257.out 0).trans rfl
               have hcz64_1 : wc.cell? ⟨gb257, 1, none⟩ = some (.int .i64 65535) := (blk_cell BK257.out 1).trans rfl
               have hcz64_2 : wc.cell? ⟨gb257, 2, none⟩ = some (.bool true) := (blk_cell BK257.out 2).trans rfl
               have hcz64_3 : wc.cell? ⟨gb257, 3, none⟩ = some (.bool true) := (blk_cell BK257.out 3).trans rfl
               have hcz64_4 : wc.cell? ⟨gb257, 4, none⟩ = some (.int .i64 65528) := (blk_cell BK257.out 4).trans rfl
               have hcz64_5 : wc.cell? ⟨gb257, 5, none⟩ = some (.int .i64 255) := (blk_cell BK257.out 5).trans rfl
               have hcz64_6 : wc.cell? ⟨gb257, 6, none⟩ = some (.int .i64 255) := (blk_cell BK257.out 6).trans rfl
               have hcz64_7 : wc.cell? ⟨gb257, 7, none⟩ = some (.int .u32 4294967295) := (blk_cell BK257.out 7).trans rfl
               have hcz64_8 : wc.cell? ⟨gb257, 8, none⟩ = some (.int .u32 4294967295) := (blk_cell BK257.out 8).trans rfl
               have hcz64_9 : wc.cell? ⟨gb257, 9, none⟩ = some (.string (strOfNums y254)) := (blk_cell BK257.out 9).trans rfl
               have hfz64_0 := blk_frozen BK257.out 0
               have hfz64_1 := blk_frozen BK257.out 1
               have hfz64_2 := blk_frozen BK257.out 2
               have hfz64_3 := blk_frozen BK257.out 3
               have hfz64_4 := blk_frozen BK257.out 4
               have hfz64_5 := blk_frozen BK257.out 5
               have hfz64_6 := blk_frozen BK257.out 6
               have hfz64_7 := blk_frozen BK257.out 7
               have hfz64_8 := blk_frozen BK257.out 8
               have hfz64_9 := blk_frozen BK257.out 9
               go_wp2
               go_meet
               case rel => exact ⟨_, (255), (65535), (65528), (255), (255), ((strOfNums y254) ++ (⟨#[49, 50, 51, 52]⟩ : ByteArray)), H', ⟨by have := HJ7.out; first | omega | exact Nat.le_refl _⟩, ⟨by (with_reducible repeat (first | refine blk_drewN ?_ _ | refine blk_drew ?_ | refine blk_alloc ?_ _)); refine blk_put (cs := #[.int .i64 255, .int .i64 65535, .bool true, .bool true, .int .i64 65528, .int .i64 255, .int .i64 255, .int .u32 4294967295, .int .u32 4294967295, .string (strOfNums y254)]) ?_ 9 _ rfl; (with_reducible repeat (first | refine blk_drewN ?_ _ | refine blk_drew ?_ | refine blk_alloc ?_ _)); exact BK257.out⟩, ⟨by (with_reducible repeat (first | refine blk_drewN ?_ _ | refine blk_drew ?_ | refine blk_alloc ?_ _)); refine blk_far ?_ NB275_257.out _; (with_reducible repeat (first | refine blk_drewN ?_ _ | refine blk_drew ?_ | refine blk_alloc ?_ _)); exact BK275.out⟩, ⟨by repeat (first | (with_reducible first | exact HB.out | apply below_alloc | apply pw_below_drewN | apply below_drew1 | refine below_set ?_ GE257.out | refine below_set ?_ GE275.out) | exact HB.out)⟩⟩
              ·
               rw [if_neg c62] at H
               exact absurd H (by simp)
             ·
              rw [if_neg c61] at H
              have c61b0 : (t276 == 6) = false := beq_eq_false_iff_ne.mpr c61
              have c61b1 : (t276 != 6) = true := bne_iff_ne.mpr c61
              obtain ⟨ji65, hji65⟩ : ∃ j_ : Int, (wrap64 (1 + (Int.tmod (wrap64 (1 + t253)) 3))) = j_ := ⟨_, rfl⟩
              replace H : (if 0 ≤ (ji65) then (if (ji65) ≤ 5 then (rampartlaw03_Ipv4Edges.j1 kj7 (wrap64 (1 + t253)) 255 65535 true true 65528 255 255 4294967295 4294967295 ((⟨#[49, 50, 51, 52, 53]⟩ : ByteArray).extract 0 ((ji65) : Int).toNat)) else (none)) else (none)) = some r := by first | (rw [hji65] at H; exact H) | (simp only [hji65] at H ⊢; exact H)
              have hji65w : (IntKind.i64.wrap (1 + (Int.tmod (wrap64 (1 + t253)) 3))) = ji65 := (i64_w _).trans hji65
              by_cases c66 : 0 ≤ (ji65)
              ·
               rw [if_pos c66] at H
               have c66b0 := eq_true c66
               have c66b1 : decide (0 ≤ (ji65)) = true := decide_eq_true c66
               clear c66
               by_cases c67 : (ji65) ≤ 5
               ·
                rw [if_pos c67] at H
                have c67b0 := eq_true c67
                have c67b1 : decide ((ji65) ≤ 5) = true := decide_eq_true c67
                clear c67
                have H' := Aside0.mk H
                clear H
                have hnb68 := NB257_275.out
                have hnc68 := NB275_257.out
                have hcz69_0 : wc.cell? ⟨gb257, 0, none⟩ = some (.int .i64 255) := (blk_cell BK257.out 0).trans rfl
                have hcz69_1 : wc.cell? ⟨gb257, 1, none⟩ = some (.int .i64 65535) := (blk_cell BK257.out 1).trans rfl
                have hcz69_2 : wc.cell? ⟨gb257, 2, none⟩ = some (.bool true) := (blk_cell BK257.out 2).trans rfl
                have hcz69_3 : wc.cell? ⟨gb257, 3, none⟩ = some (.bool true) := (blk_cell BK257.out 3).trans rfl
                have hcz69_4 : wc.cell? ⟨gb257, 4, none⟩ = some (.int .i64 65528) := (blk_cell BK257.out 4).trans rfl
                have hcz69_5 : wc.cell? ⟨gb257, 5, none⟩ = some (.int .i64 255) := (blk_cell BK257.out 5).trans rfl
                have hcz69_6 : wc.cell? ⟨gb257, 6, none⟩ = some (.int .i64 255) := (blk_cell BK257.out 6).trans rfl
                have hcz69_7 : wc.cell? ⟨gb257, 7, none⟩ = some (.int .u32 4294967295) := (blk_cell BK257.out 7).trans rfl
                have hcz69_8 : wc.cell? ⟨gb257, 8, none⟩ = some (.int .u32 4294967295) := (blk_cell BK257.out 8).trans rfl
                have hcz69_9 : wc.cell? ⟨gb257, 9, none⟩ = some (.string (strOfNums y254)) := (blk_cell BK257.out 9).trans rfl
                have hfz69_0 := blk_frozen BK257.out 0
                have hfz69_1 := blk_frozen BK257.out 1
                have hfz69_2 := blk_frozen BK257.out 2
                have hfz69_3 := blk_frozen BK257.out 3
                have hfz69_4 := blk_frozen BK257.out 4
                have hfz69_5 := blk_frozen BK257.out 5
                have hfz69_6 := blk_frozen BK257.out 6
                have hfz69_7 := blk_frozen BK257.out 7
                have hfz69_8 := blk_frozen BK257.out 8
                have hfz69_9 := blk_frozen BK257.out 9
                go_wp2
                go_meet
                case rel => exact ⟨_, (255), (65535), (65528), (255), (255), ((⟨#[49, 50, 51, 52, 53]⟩ : ByteArray).extract 0 ((ji65) : Int).toNat), H', ⟨by have := HJ7.out; first | omega | exact Nat.le_refl _⟩, ⟨by (with_reducible repeat (first | refine blk_drewN ?_ _ | refine blk_drew ?_ | refine blk_alloc ?_ _)); refine blk_put (cs := #[.int .i64 255, .int .i64 65535, .bool true, .bool true, .int .i64 65528, .int .i64 255, .int .i64 255, .int .u32 4294967295, .int .u32 4294967295, .string (strOfNums y254)]) ?_ 9 _ rfl; (with_reducible repeat (first | refine blk_drewN ?_ _ | refine blk_drew ?_ | refine blk_alloc ?_ _)); exact BK257.out⟩, ⟨by (with_reducible repeat (first | refine blk_drewN ?_ _ | refine blk_drew ?_ | refine blk_alloc ?_ _)); refine blk_far ?_ NB275_257.out _; (with_reducible repeat (first | refine blk_drewN ?_ _ | refine blk_drew ?_ | refine blk_alloc ?_ _)); exact BK275.out⟩, ⟨by repeat (first | (with_reducible first | exact HB.out | apply below_alloc | apply pw_below_drewN | apply below_drew1 | refine below_set ?_ GE257.out | refine below_set ?_ GE275.out) | exact HB.out)⟩⟩
               ·
                rw [if_neg c67] at H
                exact absurd H (by simp)
              ·
               rw [if_neg c66] at H
               exact absurd H (by simp)
      case rest =>
       clear HC42
       try clear c1
       try clear hcv1
       try clear c2
       try clear p2
       try clear c3
       try clear c4
       try clear c4b0
       try clear c4b1
       try clear c5
       try clear c5b0
       try clear c5b1
       try clear c6
       try clear p6
       try clear hcv11
       try clear c16
       try clear c18
       try clear hcv18
       try clear c22
       try clear c23
       try clear c24
       try clear c24b0
       try clear c24b1
       try clear c25
       try clear c25b0
       try clear c25b1
       try clear c26
       try clear c26b0
       try clear c26b1
       try clear c27
       try clear c28
       try clear c29
       try clear c29b0
       try clear c29b1
       try clear c30
       try clear c32
       try clear c34
       try clear c36
       try clear c38
       try clear c40
       try clear c43
       try clear c43b0
       try clear c43b1
       try clear c44
       try clear c46
       try clear c46b0
       try clear c46b1
       try clear c47
       try clear c49
       try clear c49b0
       try clear c49b1
       try clear c50
       try clear c52
       try clear c52b0
       try clear c52b1
       try clear c53
       try clear c55
       try clear c55b0
       try clear c55b1
       try clear c56
       try clear c58
       try clear c58b0
       try clear c58b1
       try clear c59
       try clear c61
       try clear c61b0
       try clear c61b1
       try clear c62
       try clear c62b0
       try clear c62b1
       try clear c62b2
       try clear c63
       try clear p64
       try clear c66
       try clear c66b0
       try clear c66b1
       try clear c67
       try clear c67b0
       try clear c67b1
       try clear c68
       try clear hcz13_0
       try clear hcz13_1
       try clear hcz13_2
       try clear hcz13_3
       try clear hcz13_4
       try clear hcz13_5
       try clear hcz13_6
       try clear hcz13_7
       try clear hcz13_8
       try clear hcz13_9
       try clear hcz23_0
       try clear hcz23_1
       try clear hcz23_2
       try clear hcz23_3
       try clear hcz23_4
       try clear hcz23_5
       try clear hcz23_6
       try clear hcz23_7
       try clear hcz23_8
       try clear hcz23_9
       try clear hcz31_0
       try clear hcz31_1
       try clear hcz31_2
       try clear hcz31_3
       try clear hcz31_4
       try clear hcz31_5
       try clear hcz31_6
       try clear hcz31_7
       try clear hcz31_8
       try clear hcz31_9
       try clear hcz33_0
       try clear hcz33_1
       try clear hcz33_2
       try clear hcz33_3
       try clear hcz33_4
       try clear hcz33_5
       try clear hcz33_6
       try clear hcz33_7
       try clear hcz33_8
       try clear hcz33_9
       try clear hcz35_0
       try clear hcz35_1
       try clear hcz35_2
       try clear hcz35_3
       try clear hcz35_4
       try clear hcz35_5
       try clear hcz35_6
       try clear hcz35_7
       try clear hcz35_8
       try clear hcz35_9
       try clear hcz37_0
       try clear hcz37_1
       try clear hcz37_2
       try clear hcz37_3
       try clear hcz37_4
       try clear hcz37_5
       try clear hcz37_6
       try clear hcz37_7
       try clear hcz37_8
       try clear hcz37_9
       try clear hcz39_0
       try clear hcz39_1
       try clear hcz39_2
       try clear hcz39_3
       try clear hcz39_4
       try clear hcz39_5
       try clear hcz39_6
       try clear hcz39_7
       try clear hcz39_8
       try clear hcz39_9
       try clear hcz45_0
       try clear hcz45_1
       try clear hcz45_2
       try clear hcz45_3
       try clear hcz45_4
       try clear hcz45_5
       try clear hcz45_6
       try clear hcz45_7
       try clear hcz45_8
       try clear hcz45_9
       try clear hcz48_0
       try clear hcz48_1
       try clear hcz48_2
       try clear hcz48_3
       try clear hcz48_4
       try clear hcz48_5
       try clear hcz48_6
       try clear hcz48_7
       try clear hcz48_8
       try clear hcz48_9
       try clear hcz51_0
       try clear hcz51_1
       try clear hcz51_2
       try clear hcz51_3
       try clear hcz51_4
       try clear hcz51_5
       try clear hcz51_6
       try clear hcz51_7
       try clear hcz51_8
       try clear hcz51_9
       try clear hcz54_0
       try clear hcz54_1
       try clear hcz54_2
       try clear hcz54_3
       try clear hcz54_4
       try clear hcz54_5
       try clear hcz54_6
       try clear hcz54_7
       try clear hcz54_8
       try clear hcz54_9
       try clear hcz57_0
       try clear hcz57_1
       try clear hcz57_2
       try clear hcz57_3
       try clear hcz57_4
       try clear hcz57_5
       try clear hcz57_6
       try clear hcz57_7
       try clear hcz57_8
       try clear hcz57_9
       try clear hcz60_0
       try clear hcz60_1
       try clear hcz60_2
       try clear hcz60_3
       try clear hcz60_4
       try clear hcz60_5
       try clear hcz60_6
       try clear hcz60_7
       try clear hcz60_8
       try clear hcz60_9
       try clear hcz64_0
       try clear hcz64_1
       try clear hcz64_2
       try clear hcz64_3
       try clear hcz64_4
       try clear hcz64_5
       try clear hcz64_6
       try clear hcz64_7
       try clear hcz64_8
       try clear hcz64_9
       try clear hcz69_0
       try clear hcz69_1
       try clear hcz69_2
       try clear hcz69_3
       try clear hcz69_4
       try clear hcz69_5
       try clear hcz69_6
       try clear hcz69_7
       try clear hcz69_8
       try clear hcz69_9
       try clear hfz13_0
       try clear hfz13_1
       try clear hfz13_2
       try clear hfz13_3
       try clear hfz13_4
       try clear hfz13_5
       try clear hfz13_6
       try clear hfz13_7
       try clear hfz13_8
       try clear hfz13_9
       try clear hfz23_0
       try clear hfz23_1
       try clear hfz23_2
       try clear hfz23_3
       try clear hfz23_4
       try clear hfz23_5
       try clear hfz23_6
       try clear hfz23_7
       try clear hfz23_8
       try clear hfz23_9
       try clear hfz31_0
       try clear hfz31_1
       try clear hfz31_2
       try clear hfz31_3
       try clear hfz31_4
       try clear hfz31_5
       try clear hfz31_6
       try clear hfz31_7
       try clear hfz31_8
       try clear hfz31_9
       try clear hfz33_0
       try clear hfz33_1
       try clear hfz33_2
       try clear hfz33_3
       try clear hfz33_4
       try clear hfz33_5
       try clear hfz33_6
       try clear hfz33_7
       try clear hfz33_8
       try clear hfz33_9
       try clear hfz35_0
       try clear hfz35_1
       try clear hfz35_2
       try clear hfz35_3
       try clear hfz35_4
       try clear hfz35_5
       try clear hfz35_6
       try clear hfz35_7
       try clear hfz35_8
       try clear hfz35_9
       try clear hfz37_0
       try clear hfz37_1
       try clear hfz37_2
       try clear hfz37_3
       try clear hfz37_4
       try clear hfz37_5
       try clear hfz37_6
       try clear hfz37_7
       try clear hfz37_8
       try clear hfz37_9
       try clear hfz39_0
       try clear hfz39_1
       try clear hfz39_2
       try clear hfz39_3
       try clear hfz39_4
       try clear hfz39_5
       try clear hfz39_6
       try clear hfz39_7
       try clear hfz39_8
       try clear hfz39_9
       try clear hfz45_0
       try clear hfz45_1
       try clear hfz45_2
       try clear hfz45_3
       try clear hfz45_4
       try clear hfz45_5
       try clear hfz45_6
       try clear hfz45_7
       try clear hfz45_8
       try clear hfz45_9
       try clear hfz48_0
       try clear hfz48_1
       try clear hfz48_2
       try clear hfz48_3
       try clear hfz48_4
       try clear hfz48_5
       try clear hfz48_6
       try clear hfz48_7
       try clear hfz48_8
       try clear hfz48_9
       try clear hfz51_0
       try clear hfz51_1
       try clear hfz51_2
       try clear hfz51_3
       try clear hfz51_4
       try clear hfz51_5
       try clear hfz51_6
       try clear hfz51_7
       try clear hfz51_8
       try clear hfz51_9
       try clear hfz54_0
       try clear hfz54_1
       try clear hfz54_2
       try clear hfz54_3
       try clear hfz54_4
       try clear hfz54_5
       try clear hfz54_6
       try clear hfz54_7
       try clear hfz54_8
       try clear hfz54_9
       try clear hfz57_0
       try clear hfz57_1
       try clear hfz57_2
       try clear hfz57_3
       try clear hfz57_4
       try clear hfz57_5
       try clear hfz57_6
       try clear hfz57_7
       try clear hfz57_8
       try clear hfz57_9
       try clear hfz60_0
       try clear hfz60_1
       try clear hfz60_2
       try clear hfz60_3
       try clear hfz60_4
       try clear hfz60_5
       try clear hfz60_6
       try clear hfz60_7
       try clear hfz60_8
       try clear hfz60_9
       try clear hfz64_0
       try clear hfz64_1
       try clear hfz64_2
       try clear hfz64_3
       try clear hfz64_4
       try clear hfz64_5
       try clear hfz64_6
       try clear hfz64_7
       try clear hfz64_8
       try clear hfz64_9
       try clear hfz69_0
       try clear hfz69_1
       try clear hfz69_2
       try clear hfz69_3
       try clear hfz69_4
       try clear hfz69_5
       try clear hfz69_6
       try clear hfz69_7
       try clear hfz69_8
       try clear hfz69_9
       try clear p2
       try clear p6
       obtain ⟨kq, x258000_41, x258001_41, x258004_41, x258005_41, x258006_41, x258009_41, HA, HJ41, BK257, BK275, HB⟩ := hcut
       cases kq with
       | zero => exact absurd HA.out (by simp [rampartlaw03_Ipv4Edges.j1])
       | succ kj41 =>
        have H := HA.out
        clear HA
        simp only [rampartlaw03_Ipv4Edges.j1] at H
        replace H := Option.bind_eq_some_iff.mp H
        obtain ⟨⟨t277, t278⟩, A700, H⟩ := H
        replace H : (if 0 ≤ (wrap64 (2000 + (wrap64 (1 + t253)))) then (if (wrap64 (2000 + (wrap64 (1 + t253))) : Int).toNat ≤ 281474976710656 then ((ipv4_Put.f kj41 0 0 false false 0 0 0 0 0 (⟨#[]⟩ : ByteArray) (strOfNums (List.replicate (wrap64 (2000 + (wrap64 (1 + t253))) : Int).toNat 0))).bind fun bt282 => (if t277.toList = ([] : List UInt8) then (if t278 = 1 then ((ipv4_Check.f x258000_41 x258001_41 true true x258004_41 x258005_41 x258006_41 4294967295 4294967295 x258009_41).bind fun t284 => (if t284 = true then (some false) else (if bt282.2 = 5 then ((rampartlaw03_awake.f kj41).bind fun t285 => (some t285)) else (some false)))) else (some false)) else (some false))) else (none)) else (none)) = some r := H
        have A70 := Aside0.mk A700
        clear A700
        obtain ⟨ji71, hji71⟩ : ∃ j_ : Int, (wrap64 (2000 + (wrap64 (1 + t253)))) = j_ := ⟨_, rfl⟩
        replace H : (if 0 ≤ (ji71) then (if (ji71 : Int).toNat ≤ 281474976710656 then ((ipv4_Put.f kj41 0 0 false false 0 0 0 0 0 (⟨#[]⟩ : ByteArray) (strOfNums (List.replicate (ji71 : Int).toNat 0))).bind fun bt282 => (if t277.toList = ([] : List UInt8) then (if t278 = 1 then ((ipv4_Check.f x258000_41 x258001_41 true true x258004_41 x258005_41 x258006_41 4294967295 4294967295 x258009_41).bind fun t284 => (if t284 = true then (some false) else (if bt282.2 = 5 then ((rampartlaw03_awake.f kj41).bind fun t285 => (some t285)) else (some false)))) else (some false)) else (some false))) else (none)) else (none)) = some r := by first | (rw [hji71] at H; exact H) | (simp only [hji71] at H ⊢; exact H)
        (try rw [hji71] at A70)
        have hji71w : (IntKind.i64.wrap (2000 + (wrap64 (1 + t253)))) = ji71 := (i64_w _).trans hji71
        by_cases c72 : 0 ≤ (ji71)
        ·
         rw [if_pos c72] at H
         have c72b0 := eq_true c72
         have c72b1 : decide (0 ≤ (ji71)) = true := decide_eq_true c72
         clear c72
         by_cases c73 : (ji71 : Int).toNat ≤ 281474976710656
         ·
          rw [if_pos c73] at H
          have c73b0 := eq_true c73
          have c73b1 : decide ((ji71 : Int).toNat ≤ 281474976710656) = true := decide_eq_true c73
          clear c73
          obtain ⟨y279, hy279⟩ : ∃ y_ : List Int, y_ = (List.replicate (ji71 : Int).toNat 0) := ⟨_, rfl⟩
          replace H : ((ipv4_Put.f kj41 0 0 false false 0 0 0 0 0 (⟨#[]⟩ : ByteArray) (strOfNums y279)).bind fun bt282 => (if t277.toList = ([] : List UInt8) then (if t278 = 1 then ((ipv4_Check.f x258000_41 x258001_41 true true x258004_41 x258005_41 x258006_41 4294967295 4294967295 x258009_41).bind fun t284 => (if t284 = true then (some false) else (if bt282.2 = 5 then ((rampartlaw03_awake.f kj41).bind fun t285 => (some t285)) else (some false)))) else (some false)) else (some false))) = some r := by first | (rw [hy279]; with_reducible exact H) | (have H2_ := (Option.bind_some _ _).symm.trans H; rw [hy279]; with_reducible exact H2_) | (have H2_ := (Option.bind_some _ _).symm.trans H; with_reducible exact H2_) | with_reducible exact H | (rw [hy279]; exact H) | exact H
          have Ny279 := Aside0.mk hy279
          clear hy279
          replace H := Option.bind_eq_some_iff.mp H
          obtain ⟨⟨t282, t283⟩, A740, H⟩ := H
          replace H : (if t277.toList = ([] : List UInt8) then (if t278 = 1 then ((ipv4_Check.f x258000_41 x258001_41 true true x258004_41 x258005_41 x258006_41 4294967295 4294967295 x258009_41).bind fun t284 => (if t284 = true then (some false) else (if t283 = 5 then ((rampartlaw03_awake.f kj41).bind fun t285 => (some t285)) else (some false)))) else (some false)) else (some false)) = some r := H
          have A74 := Aside0.mk A740
          clear A740
          by_cases c75 : t277.toList = ([] : List UInt8)
          ·
           rw [if_pos c75] at H
           have c75b0 : (t277.toList == ([] : List UInt8)) = true := beq_iff_eq.mpr c75
           have c75b1 : (t277.toList != ([] : List UInt8)) = false := bne_eq_false_iff_eq.mpr c75
           clear c75
           by_cases c76 : t278 = 1
           ·
            rw [if_pos c76] at H
            have c76b0 : (t278 == 1) = true := beq_iff_eq.mpr c76
            have c76b1 : (t278 != 1) = false := bne_eq_false_iff_eq.mpr c76
            clear c76
            replace H := Option.bind_eq_some_iff.mp H
            obtain ⟨t284, A770, H⟩ := H
            replace H : (if t284 = true then (some false) else (if t283 = 5 then ((rampartlaw03_awake.f kj41).bind fun t285 => (some t285)) else (some false))) = some r := H
            have A77 := Aside0.mk A770
            clear A770
            by_cases c78 : t284 = true
            ·
             subst c78
             have H1 : (some false) = some r := by rw [if_pos rfl] at H; exact H
             clear H
             have H := H1
             clear H1
             exact absurd ((Option.some.inj H).trans HR.out) (by decide)
            ·
             replace c78 := Bool.eq_false_iff.mpr c78
             subst c78
             have H1 : (if t283 = 5 then ((rampartlaw03_awake.f kj41).bind fun t285 => (some t285)) else (some false)) = some r := by rw [if_neg (show ¬ (false = true) by decide)] at H; exact H
             clear H
             have H := H1
             clear H1
             by_cases c79 : t283 = 5
             ·
              rw [if_pos c79] at H
              have c79b0 : (t283 == 5) = true := beq_iff_eq.mpr c79
              have c79b1 : (t283 != 5) = false := bne_eq_false_iff_eq.mpr c79
              clear c79
              replace H := Option.bind_eq_some_iff.mp H
              obtain ⟨t285, A800, H⟩ := H
              replace H : (some t285) = some r := H
              have A80 := Aside0.mk A800
              clear A800
              obtain rfl := Option.some.inj H
              have hnb81 := NB257_275.out
              have hnc81 := NB275_257.out
              have hcz82_0 : wc.cell? ⟨gb257, 0, none⟩ = some (.int .i64 x258000_41) := (blk_cell BK257.out 0).trans rfl
              have hcz82_1 : wc.cell? ⟨gb257, 1, none⟩ = some (.int .i64 x258001_41) := (blk_cell BK257.out 1).trans rfl
              have hcz82_2 : wc.cell? ⟨gb257, 2, none⟩ = some (.bool true) := (blk_cell BK257.out 2).trans rfl
              have hcz82_3 : wc.cell? ⟨gb257, 3, none⟩ = some (.bool true) := (blk_cell BK257.out 3).trans rfl
              have hcz82_4 : wc.cell? ⟨gb257, 4, none⟩ = some (.int .i64 x258004_41) := (blk_cell BK257.out 4).trans rfl
              have hcz82_5 : wc.cell? ⟨gb257, 5, none⟩ = some (.int .i64 x258005_41) := (blk_cell BK257.out 5).trans rfl
              have hcz82_6 : wc.cell? ⟨gb257, 6, none⟩ = some (.int .i64 x258006_41) := (blk_cell BK257.out 6).trans rfl
              have hcz82_7 : wc.cell? ⟨gb257, 7, none⟩ = some (.int .u32 4294967295) := (blk_cell BK257.out 7).trans rfl
              have hcz82_8 : wc.cell? ⟨gb257, 8, none⟩ = some (.int .u32 4294967295) := (blk_cell BK257.out 8).trans rfl
              have hcz82_9 : wc.cell? ⟨gb257, 9, none⟩ = some (.string x258009_41) := (blk_cell BK257.out 9).trans rfl
              have hfz82_0 := blk_frozen BK257.out 0
              have hfz82_1 := blk_frozen BK257.out 1
              have hfz82_2 := blk_frozen BK257.out 2
              have hfz82_3 := blk_frozen BK257.out 3
              have hfz82_4 := blk_frozen BK257.out 4
              have hfz82_5 := blk_frozen BK257.out 5
              have hfz82_6 := blk_frozen BK257.out 6
              have hfz82_7 := blk_frozen BK257.out 7
              have hfz82_8 := blk_frozen BK257.out 8
              have hfz82_9 := blk_frozen BK257.out 9
              go_wp2_with (first | ((with_reducible refine gate_callee (f := 16) rfl ?_); refine goesL_ (some 114) rfl rfl Try.func16 (by kernel_rfl) rfl #[.agg #[.int .i64 x258000_41, .int .i64 x258001_41, .bool true, .bool true, .int .i64 x258004_41, .int .i64 x258005_41, .int .i64 x258006_41, .int .u32 4294967295, .int .u32 4294967295, .string x258009_41], .string (⟨#[]⟩ : ByteArray)] rfl (by (try simp only [List.map_toArray, List.map_cons, List.map_nil]); first | done | rfl | (simp only [List.length_drop, List.length_take]; rfl)) ?_; (with_reducible refine (ipv4_Put.calls kj41 x258000_41 x258001_41 true true x258004_41 x258005_41 x258006_41 4294967295 4294967295 x258009_41 (⟨#[]⟩ : ByteArray) t277 t278 _ A70.out).mono ?_); rintro e w83 ⟨rfl, hb⟩; refine ⟨_, rfl, ?_⟩; have n0_ := Aside0.mk (blk_below (g := gb257) (o := .cells #[.int .i64 x258000_41, .int .i64 x258001_41, .bool true, .bool true, .int .i64 x258004_41, .int .i64 x258005_41, .int .i64 x258006_41, .int .u32 4294967295, .int .u32 4294967295, .string x258009_41] 24 (0, 0)) (by (with_reducible repeat (first | refine blk_drewN ?_ _ | refine blk_drew ?_ | refine blk_alloc ?_ _)); exact BK257.out) hb); have n1_ := Aside0.mk (blk_below (g := gb275) (o := .cells #[.int .i64 t263, .int .i64 t264, .bool t265, .bool t266, .int .i64 t267, .int .i64 t268, .int .i64 t269, .int .u32 t270, .int .u32 t271, .string t272] 24 (0, 0)) (by (with_reducible repeat (first | refine blk_drewN ?_ _ | refine blk_drew ?_ | refine blk_alloc ?_ _)); exact BK275.out) hb); have n2_ := Aside0.mk (below_step (by repeat (first | (with_reducible first | exact HB.out | apply below_alloc | apply pw_below_drewN | apply below_drew1 | refine below_set ?_ GE257.out | refine below_set ?_ GE275.out) | exact HB.out)) hb); clear BK257; clear BK275; clear HB; have BK257 := n0_; have BK275 := n1_; have HB := n2_; clear n0_ n1_ n2_; (try clear hb); (try clear hb2); (try clear hk); (try clear hi)) | ((with_reducible refine gate_dst (N := 121) rfl ?_); (try (refine gate_guard (by rfl) ?_; dsimp only)); refine Kd.R_make (Kd.int .u8) _ 5 rfl (N := 121) rfl 34 _ _ rfl ji71 rfl rfl Try.underlying34 (.int .u8 0) 1 info5 rfl (by decide) (by omega) 0 (ok := fun _ => True) (okp := fun _ => True) rfl (fun _ hk => hk) trivial (of_decide_eq_true (by first | (with_reducible assumption) | assumption)) (Nat.le_trans (Nat.mul_le_mul_right _ (of_decide_eq_true (by first | (with_reducible assumption) | assumption) : ji71.toNat ≤ 281474976710656)) (by omega)) (Below.refl _ _) (Nat.le_refl _) ?_; intro v280 w84 ho85 hb hg_ hnew_; clear hg_ hnew_; (first | rw [← Ny279.out] at ho85 | (simp only [Int.reduceToNat] at ho85; rw [← Ny279.out] at ho85)); have n0_ := Aside0.mk (Kd.R_lower ho85 (below_size (by repeat (first | (with_reducible first | exact HB.out | apply below_alloc | apply pw_below_drewN | apply below_drew1 | refine below_set ?_ GE257.out | refine below_set ?_ GE275.out) | exact HB.out)))); have n1_ := Aside0.mk (blk_below (g := gb257) (o := .cells #[.int .i64 x258000_41, .int .i64 x258001_41, .bool true, .bool true, .int .i64 x258004_41, .int .i64 x258005_41, .int .i64 x258006_41, .int .u32 4294967295, .int .u32 4294967295, .string x258009_41] 24 (0, 0)) (by (with_reducible repeat (first | refine blk_drewN ?_ _ | refine blk_drew ?_ | refine blk_alloc ?_ _)); exact BK257.out) hb); have n2_ := Aside0.mk (blk_below (g := gb275) (o := .cells #[.int .i64 t263, .int .i64 t264, .bool t265, .bool t266, .int .i64 t267, .int .i64 t268, .int .i64 t269, .int .u32 t270, .int .u32 t271, .string t272] 24 (0, 0)) (by (with_reducible repeat (first | refine blk_drewN ?_ _ | refine blk_drew ?_ | refine blk_alloc ?_ _)); exact BK275.out) hb); have n3_ := Aside0.mk (below_step (by repeat (first | (with_reducible first | exact HB.out | apply below_alloc | apply pw_below_drewN | apply below_drew1 | refine below_set ?_ GE257.out | refine below_set ?_ GE275.out) | exact HB.out)) hb); clear BK257; clear BK275; clear HB; have HO281 := n0_; have BK257 := n1_; have BK275 := n2_; have HB := n3_; clear n0_ n1_ n2_ n3_; clear hb ho85; have hcv86 := own_string (P := Try.prog) Try.underlying34 Try.underlying5 Try.underlying9 (Kd.own_of_R HO281.out)) | ((with_reducible refine gate_callee (f := 16) rfl ?_); refine goesL_ (some 123) rfl rfl Try.func16 (by kernel_rfl) rfl #[.agg #[.int .i64 0, .int .i64 0, .bool false, .bool false, .int .i64 0, .int .i64 0, .int .i64 0, .int .u32 0, .int .u32 0, .string (⟨#[]⟩ : ByteArray)], .string (strOfNums y279)] rfl (by (try simp only [List.map_toArray, List.map_cons, List.map_nil]); first | done | rfl | (simp only [List.length_drop, List.length_take]; rfl)) ?_; (with_reducible refine (ipv4_Put.calls kj41 0 0 false false 0 0 0 0 0 (⟨#[]⟩ : ByteArray) (strOfNums y279) t282 t283 _ A74.out).mono ?_); rintro e w87 ⟨rfl, hb⟩; refine ⟨_, rfl, ?_⟩; have n0_ := Aside0.mk (Kd.R_below (by (with_reducible repeat (first | apply Kd.R_alloc | apply Kd.R_drewN | apply Kd.R_drew)); exact HO281.out) hb); have n1_ := Aside0.mk (blk_below (g := gb257) (o := .cells #[.int .i64 x258000_41, .int .i64 x258001_41, .bool true, .bool true, .int .i64 x258004_41, .int .i64 x258005_41, .int .i64 x258006_41, .int .u32 4294967295, .int .u32 4294967295, .string x258009_41] 24 (0, 0)) (by (with_reducible repeat (first | refine blk_drewN ?_ _ | refine blk_drew ?_ | refine blk_alloc ?_ _)); exact BK257.out) hb); have n2_ := Aside0.mk (blk_below (g := gb275) (o := .cells #[.int .i64 t263, .int .i64 t264, .bool t265, .bool t266, .int .i64 t267, .int .i64 t268, .int .i64 t269, .int .u32 t270, .int .u32 t271, .string t272] 24 (0, 0)) (by (with_reducible repeat (first | refine blk_drewN ?_ _ | refine blk_drew ?_ | refine blk_alloc ?_ _)); exact BK275.out) hb); have n3_ := Aside0.mk (below_step (by repeat (first | (with_reducible first | exact HB.out | apply below_alloc | apply pw_below_drewN | apply below_drew1 | refine below_set ?_ GE257.out | refine below_set ?_ GE275.out) | exact HB.out)) hb); clear HO281; clear BK257; clear BK275; clear HB; have HO281 := n0_; have BK257 := n1_; have BK275 := n2_; have HB := n3_; clear n0_ n1_ n2_ n3_; (try clear hb); (try clear hb2); (try clear hk); (try clear hi); have hcz88_0 : w87.cell? ⟨gb257, 0, none⟩ = some (.int .i64 x258000_41) := (blk_cell BK257.out 0).trans rfl; have hcz88_1 : w87.cell? ⟨gb257, 1, none⟩ = some (.int .i64 x258001_41) := (blk_cell BK257.out 1).trans rfl; have hcz88_2 : w87.cell? ⟨gb257, 2, none⟩ = some (.bool true) := (blk_cell BK257.out 2).trans rfl; have hcz88_3 : w87.cell? ⟨gb257, 3, none⟩ = some (.bool true) := (blk_cell BK257.out 3).trans rfl; have hcz88_4 : w87.cell? ⟨gb257, 4, none⟩ = some (.int .i64 x258004_41) := (blk_cell BK257.out 4).trans rfl; have hcz88_5 : w87.cell? ⟨gb257, 5, none⟩ = some (.int .i64 x258005_41) := (blk_cell BK257.out 5).trans rfl; have hcz88_6 : w87.cell? ⟨gb257, 6, none⟩ = some (.int .i64 x258006_41) := (blk_cell BK257.out 6).trans rfl; have hcz88_7 : w87.cell? ⟨gb257, 7, none⟩ = some (.int .u32 4294967295) := (blk_cell BK257.out 7).trans rfl; have hcz88_8 : w87.cell? ⟨gb257, 8, none⟩ = some (.int .u32 4294967295) := (blk_cell BK257.out 8).trans rfl; have hcz88_9 : w87.cell? ⟨gb257, 9, none⟩ = some (.string x258009_41) := (blk_cell BK257.out 9).trans rfl; have hfz88_0 := blk_frozen BK257.out 0; have hfz88_1 := blk_frozen BK257.out 1; have hfz88_2 := blk_frozen BK257.out 2; have hfz88_3 := blk_frozen BK257.out 3; have hfz88_4 := blk_frozen BK257.out 4; have hfz88_5 := blk_frozen BK257.out 5; have hfz88_6 := blk_frozen BK257.out 6; have hfz88_7 := blk_frozen BK257.out 7; have hfz88_8 := blk_frozen BK257.out 8; have hfz88_9 := blk_frozen BK257.out 9) | (go_at_call 20; (with_reducible refine (ipv4_Check.calls x258000_41 x258001_41 true true x258004_41 x258005_41 x258006_41 4294967295 4294967295 x258009_41 false _ A77.out).mono ?_); rintro e w89 ⟨rfl, hb⟩; have n0_ := Aside0.mk (Kd.R_below (by (with_reducible repeat (first | apply Kd.R_alloc | apply Kd.R_drewN | apply Kd.R_drew)); exact HO281.out) hb); have n1_ := Aside0.mk (blk_below (g := gb257) (o := .cells #[.int .i64 x258000_41, .int .i64 x258001_41, .bool true, .bool true, .int .i64 x258004_41, .int .i64 x258005_41, .int .i64 x258006_41, .int .u32 4294967295, .int .u32 4294967295, .string x258009_41] 24 (0, 0)) (by (with_reducible repeat (first | refine blk_drewN ?_ _ | refine blk_drew ?_ | refine blk_alloc ?_ _)); exact BK257.out) hb); have n2_ := Aside0.mk (blk_below (g := gb275) (o := .cells #[.int .i64 t263, .int .i64 t264, .bool t265, .bool t266, .int .i64 t267, .int .i64 t268, .int .i64 t269, .int .u32 t270, .int .u32 t271, .string t272] 24 (0, 0)) (by (with_reducible repeat (first | refine blk_drewN ?_ _ | refine blk_drew ?_ | refine blk_alloc ?_ _)); exact BK275.out) hb); have n3_ := Aside0.mk (below_step (by repeat (first | (with_reducible first | exact HB.out | apply below_alloc | apply pw_below_drewN | apply below_drew1 | refine below_set ?_ GE257.out | refine below_set ?_ GE275.out) | exact HB.out)) hb); clear HO281; clear BK257; clear BK275; clear HB; have HO281 := n0_; have BK257 := n1_; have BK275 := n2_; have HB := n3_; clear n0_ n1_ n2_ n3_; (try clear hb); (try clear hb2); (try clear hk); (try clear hi)) | (go_at_call 15; (with_reducible refine (rampartlaw03_awake.calls kj41  t285 _ A80.out (by first | rfl | exact HR.out)).mono ?_); rintro e w90 ⟨rfl, hb⟩; have n0_ := Aside0.mk (Kd.R_below (by (with_reducible repeat (first | apply Kd.R_alloc | apply Kd.R_drewN | apply Kd.R_drew)); exact HO281.out) hb); have n1_ := Aside0.mk (blk_below (g := gb257) (o := .cells #[.int .i64 x258000_41, .int .i64 x258001_41, .bool true, .bool true, .int .i64 x258004_41, .int .i64 x258005_41, .int .i64 x258006_41, .int .u32 4294967295, .int .u32 4294967295, .string x258009_41] 24 (0, 0)) (by (with_reducible repeat (first | refine blk_drewN ?_ _ | refine blk_drew ?_ | refine blk_alloc ?_ _)); exact BK257.out) hb); have n2_ := Aside0.mk (blk_below (g := gb275) (o := .cells #[.int .i64 t263, .int .i64 t264, .bool t265, .bool t266, .int .i64 t267, .int .i64 t268, .int .i64 t269, .int .u32 t270, .int .u32 t271, .string t272] 24 (0, 0)) (by (with_reducible repeat (first | refine blk_drewN ?_ _ | refine blk_drew ?_ | refine blk_alloc ?_ _)); exact BK275.out) hb); have n3_ := Aside0.mk (below_step (by repeat (first | (with_reducible first | exact HB.out | apply below_alloc | apply pw_below_drewN | apply below_drew1 | refine below_set ?_ GE257.out | refine below_set ?_ GE275.out) | exact HB.out)) hb); clear HO281; clear BK257; clear BK275; clear HB; have HO281 := n0_; have BK257 := n1_; have BK275 := n2_; have HB := n3_; clear n0_ n1_ n2_ n3_; (try clear hb); (try clear hb2); (try clear hk); (try clear hi)))
              go_ret
              exact ⟨by first | rfl | (simp [errW_none, errW_some] <;> rfl) | (simp only [← hji71]; first | rfl | (simp [errW_none, errW_some] <;> rfl)) | (simp [*, errW_none, errW_some] <;> rfl), by repeat (first | (with_reducible first | exact HB.out | apply below_alloc | apply pw_below_drewN | apply below_drew1 | refine below_set ?_ GE257.out | refine below_set ?_ GE275.out) | exact HB.out)⟩
             ·
              rw [if_neg c79] at H
              have c79b0 : (t283 == 5) = false := beq_eq_false_iff_ne.mpr c79
              have c79b1 : (t283 != 5) = true := bne_iff_ne.mpr c79
              exact absurd ((Option.some.inj H).trans HR.out) (by decide)
           ·
            rw [if_neg c76] at H
            have c76b0 : (t278 == 1) = false := beq_eq_false_iff_ne.mpr c76
            have c76b1 : (t278 != 1) = true := bne_iff_ne.mpr c76
            exact absurd ((Option.some.inj H).trans HR.out) (by decide)
          ·
           rw [if_neg c75] at H
           have c75b0 : (t277.toList == ([] : List UInt8)) = false := beq_eq_false_iff_ne.mpr c75
           have c75b1 : (t277.toList != ([] : List UInt8)) = true := bne_iff_ne.mpr c75
           exact absurd ((Option.some.inj H).trans HR.out) (by decide)
         ·
          rw [if_neg c73] at H
          exact absurd H (by simp)
        ·
         rw [if_neg c72] at H
         exact absurd H (by simp)
  ·
   rw [if_neg c5] at H
   exact absurd H (by simp)
 ·
  rw [if_neg c4] at H
  exact absurd H (by simp)

/-- THE ONE PURE STATEMENT of rampartlaw03_Ipv4Edges: yours. -/
def rampartlaw03_Ipv4Edges.Pure : Prop := ∀ (a0 : Int) (a1 : Int), (Lit.int .i64 a0).wf = true → (Lit.int .i64 a1).wf = true → ∃ k, rampartlaw03_Ipv4Edges.f k a0 a1 = some true
theorem rampartlaw03_Ipv4Edges.walk (P : rampartlaw03_Ipv4Edges.Pure) (a0 : Int) (a1 : Int) (w : World) (w0 : (Lit.int .i64 a0).wf = true) (w1 : (Lit.int .i64 a1).wf = true) :
  Calls Try.prog 5 #[.int .i64 a0, .int .i64 a1] w fun e w' => e = .returned (.bool true) ∧ Below w.heap.size w w' := by
 obtain ⟨k, h⟩ := P a0 a1 w0 w1
 refine (rampartlaw03_Ipv4Edges.calls k a0 a1 true w h rfl).mono ?_
 rintro e w' ⟨rfl, hd⟩
 exact ⟨rfl, hd⟩

end Go.Proofs.Ytgolimfljndnmaa.HI
