/- What is proved: each Go function of this text answers as the plain Lean function beside it (a law: its given row, out of the plain statement). Conditions: those that stand in each theorem. Written by my drive.py, which calls the printer of the kit for what that covers. -/
import Derived.Test.YtgolimfljndnmaaHTx0
import Derived.Test.YtgolimfljndnmaaHTx1
import Derived.Test.YtgolimfljndnmaaHTx4
import Derived.Test.YtgolimfljndnmaaHTx7
import Derived.Test.YtgolimfljndnmaaHTx8
import Derived.Test.YtgolimfljndnmaaHTx15
namespace Go.Proofs.Ytgolimfljndnmaa.HT
open Go.RowKit Go.Proofs.YtgolimfljndnmaaW.PrintWords Go.Proofs.YtgolimfljndnmaaW.PrintLast Go.Proofs.YtgolimfljndnmaaW.PrintMore
attribute [local go_sem] max2_int min2_int max_two min_two max_three min_three max_four min_four   -- for this text's walks alone
set_option linter.unusedVariables false
set_option linter.unusedSimpArgs false

/-! ### rampartlaw04_TcpEdges: function 9 -/
def rampartlaw04_TcpEdges.j0 : Nat → Int → Int → Bool → Int → Int → Int → Int → Int → Int → ByteArray → Option (Bool)
 | 0, _, _, _, _, _, _, _, _, _, _ => none
 | k + 1, x0, x5, x74, x258000, x258001, x258002, x258003, x258004, x258005, x258006 => if x74 = true then (some false) else ((rampartlaw00_Place.f x0 6).bind fun t278 => (if t278 = 0 then ((tcp_Put.f k 9 8 (wrap64 (65535 + x5)) x258001 x258002 x258003 x258004 x258005 x258006 (⟨#[]⟩ : ByteArray)).bind fun bt279 => (if bt279.1.toList = ([] : List UInt8) then (if bt279.2 = 1 then ((tcp_Check.f (wrap64 (65535 + x5)) x258001 x258002 x258003 x258004 x258005 x258006).bind fun t281 => (if t281 = true then (some false) else ((rampartlaw04_awake.f k).bind fun t282 => (some t282)))) else (some false)) else (some false))) else (if t278 = 1 then ((tcp_Put.f k 9 8 x258000 (wrap64 (-x5)) x258002 x258003 x258004 x258005 x258006 (⟨#[]⟩ : ByteArray)).bind fun bt283 => (if bt283.1.toList = ([] : List UInt8) then (if bt283.2 = 1 then ((tcp_Check.f x258000 (wrap64 (-x5)) x258002 x258003 x258004 x258005 x258006).bind fun t285 => (if t285 = true then (some false) else ((rampartlaw04_awake.f k).bind fun t286 => (some t286)))) else (some false)) else (some false))) else (if t278 = 2 then ((tcp_Put.f k 9 8 x258000 x258001 x258002 x258003 (wrap64 (63 + x5)) x258005 x258006 (⟨#[]⟩ : ByteArray)).bind fun bt287 => (if bt287.1.toList = ([] : List UInt8) then (if bt287.2 = 1 then ((tcp_Check.f x258000 x258001 x258002 x258003 (wrap64 (63 + x5)) x258005 x258006).bind fun t289 => (if t289 = true then (some false) else ((rampartlaw04_awake.f k).bind fun t290 => (some t290)))) else (some false)) else (some false))) else (if t278 = 3 then ((tcp_Put.f k 9 8 x258000 x258001 x258002 x258003 x258004 (wrap64 (65535 + x5)) x258006 (⟨#[]⟩ : ByteArray)).bind fun bt291 => (if bt291.1.toList = ([] : List UInt8) then (if bt291.2 = 1 then ((tcp_Check.f x258000 x258001 x258002 x258003 x258004 (wrap64 (65535 + x5)) x258006).bind fun t293 => (if t293 = true then (some false) else ((rampartlaw04_awake.f k).bind fun t294 => (some t294)))) else (some false)) else (some false))) else (if t278 = 4 then (if x258006.size + 4 ≤ 9223372036854775807 then ((tcp_Put.f k 9 8 x258000 x258001 x258002 x258003 x258004 x258005 (x258006 ++ (⟨#[49, 50, 51, 52]⟩ : ByteArray)) (⟨#[]⟩ : ByteArray)).bind fun bt295 => (if bt295.1.toList = ([] : List UInt8) then (if bt295.2 = 1 then ((tcp_Check.f x258000 x258001 x258002 x258003 x258004 x258005 (x258006 ++ (⟨#[49, 50, 51, 52]⟩ : ByteArray))).bind fun t297 => (if t297 = true then (some false) else ((rampartlaw04_awake.f k).bind fun t298 => (some t298)))) else (some false)) else (some false))) else (none)) else (if 0 ≤ (wrap64 (1 + (Int.tmod x5 3))) then (if (wrap64 (1 + (Int.tmod x5 3))) ≤ 5 then ((tcp_Put.f k 9 8 x258000 x258001 x258002 x258003 x258004 x258005 ((⟨#[49, 50, 51, 52, 53]⟩ : ByteArray).extract 0 ((wrap64 (1 + (Int.tmod x5 3))) : Int).toNat) (⟨#[]⟩ : ByteArray)).bind fun bt299 => (if bt299.1.toList = ([] : List UInt8) then (if bt299.2 = 1 then ((tcp_Check.f x258000 x258001 x258002 x258003 x258004 x258005 ((⟨#[49, 50, 51, 52, 53]⟩ : ByteArray).extract 0 ((wrap64 (1 + (Int.tmod x5 3))) : Int).toNat)).bind fun t301 => (if t301 = true then (some false) else ((rampartlaw04_awake.f k).bind fun t302 => (some t302)))) else (some false)) else (some false))) else (none)) else (none))))))))
def rampartlaw04_TcpEdges.f (k : Nat) (a0 : Int) (a1 : Int) : Option (Bool) := (rampartlaw00_Place.f a1 100).bind fun t253 => (if 40 ≤ 281474976710656 then ((some (List.replicate 40 0 : List Int)).bind fun y254 => (if 1940 ≤ 281474976710656 then ((tcp_Put.f k 9 8 65535 65535 4294967295 4294967295 63 65535 (strOfNums y254) (strOfNums (List.replicate 1940 0))).bind fun bt261 => ((tcp_Get.f k 9 8 bt261.1).bind fun bt263 => (if 0 ≤ (wrap64 (1940 + (wrap64 (1 + t253)))) then (if (wrap64 (1940 + (wrap64 (1 + t253))) : Int).toNat ≤ 281474976710656 then ((tcp_Put.f k 9 8 65535 65535 4294967295 4294967295 63 65535 (strOfNums y254) (strOfNums (List.replicate (wrap64 (1940 + (wrap64 (1 + t253))) : Int).toNat 0))).bind fun bt276 => (if bt261.2 = 0 then (if bt263.2.2.2.2.2.2.2.2 = 0 then (if bt263.2.2.1 = 4294967295 then (if bt263.2.2.2.2.1 = 63 then (if (bt263.2.2.2.2.2.2.1.size : Int) = 40 then (if (bt263.2.2.2.2.2.2.2.1.size : Int) = 1940 then (rampartlaw04_TcpEdges.j0 k a0 (wrap64 (1 + t253)) (bt276.2 != 5) 65535 65535 4294967295 4294967295 63 65535 (strOfNums y254)) else (rampartlaw04_TcpEdges.j0 k a0 (wrap64 (1 + t253)) true 65535 65535 4294967295 4294967295 63 65535 (strOfNums y254))) else (rampartlaw04_TcpEdges.j0 k a0 (wrap64 (1 + t253)) true 65535 65535 4294967295 4294967295 63 65535 (strOfNums y254))) else (rampartlaw04_TcpEdges.j0 k a0 (wrap64 (1 + t253)) true 65535 65535 4294967295 4294967295 63 65535 (strOfNums y254))) else (rampartlaw04_TcpEdges.j0 k a0 (wrap64 (1 + t253)) true 65535 65535 4294967295 4294967295 63 65535 (strOfNums y254))) else (rampartlaw04_TcpEdges.j0 k a0 (wrap64 (1 + t253)) true 65535 65535 4294967295 4294967295 63 65535 (strOfNums y254))) else (rampartlaw04_TcpEdges.j0 k a0 (wrap64 (1 + t253)) true 65535 65535 4294967295 4294967295 63 65535 (strOfNums y254)))) else (none)) else (none)))) else (none))) else (none))
theorem rampartlaw04_TcpEdges.mono_l : ∀ k, (∀ y0 y1 y2 y3 y4 y5 y6 y7 y8 y9, LeO (rampartlaw04_TcpEdges.j0 k y0 y1 y2 y3 y4 y5 y6 y7 y8 y9) (rampartlaw04_TcpEdges.j0 (k + 1) y0 y1 y2 y3 y4 y5 y6 y7 y8 y9))
 | 0 => fun _ _ _ _ _ _ _ _ _ _ r h => by simp [rampartlaw04_TcpEdges.j0] at h
 | k + 1 => by
  have ih0 := rampartlaw04_TcpEdges.mono_l k
  ·
   intro y0 y1 y2 y3 y4 y5 y6 y7 y8 y9
   unfold rampartlaw04_TcpEdges.j0
   repeat' first
   | (with_reducible exact ih0 _ _ _ _ _ _ _ _ _ _)
   | (with_reducible exact rampartlaw04_awake.mono _)
   | (with_reducible exact tcp_Get.mono _ _ _ _)
   | (with_reducible exact tcp_Put.mono _ _ _ _ _ _ _ _ _ _ _)
   | (with_reducible exact LeO.refl _)
   | (with_reducible exact LeO.none _)
   | (with_reducible refine LeO.ite ?_ ?_)
   | (with_reducible refine LeO.bind ?_ (fun _ => ?_))
   | exact ih0 _ _ _ _ _ _ _ _ _ _
   | exact rampartlaw04_awake.mono _
   | exact tcp_Get.mono _ _ _ _
   | exact tcp_Put.mono _ _ _ _ _ _ _ _ _ _ _
   | exact LeO.none _
   | refine LeO.ite ?_ ?_
   | refine LeO.bind ?_ (fun _ => ?_)
theorem rampartlaw04_TcpEdges.mono : ∀ a0 a1 k, LeO (rampartlaw04_TcpEdges.f k a0 a1) (rampartlaw04_TcpEdges.f (k + 1) a0 a1) := by
 intro a0 a1 k
 have ih0 := rampartlaw04_TcpEdges.mono_l k
 unfold rampartlaw04_TcpEdges.f
 repeat' first
   | (with_reducible exact ih0 _ _ _ _ _ _ _ _ _ _)
   | (with_reducible exact rampartlaw04_awake.mono _)
   | (with_reducible exact tcp_Get.mono _ _ _ _)
   | (with_reducible exact tcp_Put.mono _ _ _ _ _ _ _ _ _ _ _)
   | (with_reducible exact LeO.refl _)
   | (with_reducible exact LeO.none _)
   | (with_reducible refine LeO.ite ?_ ?_)
   | (with_reducible refine LeO.bind ?_ (fun _ => ?_))
   | exact ih0 _ _ _ _ _ _ _ _ _ _
   | exact rampartlaw04_awake.mono _
   | exact tcp_Get.mono _ _ _ _
   | exact tcp_Put.mono _ _ _ _ _ _ _ _ _ _ _
   | exact LeO.none _
   | refine LeO.ite ?_ ?_
   | refine LeO.bind ?_ (fun _ => ?_)
def rampartlaw04_TcpEdges.T3 : Bool × List (List Nat × List Nat) := (true, [([], []), ([], []), ([1], [1]), ([0, 2], [0, 2]), ([3], [3]), ([4], [4]), ([4], [4]), ([5, 3, 0, 1, 2, 3, 4, 5], [5]), ([6, 7, 0, 1, 2, 3, 4, 5, 6, 7], [6])])
def rampartlaw04_TcpEdges.B3 : List Nat := [0, 0, 2, 7, 15, 31, 31, 63, 255]
theorem rampartlaw04_TcpEdges.tab3 : rtab .any (opsOf Try.f9 3) = rampartlaw04_TcpEdges.T3 := by kernel_rfl
theorem rampartlaw04_TcpEdges.bits3 : waitsOk rampartlaw04_TcpEdges.T3.2 rampartlaw04_TcpEdges.B3 = true := by kernel_rfl
def rampartlaw04_TcpEdges.T5 : Bool × List (List Nat × List Nat) := (true, [([], []), ([], []), ([1], [1]), ([2, 2], [2]), ([3], [3]), ([0, 4], [0, 4]), ([5], [5]), ([6], [6]), ([6], [6]), ([7, 5, 0, 1, 2, 3, 4, 5, 6, 7], [7]), ([8, 9, 0, 1, 2, 3, 4, 5, 6, 7, 8, 9], [8])])
def rampartlaw04_TcpEdges.B5 : List Nat := [0, 0, 2, 6, 14, 31, 63, 127, 127, 255, 1023]
theorem rampartlaw04_TcpEdges.tab5 : rtab .any (opsOf Try.f9 5) = rampartlaw04_TcpEdges.T5 := by kernel_rfl
theorem rampartlaw04_TcpEdges.bits5 : waitsOk rampartlaw04_TcpEdges.T5.2 rampartlaw04_TcpEdges.B5 = true := by kernel_rfl
set_option maxHeartbeats 8000000 in
set_option maxRecDepth 100000 in
theorem rampartlaw04_TcpEdges.calls (k : Nat) (a0 : Int) (a1 : Int) (r : Bool) (w : World) (h : rampartlaw04_TcpEdges.f k a0 a1 = some r) (HR0 : r = true) :
  Calls Try.prog 9 #[.int .i64 a0, .int .i64 a1] w fun e w' => e = .returned (.bool r) ∧ Below w.heap.size w w' := by
 have HR := Aside0.mk HR0
 clear HR0
 have hu42 := Try.underlying42
 have HB := Aside0.mk (Below.refl w.heap.size w)
 have H : ((rampartlaw00_Place.f a1 100).bind fun t253 => (if 40 ≤ 281474976710656 then ((some (List.replicate 40 0 : List Int)).bind fun y254 => (if 1940 ≤ 281474976710656 then ((tcp_Put.f k 9 8 65535 65535 4294967295 4294967295 63 65535 (strOfNums y254) (strOfNums (List.replicate 1940 0))).bind fun bt261 => ((tcp_Get.f k 9 8 bt261.1).bind fun bt263 => (if 0 ≤ (wrap64 (1940 + (wrap64 (1 + t253)))) then (if (wrap64 (1940 + (wrap64 (1 + t253))) : Int).toNat ≤ 281474976710656 then ((tcp_Put.f k 9 8 65535 65535 4294967295 4294967295 63 65535 (strOfNums y254) (strOfNums (List.replicate (wrap64 (1940 + (wrap64 (1 + t253))) : Int).toNat 0))).bind fun bt276 => (if bt261.2 = 0 then (if bt263.2.2.2.2.2.2.2.2 = 0 then (if bt263.2.2.1 = 4294967295 then (if bt263.2.2.2.2.1 = 63 then (if (bt263.2.2.2.2.2.2.1.size : Int) = 40 then (if (bt263.2.2.2.2.2.2.2.1.size : Int) = 1940 then (rampartlaw04_TcpEdges.j0 k a0 (wrap64 (1 + t253)) (bt276.2 != 5) 65535 65535 4294967295 4294967295 63 65535 (strOfNums y254)) else (rampartlaw04_TcpEdges.j0 k a0 (wrap64 (1 + t253)) true 65535 65535 4294967295 4294967295 63 65535 (strOfNums y254))) else (rampartlaw04_TcpEdges.j0 k a0 (wrap64 (1 + t253)) true 65535 65535 4294967295 4294967295 63 65535 (strOfNums y254))) else (rampartlaw04_TcpEdges.j0 k a0 (wrap64 (1 + t253)) true 65535 65535 4294967295 4294967295 63 65535 (strOfNums y254))) else (rampartlaw04_TcpEdges.j0 k a0 (wrap64 (1 + t253)) true 65535 65535 4294967295 4294967295 63 65535 (strOfNums y254))) else (rampartlaw04_TcpEdges.j0 k a0 (wrap64 (1 + t253)) true 65535 65535 4294967295 4294967295 63 65535 (strOfNums y254))) else (rampartlaw04_TcpEdges.j0 k a0 (wrap64 (1 + t253)) true 65535 65535 4294967295 4294967295 63 65535 (strOfNums y254)))) else (none)) else (none)))) else (none))) else (none))) = some r := h
 clear h
 replace H := Option.bind_eq_some_iff.mp H
 obtain ⟨t253, A30, H⟩ := H
 replace H : (if 40 ≤ 281474976710656 then ((some (List.replicate 40 0 : List Int)).bind fun y254 => (if 1940 ≤ 281474976710656 then ((tcp_Put.f k 9 8 65535 65535 4294967295 4294967295 63 65535 (strOfNums y254) (strOfNums (List.replicate 1940 0))).bind fun bt261 => ((tcp_Get.f k 9 8 bt261.1).bind fun bt263 => (if 0 ≤ (wrap64 (1940 + (wrap64 (1 + t253)))) then (if (wrap64 (1940 + (wrap64 (1 + t253))) : Int).toNat ≤ 281474976710656 then ((tcp_Put.f k 9 8 65535 65535 4294967295 4294967295 63 65535 (strOfNums y254) (strOfNums (List.replicate (wrap64 (1940 + (wrap64 (1 + t253))) : Int).toNat 0))).bind fun bt276 => (if bt261.2 = 0 then (if bt263.2.2.2.2.2.2.2.2 = 0 then (if bt263.2.2.1 = 4294967295 then (if bt263.2.2.2.2.1 = 63 then (if (bt263.2.2.2.2.2.2.1.size : Int) = 40 then (if (bt263.2.2.2.2.2.2.2.1.size : Int) = 1940 then (rampartlaw04_TcpEdges.j0 k a0 (wrap64 (1 + t253)) (bt276.2 != 5) 65535 65535 4294967295 4294967295 63 65535 (strOfNums y254)) else (rampartlaw04_TcpEdges.j0 k a0 (wrap64 (1 + t253)) true 65535 65535 4294967295 4294967295 63 65535 (strOfNums y254))) else (rampartlaw04_TcpEdges.j0 k a0 (wrap64 (1 + t253)) true 65535 65535 4294967295 4294967295 63 65535 (strOfNums y254))) else (rampartlaw04_TcpEdges.j0 k a0 (wrap64 (1 + t253)) true 65535 65535 4294967295 4294967295 63 65535 (strOfNums y254))) else (rampartlaw04_TcpEdges.j0 k a0 (wrap64 (1 + t253)) true 65535 65535 4294967295 4294967295 63 65535 (strOfNums y254))) else (rampartlaw04_TcpEdges.j0 k a0 (wrap64 (1 + t253)) true 65535 65535 4294967295 4294967295 63 65535 (strOfNums y254))) else (rampartlaw04_TcpEdges.j0 k a0 (wrap64 (1 + t253)) true 65535 65535 4294967295 4294967295 63 65535 (strOfNums y254)))) else (none)) else (none)))) else (none))) else (none)) = some r := H
 have A3 := Aside0.mk A30
 clear A30
 by_cases c4 : 40 ≤ 281474976710656
 ·
  rw [if_pos c4] at H
  have c4b0 := eq_true c4
  have c4b1 : decide (40 ≤ 281474976710656) = true := decide_eq_true c4
  clear c4
  obtain ⟨y254, hy254⟩ : ∃ y_ : List Int, y_ = (List.replicate 40 0) := ⟨_, rfl⟩
  replace H : (if 1940 ≤ 281474976710656 then ((tcp_Put.f k 9 8 65535 65535 4294967295 4294967295 63 65535 (strOfNums y254) (strOfNums (List.replicate 1940 0))).bind fun bt261 => ((tcp_Get.f k 9 8 bt261.1).bind fun bt263 => (if 0 ≤ (wrap64 (1940 + (wrap64 (1 + t253)))) then (if (wrap64 (1940 + (wrap64 (1 + t253))) : Int).toNat ≤ 281474976710656 then ((tcp_Put.f k 9 8 65535 65535 4294967295 4294967295 63 65535 (strOfNums y254) (strOfNums (List.replicate (wrap64 (1940 + (wrap64 (1 + t253))) : Int).toNat 0))).bind fun bt276 => (if bt261.2 = 0 then (if bt263.2.2.2.2.2.2.2.2 = 0 then (if bt263.2.2.1 = 4294967295 then (if bt263.2.2.2.2.1 = 63 then (if (bt263.2.2.2.2.2.2.1.size : Int) = 40 then (if (bt263.2.2.2.2.2.2.2.1.size : Int) = 1940 then (rampartlaw04_TcpEdges.j0 k a0 (wrap64 (1 + t253)) (bt276.2 != 5) 65535 65535 4294967295 4294967295 63 65535 (strOfNums y254)) else (rampartlaw04_TcpEdges.j0 k a0 (wrap64 (1 + t253)) true 65535 65535 4294967295 4294967295 63 65535 (strOfNums y254))) else (rampartlaw04_TcpEdges.j0 k a0 (wrap64 (1 + t253)) true 65535 65535 4294967295 4294967295 63 65535 (strOfNums y254))) else (rampartlaw04_TcpEdges.j0 k a0 (wrap64 (1 + t253)) true 65535 65535 4294967295 4294967295 63 65535 (strOfNums y254))) else (rampartlaw04_TcpEdges.j0 k a0 (wrap64 (1 + t253)) true 65535 65535 4294967295 4294967295 63 65535 (strOfNums y254))) else (rampartlaw04_TcpEdges.j0 k a0 (wrap64 (1 + t253)) true 65535 65535 4294967295 4294967295 63 65535 (strOfNums y254))) else (rampartlaw04_TcpEdges.j0 k a0 (wrap64 (1 + t253)) true 65535 65535 4294967295 4294967295 63 65535 (strOfNums y254)))) else (none)) else (none)))) else (none)) = some r := by first | (rw [hy254]; with_reducible exact H) | (have H2_ := (Option.bind_some _ _).symm.trans H; rw [hy254]; with_reducible exact H2_) | (have H2_ := (Option.bind_some _ _).symm.trans H; with_reducible exact H2_) | with_reducible exact H | (rw [hy254]; exact H) | exact H
  have Ny254 := Aside0.mk hy254
  clear hy254
  by_cases c5 : 1940 ≤ 281474976710656
  ·
   rw [if_pos c5] at H
   have c5b0 := eq_true c5
   have c5b1 : decide (1940 ≤ 281474976710656) = true := decide_eq_true c5
   clear c5
   obtain ⟨y258, hy258⟩ : ∃ y_ : List Int, y_ = (List.replicate 1940 0) := ⟨_, rfl⟩
   replace H : ((tcp_Put.f k 9 8 65535 65535 4294967295 4294967295 63 65535 (strOfNums y254) (strOfNums y258)).bind fun bt261 => ((tcp_Get.f k 9 8 bt261.1).bind fun bt263 => (if 0 ≤ (wrap64 (1940 + (wrap64 (1 + t253)))) then (if (wrap64 (1940 + (wrap64 (1 + t253))) : Int).toNat ≤ 281474976710656 then ((tcp_Put.f k 9 8 65535 65535 4294967295 4294967295 63 65535 (strOfNums y254) (strOfNums (List.replicate (wrap64 (1940 + (wrap64 (1 + t253))) : Int).toNat 0))).bind fun bt276 => (if bt261.2 = 0 then (if bt263.2.2.2.2.2.2.2.2 = 0 then (if bt263.2.2.1 = 4294967295 then (if bt263.2.2.2.2.1 = 63 then (if (bt263.2.2.2.2.2.2.1.size : Int) = 40 then (if (bt263.2.2.2.2.2.2.2.1.size : Int) = 1940 then (rampartlaw04_TcpEdges.j0 k a0 (wrap64 (1 + t253)) (bt276.2 != 5) 65535 65535 4294967295 4294967295 63 65535 (strOfNums y254)) else (rampartlaw04_TcpEdges.j0 k a0 (wrap64 (1 + t253)) true 65535 65535 4294967295 4294967295 63 65535 (strOfNums y254))) else (rampartlaw04_TcpEdges.j0 k a0 (wrap64 (1 + t253)) true 65535 65535 4294967295 4294967295 63 65535 (strOfNums y254))) else (rampartlaw04_TcpEdges.j0 k a0 (wrap64 (1 + t253)) true 65535 65535 4294967295 4294967295 63 65535 (strOfNums y254))) else (rampartlaw04_TcpEdges.j0 k a0 (wrap64 (1 + t253)) true 65535 65535 4294967295 4294967295 63 65535 (strOfNums y254))) else (rampartlaw04_TcpEdges.j0 k a0 (wrap64 (1 + t253)) true 65535 65535 4294967295 4294967295 63 65535 (strOfNums y254))) else (rampartlaw04_TcpEdges.j0 k a0 (wrap64 (1 + t253)) true 65535 65535 4294967295 4294967295 63 65535 (strOfNums y254)))) else (none)) else (none)))) = some r := by first | (rw [hy258]; with_reducible exact H) | (have H2_ := (Option.bind_some _ _).symm.trans H; rw [hy258]; with_reducible exact H2_) | (have H2_ := (Option.bind_some _ _).symm.trans H; with_reducible exact H2_) | with_reducible exact H | (rw [hy258]; exact H) | exact H
   have Ny258 := Aside0.mk hy258
   clear hy258
   replace H := Option.bind_eq_some_iff.mp H
   obtain ⟨⟨t261, t262⟩, A60, H⟩ := H
   replace H : ((tcp_Get.f k 9 8 t261).bind fun bt263 => (if 0 ≤ (wrap64 (1940 + (wrap64 (1 + t253)))) then (if (wrap64 (1940 + (wrap64 (1 + t253))) : Int).toNat ≤ 281474976710656 then ((tcp_Put.f k 9 8 65535 65535 4294967295 4294967295 63 65535 (strOfNums y254) (strOfNums (List.replicate (wrap64 (1940 + (wrap64 (1 + t253))) : Int).toNat 0))).bind fun bt276 => (if t262 = 0 then (if bt263.2.2.2.2.2.2.2.2 = 0 then (if bt263.2.2.1 = 4294967295 then (if bt263.2.2.2.2.1 = 63 then (if (bt263.2.2.2.2.2.2.1.size : Int) = 40 then (if (bt263.2.2.2.2.2.2.2.1.size : Int) = 1940 then (rampartlaw04_TcpEdges.j0 k a0 (wrap64 (1 + t253)) (bt276.2 != 5) 65535 65535 4294967295 4294967295 63 65535 (strOfNums y254)) else (rampartlaw04_TcpEdges.j0 k a0 (wrap64 (1 + t253)) true 65535 65535 4294967295 4294967295 63 65535 (strOfNums y254))) else (rampartlaw04_TcpEdges.j0 k a0 (wrap64 (1 + t253)) true 65535 65535 4294967295 4294967295 63 65535 (strOfNums y254))) else (rampartlaw04_TcpEdges.j0 k a0 (wrap64 (1 + t253)) true 65535 65535 4294967295 4294967295 63 65535 (strOfNums y254))) else (rampartlaw04_TcpEdges.j0 k a0 (wrap64 (1 + t253)) true 65535 65535 4294967295 4294967295 63 65535 (strOfNums y254))) else (rampartlaw04_TcpEdges.j0 k a0 (wrap64 (1 + t253)) true 65535 65535 4294967295 4294967295 63 65535 (strOfNums y254))) else (rampartlaw04_TcpEdges.j0 k a0 (wrap64 (1 + t253)) true 65535 65535 4294967295 4294967295 63 65535 (strOfNums y254)))) else (none)) else (none))) = some r := H
   have A6 := Aside0.mk A60
   clear A60
   replace H := Option.bind_eq_some_iff.mp H
   obtain ⟨⟨t263, t264, t265, t266, t267, t268, t269, t270, t271⟩, A70, H⟩ := H
   replace H : (if 0 ≤ (wrap64 (1940 + (wrap64 (1 + t253)))) then (if (wrap64 (1940 + (wrap64 (1 + t253))) : Int).toNat ≤ 281474976710656 then ((tcp_Put.f k 9 8 65535 65535 4294967295 4294967295 63 65535 (strOfNums y254) (strOfNums (List.replicate (wrap64 (1940 + (wrap64 (1 + t253))) : Int).toNat 0))).bind fun bt276 => (if t262 = 0 then (if t271 = 0 then (if t265 = 4294967295 then (if t267 = 63 then (if (t269.size : Int) = 40 then (if (t270.size : Int) = 1940 then (rampartlaw04_TcpEdges.j0 k a0 (wrap64 (1 + t253)) (bt276.2 != 5) 65535 65535 4294967295 4294967295 63 65535 (strOfNums y254)) else (rampartlaw04_TcpEdges.j0 k a0 (wrap64 (1 + t253)) true 65535 65535 4294967295 4294967295 63 65535 (strOfNums y254))) else (rampartlaw04_TcpEdges.j0 k a0 (wrap64 (1 + t253)) true 65535 65535 4294967295 4294967295 63 65535 (strOfNums y254))) else (rampartlaw04_TcpEdges.j0 k a0 (wrap64 (1 + t253)) true 65535 65535 4294967295 4294967295 63 65535 (strOfNums y254))) else (rampartlaw04_TcpEdges.j0 k a0 (wrap64 (1 + t253)) true 65535 65535 4294967295 4294967295 63 65535 (strOfNums y254))) else (rampartlaw04_TcpEdges.j0 k a0 (wrap64 (1 + t253)) true 65535 65535 4294967295 4294967295 63 65535 (strOfNums y254))) else (rampartlaw04_TcpEdges.j0 k a0 (wrap64 (1 + t253)) true 65535 65535 4294967295 4294967295 63 65535 (strOfNums y254)))) else (none)) else (none)) = some r := H
   have A7 := Aside0.mk A70
   clear A70
   obtain ⟨ji8, hji8⟩ : ∃ j_ : Int, (wrap64 (1940 + (wrap64 (1 + t253)))) = j_ := ⟨_, rfl⟩
   replace H : (if 0 ≤ (ji8) then (if (ji8 : Int).toNat ≤ 281474976710656 then ((tcp_Put.f k 9 8 65535 65535 4294967295 4294967295 63 65535 (strOfNums y254) (strOfNums (List.replicate (ji8 : Int).toNat 0))).bind fun bt276 => (if t262 = 0 then (if t271 = 0 then (if t265 = 4294967295 then (if t267 = 63 then (if (t269.size : Int) = 40 then (if (t270.size : Int) = 1940 then (rampartlaw04_TcpEdges.j0 k a0 (wrap64 (1 + t253)) (bt276.2 != 5) 65535 65535 4294967295 4294967295 63 65535 (strOfNums y254)) else (rampartlaw04_TcpEdges.j0 k a0 (wrap64 (1 + t253)) true 65535 65535 4294967295 4294967295 63 65535 (strOfNums y254))) else (rampartlaw04_TcpEdges.j0 k a0 (wrap64 (1 + t253)) true 65535 65535 4294967295 4294967295 63 65535 (strOfNums y254))) else (rampartlaw04_TcpEdges.j0 k a0 (wrap64 (1 + t253)) true 65535 65535 4294967295 4294967295 63 65535 (strOfNums y254))) else (rampartlaw04_TcpEdges.j0 k a0 (wrap64 (1 + t253)) true 65535 65535 4294967295 4294967295 63 65535 (strOfNums y254))) else (rampartlaw04_TcpEdges.j0 k a0 (wrap64 (1 + t253)) true 65535 65535 4294967295 4294967295 63 65535 (strOfNums y254))) else (rampartlaw04_TcpEdges.j0 k a0 (wrap64 (1 + t253)) true 65535 65535 4294967295 4294967295 63 65535 (strOfNums y254)))) else (none)) else (none)) = some r := by first | (rw [hji8] at H; exact H) | (simp only [hji8] at H ⊢; exact H)
   (try rw [hji8] at A3)
   (try rw [hji8] at A6)
   (try rw [hji8] at A7)
   have hji8w : (IntKind.i64.wrap (1940 + (wrap64 (1 + t253)))) = ji8 := (i64_w _).trans hji8
   by_cases c9 : 0 ≤ (ji8)
   ·
    rw [if_pos c9] at H
    have c9b0 := eq_true c9
    have c9b1 : decide (0 ≤ (ji8)) = true := decide_eq_true c9
    clear c9
    by_cases c10 : (ji8 : Int).toNat ≤ 281474976710656
    ·
     rw [if_pos c10] at H
     have c10b0 := eq_true c10
     have c10b1 : decide ((ji8 : Int).toNat ≤ 281474976710656) = true := decide_eq_true c10
     clear c10
     obtain ⟨y273, hy273⟩ : ∃ y_ : List Int, y_ = (List.replicate (ji8 : Int).toNat 0) := ⟨_, rfl⟩
     replace H : ((tcp_Put.f k 9 8 65535 65535 4294967295 4294967295 63 65535 (strOfNums y254) (strOfNums y273)).bind fun bt276 => (if t262 = 0 then (if t271 = 0 then (if t265 = 4294967295 then (if t267 = 63 then (if (t269.size : Int) = 40 then (if (t270.size : Int) = 1940 then (rampartlaw04_TcpEdges.j0 k a0 (wrap64 (1 + t253)) (bt276.2 != 5) 65535 65535 4294967295 4294967295 63 65535 (strOfNums y254)) else (rampartlaw04_TcpEdges.j0 k a0 (wrap64 (1 + t253)) true 65535 65535 4294967295 4294967295 63 65535 (strOfNums y254))) else (rampartlaw04_TcpEdges.j0 k a0 (wrap64 (1 + t253)) true 65535 65535 4294967295 4294967295 63 65535 (strOfNums y254))) else (rampartlaw04_TcpEdges.j0 k a0 (wrap64 (1 + t253)) true 65535 65535 4294967295 4294967295 63 65535 (strOfNums y254))) else (rampartlaw04_TcpEdges.j0 k a0 (wrap64 (1 + t253)) true 65535 65535 4294967295 4294967295 63 65535 (strOfNums y254))) else (rampartlaw04_TcpEdges.j0 k a0 (wrap64 (1 + t253)) true 65535 65535 4294967295 4294967295 63 65535 (strOfNums y254))) else (rampartlaw04_TcpEdges.j0 k a0 (wrap64 (1 + t253)) true 65535 65535 4294967295 4294967295 63 65535 (strOfNums y254)))) = some r := by first | (rw [hy273]; with_reducible exact H) | (have H2_ := (Option.bind_some _ _).symm.trans H; rw [hy273]; with_reducible exact H2_) | (have H2_ := (Option.bind_some _ _).symm.trans H; with_reducible exact H2_) | with_reducible exact H | (rw [hy273]; exact H) | exact H
     have Ny273 := Aside0.mk hy273
     clear hy273
     replace H := Option.bind_eq_some_iff.mp H
     obtain ⟨⟨t276, t277⟩, A110, H⟩ := H
     replace H : (if t262 = 0 then (if t271 = 0 then (if t265 = 4294967295 then (if t267 = 63 then (if (t269.size : Int) = 40 then (if (t270.size : Int) = 1940 then (rampartlaw04_TcpEdges.j0 k a0 (wrap64 (1 + t253)) (t277 != 5) 65535 65535 4294967295 4294967295 63 65535 (strOfNums y254)) else (rampartlaw04_TcpEdges.j0 k a0 (wrap64 (1 + t253)) true 65535 65535 4294967295 4294967295 63 65535 (strOfNums y254))) else (rampartlaw04_TcpEdges.j0 k a0 (wrap64 (1 + t253)) true 65535 65535 4294967295 4294967295 63 65535 (strOfNums y254))) else (rampartlaw04_TcpEdges.j0 k a0 (wrap64 (1 + t253)) true 65535 65535 4294967295 4294967295 63 65535 (strOfNums y254))) else (rampartlaw04_TcpEdges.j0 k a0 (wrap64 (1 + t253)) true 65535 65535 4294967295 4294967295 63 65535 (strOfNums y254))) else (rampartlaw04_TcpEdges.j0 k a0 (wrap64 (1 + t253)) true 65535 65535 4294967295 4294967295 63 65535 (strOfNums y254))) else (rampartlaw04_TcpEdges.j0 k a0 (wrap64 (1 + t253)) true 65535 65535 4294967295 4294967295 63 65535 (strOfNums y254))) = some r := H
     have A11 := Aside0.mk A110
     clear A110
     have HC12 := Aside0.mk H
     clear H
     go_enter Try.func9, Try.ntmps9
     try go_wp2_with (first | ((with_reducible refine gate_callee (f := 23) rfl ?_); refine goesL_ (some 17) rfl rfl Try.func23 (by kernel_rfl) rfl #[.int .i64 a1, .int .i64 100] rfl (by (try simp only [List.map_toArray, List.map_cons, List.map_nil]); first | done | rfl | (simp only [List.length_drop, List.length_take]; rfl)) ?_; (with_reducible refine (rampartlaw00_Place.calls a1 100 t253 _ A3.out).mono ?_); rintro e w' ⟨rfl, ⟨nd, rfl⟩⟩; refine ⟨_, rfl, ?_⟩) | ((with_reducible refine gate_dst (N := 19) rfl ?_); (try (refine gate_guard (by rfl) ?_; dsimp only)); refine Kd.R_make (Kd.int .u8) _ 5 rfl (N := 19) rfl 34 _ _ rfl 40 rfl rfl Try.underlying34 (.int .u8 0) 1 info5 rfl (by decide) (by omega) 0 (ok := fun _ => True) (okp := fun _ => True) rfl (fun _ hk => hk) trivial (by omega) (by omega) (Below.refl _ _) (Nat.le_refl _) ?_; intro v255 w13 ho14 hb hg_ hnew_; clear hg_ hnew_; (first | rw [← Ny254.out] at ho14 | (simp only [Int.reduceToNat] at ho14; rw [← Ny254.out] at ho14)); have n0_ := Aside0.mk (Kd.R_lower ho14 (below_size (by repeat (first | (with_reducible first | exact HB.out | apply below_alloc | apply pw_below_drewN | apply below_drew1) | exact HB.out)))); have n1_ := Aside0.mk (below_step (by repeat (first | (with_reducible first | exact HB.out | apply below_alloc | apply pw_below_drewN | apply below_drew1) | exact HB.out)) hb); clear HB; have HO256 := n0_; have HB := n1_; clear n0_ n1_; clear hb ho14; have hcv15 := own_string (P := Try.prog) Try.underlying34 Try.underlying5 Try.underlying9 (Kd.own_of_R HO256.out)) | ((with_reducible refine gate_dst (N := 6) rfl ?_); (try (refine gate_guard (by rfl) ?_; dsimp only)); refine box_event ?hg (N := 6) ?hd (cs := #[.int .i64 0, .int .i64 0, .int .u32 0, .int .u32 0, .int .i64 0, .int .i64 0, .string (⟨#[]⟩ : ByteArray)]) (t := 42) ?hr ?_; (case hd => rfl); (case hg => rfl); (case hr => first | (go_simp; done) | (go_simp; rfl)); intro gb257 hg w16 hbox hb; have n0_ := Aside0.mk (Kd.R_below (by (with_reducible repeat (first | apply Kd.R_alloc | apply Kd.R_drewN | apply Kd.R_drew)); exact HO256.out) hb); have n1_ := Aside0.mk (below_step (by repeat (first | (with_reducible first | exact HB.out | apply below_alloc | apply pw_below_drewN | apply below_drew1) | exact HB.out)) hb); have n2_ := Aside0.mk (hbox); have n3_ := Aside0.mk ((by rw [hg]; exact (below_size (by repeat (first | (with_reducible first | exact HB.out | apply below_alloc | apply pw_below_drewN | apply below_drew1) | exact HB.out))) : w.heap.size ≤ gb257)); have n4_ := Aside0.mk ((by rw [hg]; exact (below_size (by repeat (first | (with_reducible first | exact HB.out | apply below_alloc | apply pw_below_drewN | apply below_drew1) | exact HB.out))) : w.heap.size ≤ gb257)); clear HO256; clear HB; have HO256 := n0_; have HB := n1_; have BK257 := n2_; have GW257 := n3_; have GE257 := n4_; clear n0_ n1_ n2_ n3_ n4_; clear hb hbox hg; have hcz17_0 : w16.cell? ⟨gb257, 0, none⟩ = some (.int .i64 0) := (blk_cell BK257.out 0).trans rfl; have hcz17_1 : w16.cell? ⟨gb257, 1, none⟩ = some (.int .i64 0) := (blk_cell BK257.out 1).trans rfl; have hcz17_2 : w16.cell? ⟨gb257, 2, none⟩ = some (.int .u32 0) := (blk_cell BK257.out 2).trans rfl; have hcz17_3 : w16.cell? ⟨gb257, 3, none⟩ = some (.int .u32 0) := (blk_cell BK257.out 3).trans rfl; have hcz17_4 : w16.cell? ⟨gb257, 4, none⟩ = some (.int .i64 0) := (blk_cell BK257.out 4).trans rfl; have hcz17_5 : w16.cell? ⟨gb257, 5, none⟩ = some (.int .i64 0) := (blk_cell BK257.out 5).trans rfl; have hcz17_6 : w16.cell? ⟨gb257, 6, none⟩ = some (.string (⟨#[]⟩ : ByteArray)) := (blk_cell BK257.out 6).trans rfl; have hfz17_0 := blk_frozen BK257.out 0; have hfz17_1 := blk_frozen BK257.out 1; have hfz17_2 := blk_frozen BK257.out 2; have hfz17_3 := blk_frozen BK257.out 3; have hfz17_4 := blk_frozen BK257.out 4; have hfz17_5 := blk_frozen BK257.out 5; have hfz17_6 := blk_frozen BK257.out 6))
     have n0_ : Aside0 (Kd.R (Kd.int .u8) 5 (((((((w16.setCell ⟨gb257, 0, none⟩ (.int .i64 65535)).setCell ⟨gb257, 1, none⟩ (.int .i64 65535)).setCell ⟨gb257, 2, none⟩ (.int .u32 4294967295)).setCell ⟨gb257, 3, none⟩ (.int .u32 4294967295)).setCell ⟨gb257, 4, none⟩ (.int .i64 63)).setCell ⟨gb257, 5, none⟩ (.int .i64 65535)).setCell ⟨gb257, 6, none⟩ (.string (strOfNums y254))) w.heap.size (fun _ => True) v255 y254) := ⟨by (with_reducible repeat (first | apply Kd.R_alloc | apply Kd.R_drewN | apply Kd.R_drew)); exact Kd.R_mono (Kd.R_far (p := ⟨gb257, 6, none⟩) (Kd.R_far (p := ⟨gb257, 5, none⟩) (Kd.R_far (p := ⟨gb257, 4, none⟩) (Kd.R_far (p := ⟨gb257, 3, none⟩) (Kd.R_far (p := ⟨gb257, 2, none⟩) (Kd.R_far (p := ⟨gb257, 1, none⟩) (Kd.R_far (p := ⟨gb257, 0, none⟩) (Kd.R_types HO256.out BK257.out (by decide)) (fun _ hk => hk.2) (.int .i64 65535)) (fun _ hk => hk.2) (.int .i64 65535)) (fun _ hk => hk.2) (.int .u32 4294967295)) (fun _ hk => hk.2) (.int .u32 4294967295)) (fun _ hk => hk.2) (.int .i64 63)) (fun _ hk => hk.2) (.int .i64 65535)) (fun _ hk => hk.2) (.string (strOfNums y254))) (fun _ hk => trivial)⟩
     have n1_ : Aside0 ((((((((w16.setCell ⟨gb257, 0, none⟩ (.int .i64 65535)).setCell ⟨gb257, 1, none⟩ (.int .i64 65535)).setCell ⟨gb257, 2, none⟩ (.int .u32 4294967295)).setCell ⟨gb257, 3, none⟩ (.int .u32 4294967295)).setCell ⟨gb257, 4, none⟩ (.int .i64 63)).setCell ⟨gb257, 5, none⟩ (.int .i64 65535)).setCell ⟨gb257, 6, none⟩ (.string (strOfNums y254))).heap[gb257]? = some (.cells #[.int .i64 65535, .int .i64 65535, .int .u32 4294967295, .int .u32 4294967295, .int .i64 63, .int .i64 65535, .string (strOfNums y254)] 42 (0, 0))) := ⟨by (with_reducible repeat (first | refine blk_drewN ?_ _ | refine blk_drew ?_ | refine blk_alloc ?_ _)); refine blk_put (cs := #[.int .i64 65535, .int .i64 65535, .int .u32 4294967295, .int .u32 4294967295, .int .i64 63, .int .i64 65535, .string (⟨#[]⟩ : ByteArray)]) ?_ 6 _ rfl; (with_reducible repeat (first | refine blk_drewN ?_ _ | refine blk_drew ?_ | refine blk_alloc ?_ _)); refine blk_put (cs := #[.int .i64 65535, .int .i64 65535, .int .u32 4294967295, .int .u32 4294967295, .int .i64 63, .int .i64 0, .string (⟨#[]⟩ : ByteArray)]) ?_ 5 _ rfl; (with_reducible repeat (first | refine blk_drewN ?_ _ | refine blk_drew ?_ | refine blk_alloc ?_ _)); refine blk_put (cs := #[.int .i64 65535, .int .i64 65535, .int .u32 4294967295, .int .u32 4294967295, .int .i64 0, .int .i64 0, .string (⟨#[]⟩ : ByteArray)]) ?_ 4 _ rfl; (with_reducible repeat (first | refine blk_drewN ?_ _ | refine blk_drew ?_ | refine blk_alloc ?_ _)); refine blk_put (cs := #[.int .i64 65535, .int .i64 65535, .int .u32 4294967295, .int .u32 0, .int .i64 0, .int .i64 0, .string (⟨#[]⟩ : ByteArray)]) ?_ 3 _ rfl; (with_reducible repeat (first | refine blk_drewN ?_ _ | refine blk_drew ?_ | refine blk_alloc ?_ _)); refine blk_put (cs := #[.int .i64 65535, .int .i64 65535, .int .u32 0, .int .u32 0, .int .i64 0, .int .i64 0, .string (⟨#[]⟩ : ByteArray)]) ?_ 2 _ rfl; (with_reducible repeat (first | refine blk_drewN ?_ _ | refine blk_drew ?_ | refine blk_alloc ?_ _)); refine blk_put (cs := #[.int .i64 65535, .int .i64 0, .int .u32 0, .int .u32 0, .int .i64 0, .int .i64 0, .string (⟨#[]⟩ : ByteArray)]) ?_ 1 _ rfl; (with_reducible repeat (first | refine blk_drewN ?_ _ | refine blk_drew ?_ | refine blk_alloc ?_ _)); refine blk_put (cs := #[.int .i64 0, .int .i64 0, .int .u32 0, .int .u32 0, .int .i64 0, .int .i64 0, .string (⟨#[]⟩ : ByteArray)]) ?_ 0 _ rfl; (with_reducible repeat (first | refine blk_drewN ?_ _ | refine blk_drew ?_ | refine blk_alloc ?_ _)); exact BK257.out⟩
     have n2_ : Aside0 (Below w.heap.size w (((((((w16.setCell ⟨gb257, 0, none⟩ (.int .i64 65535)).setCell ⟨gb257, 1, none⟩ (.int .i64 65535)).setCell ⟨gb257, 2, none⟩ (.int .u32 4294967295)).setCell ⟨gb257, 3, none⟩ (.int .u32 4294967295)).setCell ⟨gb257, 4, none⟩ (.int .i64 63)).setCell ⟨gb257, 5, none⟩ (.int .i64 65535)).setCell ⟨gb257, 6, none⟩ (.string (strOfNums y254)))) := ⟨by repeat (first | (with_reducible first | exact HB.out | apply below_alloc | apply pw_below_drewN | apply below_drew1 | refine below_set ?_ GE257.out) | exact HB.out)⟩
     (try clear HO256)
     (try clear BK257)
     (try clear HB)
     generalize (((((((w16.setCell ⟨gb257, 0, none⟩ (.int .i64 65535)).setCell ⟨gb257, 1, none⟩ (.int .i64 65535)).setCell ⟨gb257, 2, none⟩ (.int .u32 4294967295)).setCell ⟨gb257, 3, none⟩ (.int .u32 4294967295)).setCell ⟨gb257, 4, none⟩ (.int .i64 63)).setCell ⟨gb257, 5, none⟩ (.int .i64 65535)).setCell ⟨gb257, 6, none⟩ (.string (strOfNums y254))) = w18 at n0_ n1_ n2_ ⊢
     have HO256 := n0_
     have BK257 := n1_
     have HB := n2_
     clear n0_ n1_ n2_
     have n0_ := Aside0.mk (Kd.R_drew HO256.out)
     have n1_ := Aside0.mk (blk_drew BK257.out)
     have n2_ := Aside0.mk (below_drew1 HB.out)
     clear HO256
     clear BK257
     clear HB
     have HO256 := n0_
     have BK257 := n1_
     have HB := n2_
     clear n0_ n1_ n2_
     refine start_ (n := 9) (S := fun w' => w'.cell? ⟨gb257, 0, none⟩ = some (.int .i64 65535) ∧ w'.cell? ⟨gb257, 1, none⟩ = some (.int .i64 65535) ∧ w'.cell? ⟨gb257, 2, none⟩ = some (.int .u32 4294967295) ∧ w'.cell? ⟨gb257, 3, none⟩ = some (.int .u32 4294967295) ∧ w'.cell? ⟨gb257, 4, none⟩ = some (.int .i64 63) ∧ w'.cell? ⟨gb257, 5, none⟩ = some (.int .i64 65535) ∧ w'.cell? ⟨gb257, 6, none⟩ = some (.string (strOfNums y254))) (ds := []) #[false, false, false, false, false, false, false, false, false] (by kernel_rfl) rfl rfl ⟨(blk_cell BK257.out 0).trans rfl, (blk_cell BK257.out 1).trans rfl, (blk_cell BK257.out 2).trans rfl, (blk_cell BK257.out 3).trans rfl, (blk_cell BK257.out 4).trans rfl, (blk_cell BK257.out 5).trans rfl, (blk_cell BK257.out 6).trans rfl⟩ (fun hHeld => ?_); refine with_tabW rampartlaw04_TcpEdges.tab3 rampartlaw04_TcpEdges.bits3 (fun HT_ HW_ => ?_)
     generalize w18.drew = w19 at HO256 BK257 HB hHeld ⊢
     refine take_ (i := 0) (N := some 23) (v := ?_) (a' := ?_) #[true, false, false, false, false, false, false, false, false] rfl rfl (take_ofW HT_.out HW_.out (by kernel_rfl)) (fun _ _ _ h => h) (Or.inl ⟨by rfl, ?_⟩) hHeld ?_ ?_
     rotate_left
     ·
      rintro w' ⟨s0, s1, s2, s3, s4, s5, s6⟩
      go_simp
      with_reducible rfl
     rotate_left
     ·
      simp only [Act.put, List.setIfInBounds_toArray, List.set_cons_zero, List.set_cons_succ, i64_w, i32_w]
      rfl
     refine one_ (i := 1) (N := some 24) #[true, true, false, false, false, false, false, false, false] rfl rfl (one_of HT_.out (by kernel_rfl)) (by decide) (fun K hK => ?_)
     refine Kd.R_make_step (Kd.int .u8) _ 5 (by rfl) (N := 24) rfl 34 _ _ rfl 1940 rfl rfl Try.underlying34 (.int .u8 0) 1 info5 rfl (by decide) (by omega) 0 (ok := fun _ => True) (okp := fun _ => True) rfl (fun _ hk => hk) trivial (by omega) (by omega) (Below.refl _ _) (Nat.le_refl _) ?_
     intro v259 w20 ho21 hb hg_ hnew_
     clear hg_ hnew_
     (first | rw [← Ny258.out] at ho21 | (simp only [Int.reduceToNat] at ho21; rw [← Ny258.out] at ho21))
     have n0_ := Aside0.mk (Kd.R_elder' (by (with_reducible repeat (first | apply Kd.R_alloc | apply Kd.R_drewN | apply Kd.R_drew)); exact HO256.out) (Kd.R_base ho21) hb)
     have n1_ := Aside0.mk (Kd.R_lower (Kd.R_new' ho21 (Kd.R_lt (by (with_reducible repeat (first | apply Kd.R_alloc | apply Kd.R_drewN | apply Kd.R_drew)); exact HO256.out))) (below_size (by repeat (first | (with_reducible first | exact HB.out | apply below_alloc | apply pw_below_drewN | apply below_drew1 | refine below_set ?_ GE257.out) | exact HB.out))))
     have n2_ := Aside0.mk (blk_below (g := gb257) (o := .cells #[.int .i64 65535, .int .i64 65535, .int .u32 4294967295, .int .u32 4294967295, .int .i64 63, .int .i64 65535, .string (strOfNums y254)] 42 (0, 0)) (by (with_reducible repeat (first | refine blk_drewN ?_ _ | refine blk_drew ?_ | refine blk_alloc ?_ _)); exact BK257.out) hb)
     have n3_ := Aside0.mk (below_step (by repeat (first | (with_reducible first | exact HB.out | apply below_alloc | apply pw_below_drewN | apply below_drew1 | refine below_set ?_ GE257.out) | exact HB.out)) hb)
     clear HO256
     clear BK257
     clear HB
     have HO256 := n0_
     have HO260 := n1_
     have BK257 := n2_
     have HB := n3_
     clear n0_ n1_ n2_ n3_
     clear hb ho21
     refine hK.out _ _ ⟨(blk_cell BK257.out 0).trans rfl, (blk_cell BK257.out 1).trans rfl, (blk_cell BK257.out 2).trans rfl, (blk_cell BK257.out 3).trans rfl, (blk_cell BK257.out 4).trans rfl, (blk_cell BK257.out 5).trans rfl, (blk_cell BK257.out 6).trans rfl⟩ (fun hHeld => ?_)
     clear hK K
     refine norm_ (a' := ?_) ?_ ?_
     rotate_left
     ·
      show Act.put _ (some 24) _ = _
      simp only [Act.put, List.setIfInBounds_toArray, List.set_cons_zero, List.set_cons_succ, i64_w, i32_w]
      rfl
     refine one_ (i := 2) (N := some 25) #[true, true, true, false, false, false, false, false, false] rfl rfl (one_of HT_.out (by kernel_rfl)) (by decide) (fun K hK => ?_)
     have hcv22 := own_string (P := Try.prog) Try.underlying34 Try.underlying5 Try.underlying9 (Kd.own_of_R HO260.out)
     refine value_ (w1 := ?_) (v := ?_) (by rfl) rfl ?_ ?_
     rotate_left 2
     ·
      go_simp
      constructor
      ·
       rfl
      ·
       rfl
     clear hcv22
     refine hK.out _ _ ⟨(blk_cell BK257.out 0).trans rfl, (blk_cell BK257.out 1).trans rfl, (blk_cell BK257.out 2).trans rfl, (blk_cell BK257.out 3).trans rfl, (blk_cell BK257.out 4).trans rfl, (blk_cell BK257.out 5).trans rfl, (blk_cell BK257.out 6).trans rfl⟩ (fun hHeld => ?_)
     clear hK K
     refine norm_ (a' := ?_) ?_ ?_
     rotate_left
     ·
      show Act.put _ (some 25) _ = _
      simp only [Act.put, List.setIfInBounds_toArray, List.set_cons_zero, List.set_cons_succ, i64_w, i32_w]
      rfl
     refine one_ (i := 3) (N := some 26) #[true, true, true, true, false, false, false, false, false] rfl rfl (one_of HT_.out (by kernel_rfl)) (by decide) (fun K hK => ?_)
     refine goes_ Try.func25 (by kernel_rfl) rfl #[.int .u32 9, .int .u32 8, .agg #[.int .i64 65535, .int .i64 65535, .int .u32 4294967295, .int .u32 4294967295, .int .i64 63, .int .i64 65535, .string (strOfNums y254)], .string (strOfNums y258)] (by rfl) rfl rfl (by (try simp only [List.map_toArray, List.map_cons, List.map_nil]); first | done | rfl | (simp only [List.length_drop, List.length_take]; rfl)) ?_
     with_reducible refine (tcp_Put.calls k 9 8 65535 65535 4294967295 4294967295 63 65535 (strOfNums y254) (strOfNums y258) t261 t262 _ A6.out).mono ?_
     rintro e w23 ⟨rfl, hb⟩
     refine ⟨_, rfl, ?_⟩
     have n0_ := Aside0.mk (Kd.R_below (by (with_reducible repeat (first | apply Kd.R_alloc | apply Kd.R_drewN | apply Kd.R_drew)); exact HO256.out) hb)
     have n1_ := Aside0.mk (Kd.R_below (by (with_reducible repeat (first | apply Kd.R_alloc | apply Kd.R_drewN | apply Kd.R_drew)); exact HO260.out) hb)
     have n2_ := Aside0.mk (blk_below (g := gb257) (o := .cells #[.int .i64 65535, .int .i64 65535, .int .u32 4294967295, .int .u32 4294967295, .int .i64 63, .int .i64 65535, .string (strOfNums y254)] 42 (0, 0)) (by (with_reducible repeat (first | refine blk_drewN ?_ _ | refine blk_drew ?_ | refine blk_alloc ?_ _)); exact BK257.out) hb)
     have n3_ := Aside0.mk (below_step (by repeat (first | (with_reducible first | exact HB.out | apply below_alloc | apply pw_below_drewN | apply below_drew1 | refine below_set ?_ GE257.out) | exact HB.out)) hb)
     clear HO256
     clear HO260
     clear BK257
     clear HB
     have HO256 := n0_
     have HO260 := n1_
     have BK257 := n2_
     have HB := n3_
     clear n0_ n1_ n2_ n3_
     (try clear hb)
     (try clear hb2)
     (try clear hk)
     (try clear hi)
     refine hK.out _ _ ⟨(blk_cell BK257.out 0).trans rfl, (blk_cell BK257.out 1).trans rfl, (blk_cell BK257.out 2).trans rfl, (blk_cell BK257.out 3).trans rfl, (blk_cell BK257.out 4).trans rfl, (blk_cell BK257.out 5).trans rfl, (blk_cell BK257.out 6).trans rfl⟩ (fun hHeld => ?_)
     clear hK K
     refine norm_ (a' := ?_) ?_ ?_
     rotate_left
     ·
      show Act.put _ (some 26) _ = _
      simp only [Act.put, List.setIfInBounds_toArray, List.set_cons_zero, List.set_cons_succ, i64_w, i32_w]
      rfl
     refine pure_ (i := 4) (N := some 22) (v := ?_) (a' := ?_) #[true, true, true, true, true, false, false, false, false] rfl rfl (any_of HT_.out (by kernel_rfl)) (fun _ _ _ h => h) (Or.inl ⟨by rfl, ?_⟩) ?_ ?_
     rotate_left
     ·
      intro w'
      go_simp
      with_reducible rfl
     rotate_left
     ·
      simp only [Act.put, List.setIfInBounds_toArray, List.set_cons_zero, List.set_cons_succ, i64_w, i32_w]
      rfl
     refine pure_ (i := 5) (N := some 27) (v := ?_) (a' := ?_) #[true, true, true, true, true, true, false, false, false] rfl rfl (any_of HT_.out (by kernel_rfl)) (fun _ _ _ h => h) (Or.inl ⟨by rfl, ?_⟩) ?_ ?_
     rotate_left
     ·
      intro w'
      go_simp
      with_reducible rfl
     rotate_left
     ·
      simp only [Act.put, List.setIfInBounds_toArray, List.set_cons_zero, List.set_cons_succ, i64_w, i32_w]
      rfl
     refine pure_ (i := 6) (N := some 28) (v := ?_) (a' := ?_) #[true, true, true, true, true, true, true, false, false] rfl rfl (any_of HT_.out (by kernel_rfl)) (fun _ _ _ h => h) (Or.inl ⟨by rfl, ?_⟩) ?_ ?_
     rotate_left
     ·
      intro w'
      go_simp
      with_reducible rfl
     rotate_left
     ·
      simp only [Act.put, List.setIfInBounds_toArray, List.set_cons_zero, List.set_cons_succ, i64_w, i32_w]
      rfl
     refine pure_ (i := 7) (N := some 7) (v := ?_) (a' := ?_) #[true, true, true, true, true, true, true, true, false] rfl rfl (any_of HT_.out (by kernel_rfl)) (fun _ _ _ h => h) (Or.inl ⟨by rfl, ?_⟩) ?_ ?_
     rotate_left
     ·
      intro w'
      go_simp
      with_reducible rfl
     rotate_left
     ·
      simp only [Act.put, List.setIfInBounds_toArray, List.set_cons_zero, List.set_cons_succ, i64_w, i32_w]
      rfl
     refine pure_ (i := 8) (N := some 8) (v := ?_) (a' := ?_) #[true, true, true, true, true, true, true, true, true] rfl rfl (any_of HT_.out (by kernel_rfl)) (fun _ _ _ h => h) (Or.inl ⟨by rfl, ?_⟩) ?_ ?_
     rotate_left
     ·
      intro w'
      go_simp
      with_reducible rfl
     rotate_left
     ·
      simp only [Act.put, List.setIfInBounds_toArray, List.set_cons_zero, List.set_cons_succ, i64_w, i32_w]
      rfl
     refine done_ (done_of HT_.out (by kernel_rfl)) ?_
     try go_wp2_with (first | ((with_reducible refine gate_callee (f := 27) rfl ?_); refine goesL_ (some 31) rfl rfl Try.func27 (by kernel_rfl) rfl #[.int .u32 9, .int .u32 8, .string t261] rfl (by (try simp only [List.map_toArray, List.map_cons, List.map_nil]); first | done | rfl | (simp only [List.length_drop, List.length_take]; rfl)) ?_; (with_reducible refine (tcp_Get.calls k 9 8 t261 t263 t264 t265 t266 t267 t268 t269 t270 t271 _ A7.out).mono ?_); rintro e w24 ⟨rfl, hb⟩; refine ⟨_, rfl, ?_⟩; have n0_ := Aside0.mk (Kd.R_below (by (with_reducible repeat (first | apply Kd.R_alloc | apply Kd.R_drewN | apply Kd.R_drew)); exact HO256.out) hb); have n1_ := Aside0.mk (Kd.R_below (by (with_reducible repeat (first | apply Kd.R_alloc | apply Kd.R_drewN | apply Kd.R_drew)); exact HO260.out) hb); have n2_ := Aside0.mk (blk_below (g := gb257) (o := .cells #[.int .i64 65535, .int .i64 65535, .int .u32 4294967295, .int .u32 4294967295, .int .i64 63, .int .i64 65535, .string (strOfNums y254)] 42 (0, 0)) (by (with_reducible repeat (first | refine blk_drewN ?_ _ | refine blk_drew ?_ | refine blk_alloc ?_ _)); exact BK257.out) hb); have n3_ := Aside0.mk (below_step (by repeat (first | (with_reducible first | exact HB.out | apply below_alloc | apply pw_below_drewN | apply below_drew1 | refine below_set ?_ GE257.out) | exact HB.out)) hb); clear HO256; clear HO260; clear BK257; clear HB; have HO256 := n0_; have HO260 := n1_; have BK257 := n2_; have HB := n3_; clear n0_ n1_ n2_ n3_; (try clear hb); (try clear hb2); (try clear hk); (try clear hi)) | ((with_reducible refine gate_dst (N := 9) rfl ?_); (try (refine gate_guard (by rfl) ?_; dsimp only)); refine box_event ?hg (N := 9) ?hd (cs := #[.int .i64 0, .int .i64 0, .int .u32 0, .int .u32 0, .int .i64 0, .int .i64 0, .string (⟨#[]⟩ : ByteArray)]) (t := 42) ?hr ?_; (case hd => rfl); (case hg => rfl); (case hr => first | (go_simp; done) | (go_simp; rfl)); intro gb272 hg w25 hbox hb; have n0_ := Aside0.mk (Kd.R_below (by (with_reducible repeat (first | apply Kd.R_alloc | apply Kd.R_drewN | apply Kd.R_drew)); exact HO256.out) hb); have n1_ := Aside0.mk (Kd.R_below (by (with_reducible repeat (first | apply Kd.R_alloc | apply Kd.R_drewN | apply Kd.R_drew)); exact HO260.out) hb); have n2_ := Aside0.mk (blk_below (g := gb257) (o := .cells #[.int .i64 65535, .int .i64 65535, .int .u32 4294967295, .int .u32 4294967295, .int .i64 63, .int .i64 65535, .string (strOfNums y254)] 42 (0, 0)) (by (with_reducible repeat (first | refine blk_drewN ?_ _ | refine blk_drew ?_ | refine blk_alloc ?_ _)); exact BK257.out) hb); have n3_ := Aside0.mk (below_step (by repeat (first | (with_reducible first | exact HB.out | apply below_alloc | apply pw_below_drewN | apply below_drew1 | refine below_set ?_ GE257.out) | exact HB.out)) hb); have n4_ := Aside0.mk (hbox); have n5_ := Aside0.mk ((by rw [hg]; exact (below_size (by repeat (first | (with_reducible first | exact HB.out | apply below_alloc | apply pw_below_drewN | apply below_drew1 | refine below_set ?_ GE257.out) | exact HB.out))) : w.heap.size ≤ gb272)); have n6_ := Aside0.mk ((by rw [hg]; exact (below_size (by repeat (first | (with_reducible first | exact HB.out | apply below_alloc | apply pw_below_drewN | apply below_drew1 | refine below_set ?_ GE257.out) | exact HB.out))) : w.heap.size ≤ gb272)); have n7_ := Aside0.mk ((by rw [hg]; exact Nat.ne_of_lt (blk_lt (g := gb257) (o := .cells #[.int .i64 65535, .int .i64 65535, .int .u32 4294967295, .int .u32 4294967295, .int .i64 63, .int .i64 65535, .string (strOfNums y254)] 42 (0, 0)) (by (with_reducible repeat (first | refine blk_drewN ?_ _ | refine blk_drew ?_ | refine blk_alloc ?_ _)); exact BK257.out)) : gb257 ≠ gb272)); have n8_ := Aside0.mk ((by rw [hg]; exact Nat.ne_of_gt (blk_lt (g := gb257) (o := .cells #[.int .i64 65535, .int .i64 65535, .int .u32 4294967295, .int .u32 4294967295, .int .i64 63, .int .i64 65535, .string (strOfNums y254)] 42 (0, 0)) (by (with_reducible repeat (first | refine blk_drewN ?_ _ | refine blk_drew ?_ | refine blk_alloc ?_ _)); exact BK257.out)) : gb272 ≠ gb257)); clear HO256; clear HO260; clear BK257; clear HB; have HO256 := n0_; have HO260 := n1_; have BK257 := n2_; have HB := n3_; have BK272 := n4_; have GW272 := n5_; have GE272 := n6_; have NB257_272 := n7_; have NB272_257 := n8_; clear n0_ n1_ n2_ n3_ n4_ n5_ n6_ n7_ n8_; clear hb hbox hg; have hnb26 := NB272_257.out; have hnc26 := NB257_272.out; have hcz27_0 : w25.cell? ⟨gb272, 0, none⟩ = some (.int .i64 0) := (blk_cell BK272.out 0).trans rfl; have hcz27_1 : w25.cell? ⟨gb272, 1, none⟩ = some (.int .i64 0) := (blk_cell BK272.out 1).trans rfl; have hcz27_2 : w25.cell? ⟨gb272, 2, none⟩ = some (.int .u32 0) := (blk_cell BK272.out 2).trans rfl; have hcz27_3 : w25.cell? ⟨gb272, 3, none⟩ = some (.int .u32 0) := (blk_cell BK272.out 3).trans rfl; have hcz27_4 : w25.cell? ⟨gb272, 4, none⟩ = some (.int .i64 0) := (blk_cell BK272.out 4).trans rfl; have hcz27_5 : w25.cell? ⟨gb272, 5, none⟩ = some (.int .i64 0) := (blk_cell BK272.out 5).trans rfl; have hcz27_6 : w25.cell? ⟨gb272, 6, none⟩ = some (.string (⟨#[]⟩ : ByteArray)) := (blk_cell BK272.out 6).trans rfl; have hfz27_0 := blk_frozen BK272.out 0; have hfz27_1 := blk_frozen BK272.out 1; have hfz27_2 := blk_frozen BK272.out 2; have hfz27_3 := blk_frozen BK272.out 3; have hfz27_4 := blk_frozen BK272.out 4; have hfz27_5 := blk_frozen BK272.out 5; have hfz27_6 := blk_frozen BK272.out 6))
     have n0_ : Aside0 (Kd.R (Kd.int .u8) 5 (((((((w25.setCell ⟨gb272, 0, none⟩ (.int .i64 t263)).setCell ⟨gb272, 1, none⟩ (.int .i64 t264)).setCell ⟨gb272, 2, none⟩ (.int .u32 t265)).setCell ⟨gb272, 3, none⟩ (.int .u32 t266)).setCell ⟨gb272, 4, none⟩ (.int .i64 t267)).setCell ⟨gb272, 5, none⟩ (.int .i64 t268)).setCell ⟨gb272, 6, none⟩ (.string t269)) w.heap.size (fun k_ => some k_ ≠ (v259 : Value).ownBlock) v255 y254) := ⟨by (with_reducible repeat (first | apply Kd.R_alloc | apply Kd.R_drewN | apply Kd.R_drew)); exact Kd.R_mono (Kd.R_far (p := ⟨gb272, 6, none⟩) (Kd.R_far (p := ⟨gb272, 5, none⟩) (Kd.R_far (p := ⟨gb272, 4, none⟩) (Kd.R_far (p := ⟨gb272, 3, none⟩) (Kd.R_far (p := ⟨gb272, 2, none⟩) (Kd.R_far (p := ⟨gb272, 1, none⟩) (Kd.R_far (p := ⟨gb272, 0, none⟩) (Kd.R_types HO256.out BK272.out (by decide)) (fun _ hk => hk.2) (.int .i64 t263)) (fun _ hk => hk.2) (.int .i64 t264)) (fun _ hk => hk.2) (.int .u32 t265)) (fun _ hk => hk.2) (.int .u32 t266)) (fun _ hk => hk.2) (.int .i64 t267)) (fun _ hk => hk.2) (.int .i64 t268)) (fun _ hk => hk.2) (.string t269)) (fun _ hk => hk.1.2)⟩
     have n1_ : Aside0 (Kd.R (Kd.int .u8) 5 (((((((w25.setCell ⟨gb272, 0, none⟩ (.int .i64 t263)).setCell ⟨gb272, 1, none⟩ (.int .i64 t264)).setCell ⟨gb272, 2, none⟩ (.int .u32 t265)).setCell ⟨gb272, 3, none⟩ (.int .u32 t266)).setCell ⟨gb272, 4, none⟩ (.int .i64 t267)).setCell ⟨gb272, 5, none⟩ (.int .i64 t268)).setCell ⟨gb272, 6, none⟩ (.string t269)) w.heap.size (fun k_ => some k_ ≠ (v255 : Value).ownBlock) v259 y258) := ⟨by (with_reducible repeat (first | apply Kd.R_alloc | apply Kd.R_drewN | apply Kd.R_drew)); exact Kd.R_mono (Kd.R_far (p := ⟨gb272, 6, none⟩) (Kd.R_far (p := ⟨gb272, 5, none⟩) (Kd.R_far (p := ⟨gb272, 4, none⟩) (Kd.R_far (p := ⟨gb272, 3, none⟩) (Kd.R_far (p := ⟨gb272, 2, none⟩) (Kd.R_far (p := ⟨gb272, 1, none⟩) (Kd.R_far (p := ⟨gb272, 0, none⟩) (Kd.R_types HO260.out BK272.out (by decide)) (fun _ hk => hk.2) (.int .i64 t263)) (fun _ hk => hk.2) (.int .i64 t264)) (fun _ hk => hk.2) (.int .u32 t265)) (fun _ hk => hk.2) (.int .u32 t266)) (fun _ hk => hk.2) (.int .i64 t267)) (fun _ hk => hk.2) (.int .i64 t268)) (fun _ hk => hk.2) (.string t269)) (fun _ hk => hk.1.2)⟩
     have n2_ : Aside0 ((((((((w25.setCell ⟨gb272, 0, none⟩ (.int .i64 t263)).setCell ⟨gb272, 1, none⟩ (.int .i64 t264)).setCell ⟨gb272, 2, none⟩ (.int .u32 t265)).setCell ⟨gb272, 3, none⟩ (.int .u32 t266)).setCell ⟨gb272, 4, none⟩ (.int .i64 t267)).setCell ⟨gb272, 5, none⟩ (.int .i64 t268)).setCell ⟨gb272, 6, none⟩ (.string t269)).heap[gb257]? = some (.cells #[.int .i64 65535, .int .i64 65535, .int .u32 4294967295, .int .u32 4294967295, .int .i64 63, .int .i64 65535, .string (strOfNums y254)] 42 (0, 0))) := ⟨by (with_reducible repeat (first | refine blk_drewN ?_ _ | refine blk_drew ?_ | refine blk_alloc ?_ _)); refine blk_far ?_ NB257_272.out _; (with_reducible repeat (first | refine blk_drewN ?_ _ | refine blk_drew ?_ | refine blk_alloc ?_ _)); refine blk_far ?_ NB257_272.out _; (with_reducible repeat (first | refine blk_drewN ?_ _ | refine blk_drew ?_ | refine blk_alloc ?_ _)); refine blk_far ?_ NB257_272.out _; (with_reducible repeat (first | refine blk_drewN ?_ _ | refine blk_drew ?_ | refine blk_alloc ?_ _)); refine blk_far ?_ NB257_272.out _; (with_reducible repeat (first | refine blk_drewN ?_ _ | refine blk_drew ?_ | refine blk_alloc ?_ _)); refine blk_far ?_ NB257_272.out _; (with_reducible repeat (first | refine blk_drewN ?_ _ | refine blk_drew ?_ | refine blk_alloc ?_ _)); refine blk_far ?_ NB257_272.out _; (with_reducible repeat (first | refine blk_drewN ?_ _ | refine blk_drew ?_ | refine blk_alloc ?_ _)); refine blk_far ?_ NB257_272.out _; (with_reducible repeat (first | refine blk_drewN ?_ _ | refine blk_drew ?_ | refine blk_alloc ?_ _)); exact BK257.out⟩
     have n3_ : Aside0 ((((((((w25.setCell ⟨gb272, 0, none⟩ (.int .i64 t263)).setCell ⟨gb272, 1, none⟩ (.int .i64 t264)).setCell ⟨gb272, 2, none⟩ (.int .u32 t265)).setCell ⟨gb272, 3, none⟩ (.int .u32 t266)).setCell ⟨gb272, 4, none⟩ (.int .i64 t267)).setCell ⟨gb272, 5, none⟩ (.int .i64 t268)).setCell ⟨gb272, 6, none⟩ (.string t269)).heap[gb272]? = some (.cells #[.int .i64 t263, .int .i64 t264, .int .u32 t265, .int .u32 t266, .int .i64 t267, .int .i64 t268, .string t269] 42 (0, 0))) := ⟨by (with_reducible repeat (first | refine blk_drewN ?_ _ | refine blk_drew ?_ | refine blk_alloc ?_ _)); refine blk_put (cs := #[.int .i64 t263, .int .i64 t264, .int .u32 t265, .int .u32 t266, .int .i64 t267, .int .i64 t268, .string (⟨#[]⟩ : ByteArray)]) ?_ 6 _ rfl; (with_reducible repeat (first | refine blk_drewN ?_ _ | refine blk_drew ?_ | refine blk_alloc ?_ _)); refine blk_put (cs := #[.int .i64 t263, .int .i64 t264, .int .u32 t265, .int .u32 t266, .int .i64 t267, .int .i64 0, .string (⟨#[]⟩ : ByteArray)]) ?_ 5 _ rfl; (with_reducible repeat (first | refine blk_drewN ?_ _ | refine blk_drew ?_ | refine blk_alloc ?_ _)); refine blk_put (cs := #[.int .i64 t263, .int .i64 t264, .int .u32 t265, .int .u32 t266, .int .i64 0, .int .i64 0, .string (⟨#[]⟩ : ByteArray)]) ?_ 4 _ rfl; (with_reducible repeat (first | refine blk_drewN ?_ _ | refine blk_drew ?_ | refine blk_alloc ?_ _)); refine blk_put (cs := #[.int .i64 t263, .int .i64 t264, .int .u32 t265, .int .u32 0, .int .i64 0, .int .i64 0, .string (⟨#[]⟩ : ByteArray)]) ?_ 3 _ rfl; (with_reducible repeat (first | refine blk_drewN ?_ _ | refine blk_drew ?_ | refine blk_alloc ?_ _)); refine blk_put (cs := #[.int .i64 t263, .int .i64 t264, .int .u32 0, .int .u32 0, .int .i64 0, .int .i64 0, .string (⟨#[]⟩ : ByteArray)]) ?_ 2 _ rfl; (with_reducible repeat (first | refine blk_drewN ?_ _ | refine blk_drew ?_ | refine blk_alloc ?_ _)); refine blk_put (cs := #[.int .i64 t263, .int .i64 0, .int .u32 0, .int .u32 0, .int .i64 0, .int .i64 0, .string (⟨#[]⟩ : ByteArray)]) ?_ 1 _ rfl; (with_reducible repeat (first | refine blk_drewN ?_ _ | refine blk_drew ?_ | refine blk_alloc ?_ _)); refine blk_put (cs := #[.int .i64 0, .int .i64 0, .int .u32 0, .int .u32 0, .int .i64 0, .int .i64 0, .string (⟨#[]⟩ : ByteArray)]) ?_ 0 _ rfl; (with_reducible repeat (first | refine blk_drewN ?_ _ | refine blk_drew ?_ | refine blk_alloc ?_ _)); exact BK272.out⟩
     have n4_ : Aside0 (Below w.heap.size w (((((((w25.setCell ⟨gb272, 0, none⟩ (.int .i64 t263)).setCell ⟨gb272, 1, none⟩ (.int .i64 t264)).setCell ⟨gb272, 2, none⟩ (.int .u32 t265)).setCell ⟨gb272, 3, none⟩ (.int .u32 t266)).setCell ⟨gb272, 4, none⟩ (.int .i64 t267)).setCell ⟨gb272, 5, none⟩ (.int .i64 t268)).setCell ⟨gb272, 6, none⟩ (.string t269))) := ⟨by repeat (first | (with_reducible first | exact HB.out | apply below_alloc | apply pw_below_drewN | apply below_drew1 | refine below_set ?_ GE257.out | refine below_set ?_ GE272.out) | exact HB.out)⟩
     (try clear HO256)
     (try clear HO260)
     (try clear BK257)
     (try clear BK272)
     (try clear HB)
     generalize (((((((w25.setCell ⟨gb272, 0, none⟩ (.int .i64 t263)).setCell ⟨gb272, 1, none⟩ (.int .i64 t264)).setCell ⟨gb272, 2, none⟩ (.int .u32 t265)).setCell ⟨gb272, 3, none⟩ (.int .u32 t266)).setCell ⟨gb272, 4, none⟩ (.int .i64 t267)).setCell ⟨gb272, 5, none⟩ (.int .i64 t268)).setCell ⟨gb272, 6, none⟩ (.string t269)) = w28 at n0_ n1_ n2_ n3_ n4_ ⊢
     have HO256 := n0_
     have HO260 := n1_
     have BK257 := n2_
     have BK272 := n3_
     have HB := n4_
     clear n0_ n1_ n2_ n3_ n4_
     have n0_ := Aside0.mk (Kd.R_drew HO256.out)
     have n1_ := Aside0.mk (Kd.R_drew HO260.out)
     have n2_ := Aside0.mk (blk_drew BK257.out)
     have n3_ := Aside0.mk (blk_drew BK272.out)
     have n4_ := Aside0.mk (below_drew1 HB.out)
     clear HO256
     clear HO260
     clear BK257
     clear BK272
     clear HB
     have HO256 := n0_
     have HO260 := n1_
     have BK257 := n2_
     have BK272 := n3_
     have HB := n4_
     clear n0_ n1_ n2_ n3_ n4_
     refine start_ (n := 11) (S := fun w' => w'.cell? ⟨gb257, 0, none⟩ = some (.int .i64 65535) ∧ w'.cell? ⟨gb257, 1, none⟩ = some (.int .i64 65535) ∧ w'.cell? ⟨gb257, 2, none⟩ = some (.int .u32 4294967295) ∧ w'.cell? ⟨gb257, 3, none⟩ = some (.int .u32 4294967295) ∧ w'.cell? ⟨gb257, 4, none⟩ = some (.int .i64 63) ∧ w'.cell? ⟨gb257, 5, none⟩ = some (.int .i64 65535) ∧ w'.cell? ⟨gb257, 6, none⟩ = some (.string (strOfNums y254))) (ds := []) #[false, false, false, false, false, false, false, false, false, false, false] (by kernel_rfl) rfl rfl ⟨(blk_cell BK257.out 0).trans rfl, (blk_cell BK257.out 1).trans rfl, (blk_cell BK257.out 2).trans rfl, (blk_cell BK257.out 3).trans rfl, (blk_cell BK257.out 4).trans rfl, (blk_cell BK257.out 5).trans rfl, (blk_cell BK257.out 6).trans rfl⟩ (fun hHeld => ?_); refine with_tabW rampartlaw04_TcpEdges.tab5 rampartlaw04_TcpEdges.bits5 (fun HT_ HW_ => ?_)
     generalize w28.drew = w29 at HO256 HO260 BK257 BK272 HB hHeld ⊢
     refine pure_ (i := 1) (N := some 37) (v := ?_) (a' := ?_) #[false, true, false, false, false, false, false, false, false, false, false] rfl rfl (any_of HT_.out (by kernel_rfl)) (fun _ _ _ h => h) (Or.inl ⟨by rfl, ?_⟩) ?_ ?_
     rotate_left
     ·
      intro w'
      go_simp
      with_reducible rfl
     rotate_left
     ·
      simp only [Act.put, List.setIfInBounds_toArray, List.set_cons_zero, List.set_cons_succ, i64_w, i32_w]
      rfl
     refine pure_ (i := 2) (N := some 38) (v := ?_) (a' := ?_) #[false, true, true, false, false, false, false, false, false, false, false] rfl rfl (any_of HT_.out (by kernel_rfl)) (fun _ _ _ h => h) (Or.inl ⟨by rfl, ?_⟩) ?_ ?_
     rotate_left
     ·
      intro w'
      go_simp
      with_reducible rfl
     rotate_left
     ·
      simp only [Act.put, List.setIfInBounds_toArray, List.set_cons_zero, List.set_cons_succ, i64_w, i32_w]
      rfl
     refine take_ (i := 0) (N := some 36) (v := ?_) (a' := ?_) #[true, true, true, false, false, false, false, false, false, false, false] rfl rfl (take_ofW HT_.out HW_.out (by kernel_rfl)) (fun _ _ _ h => h) (Or.inl ⟨by rfl, ?_⟩) hHeld ?_ ?_
     rotate_left
     ·
      rintro w' ⟨s0, s1, s2, s3, s4, s5, s6⟩
      go_simp
      with_reducible rfl
     rotate_left
     ·
      simp only [Act.put, List.setIfInBounds_toArray, List.set_cons_zero, List.set_cons_succ, i64_w, i32_w]
      rfl
     refine one_ (i := 3) (N := some 39) #[true, true, true, true, false, false, false, false, false, false, false] rfl rfl (one_of HT_.out (by kernel_rfl)) (by decide) (fun K hK => ?_)
     refine Kd.R_make_step (Kd.int .u8) _ 5 (by rfl) (N := 39) rfl 34 _ _ rfl ji8 rfl rfl Try.underlying34 (.int .u8 0) 1 info5 rfl (by decide) (by omega) 0 (ok := fun _ => True) (okp := fun _ => True) rfl (fun _ hk => hk) trivial (of_decide_eq_true (by first | (with_reducible assumption) | assumption)) (Nat.le_trans (Nat.mul_le_mul_right _ (of_decide_eq_true (by first | (with_reducible assumption) | assumption) : ji8.toNat ≤ 281474976710656)) (by omega)) (Below.refl _ _) (Nat.le_refl _) ?_
     intro v274 w30 ho31 hb hg_ hnew_
     clear hg_ hnew_
     (first | rw [← Ny273.out] at ho31 | (simp only [Int.reduceToNat] at ho31; rw [← Ny273.out] at ho31))
     have n0_ := Aside0.mk (Kd.R_elder' (by (with_reducible repeat (first | apply Kd.R_alloc | apply Kd.R_drewN | apply Kd.R_drew)); exact HO256.out) (Kd.R_base ho31) hb)
     have n1_ := Aside0.mk (Kd.R_elder' (by (with_reducible repeat (first | apply Kd.R_alloc | apply Kd.R_drewN | apply Kd.R_drew)); exact HO260.out) (Kd.R_base ho31) hb)
     have n2_ := Aside0.mk (Kd.R_lower (Kd.R_new' (Kd.R_new' ho31 (Kd.R_lt (by (with_reducible repeat (first | apply Kd.R_alloc | apply Kd.R_drewN | apply Kd.R_drew)); exact HO256.out))) (Kd.R_lt (by (with_reducible repeat (first | apply Kd.R_alloc | apply Kd.R_drewN | apply Kd.R_drew)); exact HO260.out))) (below_size (by repeat (first | (with_reducible first | exact HB.out | apply below_alloc | apply pw_below_drewN | apply below_drew1 | refine below_set ?_ GE257.out | refine below_set ?_ GE272.out) | exact HB.out))))
     have n3_ := Aside0.mk (blk_below (g := gb257) (o := .cells #[.int .i64 65535, .int .i64 65535, .int .u32 4294967295, .int .u32 4294967295, .int .i64 63, .int .i64 65535, .string (strOfNums y254)] 42 (0, 0)) (by (with_reducible repeat (first | refine blk_drewN ?_ _ | refine blk_drew ?_ | refine blk_alloc ?_ _)); exact BK257.out) hb)
     have n4_ := Aside0.mk (blk_below (g := gb272) (o := .cells #[.int .i64 t263, .int .i64 t264, .int .u32 t265, .int .u32 t266, .int .i64 t267, .int .i64 t268, .string t269] 42 (0, 0)) (by (with_reducible repeat (first | refine blk_drewN ?_ _ | refine blk_drew ?_ | refine blk_alloc ?_ _)); exact BK272.out) hb)
     have n5_ := Aside0.mk (below_step (by repeat (first | (with_reducible first | exact HB.out | apply below_alloc | apply pw_below_drewN | apply below_drew1 | refine below_set ?_ GE257.out | refine below_set ?_ GE272.out) | exact HB.out)) hb)
     clear HO256
     clear HO260
     clear BK257
     clear BK272
     clear HB
     have HO256 := n0_
     have HO260 := n1_
     have HO275 := n2_
     have BK257 := n3_
     have BK272 := n4_
     have HB := n5_
     clear n0_ n1_ n2_ n3_ n4_ n5_
     clear hb ho31
     refine hK.out _ _ ⟨(blk_cell BK257.out 0).trans rfl, (blk_cell BK257.out 1).trans rfl, (blk_cell BK257.out 2).trans rfl, (blk_cell BK257.out 3).trans rfl, (blk_cell BK257.out 4).trans rfl, (blk_cell BK257.out 5).trans rfl, (blk_cell BK257.out 6).trans rfl⟩ (fun hHeld => ?_)
     clear hK K
     refine norm_ (a' := ?_) ?_ ?_
     rotate_left
     ·
      show Act.put _ (some 39) _ = _
      simp only [Act.put, List.setIfInBounds_toArray, List.set_cons_zero, List.set_cons_succ, i64_w, i32_w]
      rfl
     refine one_ (i := 4) (N := some 40) #[true, true, true, true, true, false, false, false, false, false, false] rfl rfl (one_of HT_.out (by kernel_rfl)) (by decide) (fun K hK => ?_)
     have hcv32 := own_string (P := Try.prog) Try.underlying34 Try.underlying5 Try.underlying9 (Kd.own_of_R HO275.out)
     refine value_ (w1 := ?_) (v := ?_) (by rfl) rfl ?_ ?_
     rotate_left 2
     ·
      go_simp
      constructor
      ·
       rfl
      ·
       rfl
     clear hcv32
     refine hK.out _ _ ⟨(blk_cell BK257.out 0).trans rfl, (blk_cell BK257.out 1).trans rfl, (blk_cell BK257.out 2).trans rfl, (blk_cell BK257.out 3).trans rfl, (blk_cell BK257.out 4).trans rfl, (blk_cell BK257.out 5).trans rfl, (blk_cell BK257.out 6).trans rfl⟩ (fun hHeld => ?_)
     clear hK K
     refine norm_ (a' := ?_) ?_ ?_
     rotate_left
     ·
      show Act.put _ (some 40) _ = _
      simp only [Act.put, List.setIfInBounds_toArray, List.set_cons_zero, List.set_cons_succ, i64_w, i32_w]
      rfl
     refine one_ (i := 5) (N := some 41) #[true, true, true, true, true, true, false, false, false, false, false] rfl rfl (one_of HT_.out (by kernel_rfl)) (by decide) (fun K hK => ?_)
     refine goes_ Try.func25 (by kernel_rfl) rfl #[.int .u32 9, .int .u32 8, .agg #[.int .i64 65535, .int .i64 65535, .int .u32 4294967295, .int .u32 4294967295, .int .i64 63, .int .i64 65535, .string (strOfNums y254)], .string (strOfNums y273)] (by rfl) rfl rfl (by (try simp only [List.map_toArray, List.map_cons, List.map_nil]); first | done | rfl | (simp only [List.length_drop, List.length_take]; rfl)) ?_
     with_reducible refine (tcp_Put.calls k 9 8 65535 65535 4294967295 4294967295 63 65535 (strOfNums y254) (strOfNums y273) t276 t277 _ A11.out).mono ?_
     rintro e w33 ⟨rfl, hb⟩
     refine ⟨_, rfl, ?_⟩
     have n0_ := Aside0.mk (Kd.R_below (by (with_reducible repeat (first | apply Kd.R_alloc | apply Kd.R_drewN | apply Kd.R_drew)); exact HO256.out) hb)
     have n1_ := Aside0.mk (Kd.R_below (by (with_reducible repeat (first | apply Kd.R_alloc | apply Kd.R_drewN | apply Kd.R_drew)); exact HO260.out) hb)
     have n2_ := Aside0.mk (Kd.R_below (by (with_reducible repeat (first | apply Kd.R_alloc | apply Kd.R_drewN | apply Kd.R_drew)); exact HO275.out) hb)
     have n3_ := Aside0.mk (blk_below (g := gb257) (o := .cells #[.int .i64 65535, .int .i64 65535, .int .u32 4294967295, .int .u32 4294967295, .int .i64 63, .int .i64 65535, .string (strOfNums y254)] 42 (0, 0)) (by (with_reducible repeat (first | refine blk_drewN ?_ _ | refine blk_drew ?_ | refine blk_alloc ?_ _)); exact BK257.out) hb)
     have n4_ := Aside0.mk (blk_below (g := gb272) (o := .cells #[.int .i64 t263, .int .i64 t264, .int .u32 t265, .int .u32 t266, .int .i64 t267, .int .i64 t268, .string t269] 42 (0, 0)) (by (with_reducible repeat (first | refine blk_drewN ?_ _ | refine blk_drew ?_ | refine blk_alloc ?_ _)); exact BK272.out) hb)
     have n5_ := Aside0.mk (below_step (by repeat (first | (with_reducible first | exact HB.out | apply below_alloc | apply pw_below_drewN | apply below_drew1 | refine below_set ?_ GE257.out | refine below_set ?_ GE272.out) | exact HB.out)) hb)
     clear HO256
     clear HO260
     clear HO275
     clear BK257
     clear BK272
     clear HB
     have HO256 := n0_
     have HO260 := n1_
     have HO275 := n2_
     have BK257 := n3_
     have BK272 := n4_
     have HB := n5_
     clear n0_ n1_ n2_ n3_ n4_ n5_
     (try clear hb)
     (try clear hb2)
     (try clear hk)
     (try clear hi)
     refine hK.out _ _ ⟨(blk_cell BK257.out 0).trans rfl, (blk_cell BK257.out 1).trans rfl, (blk_cell BK257.out 2).trans rfl, (blk_cell BK257.out 3).trans rfl, (blk_cell BK257.out 4).trans rfl, (blk_cell BK257.out 5).trans rfl, (blk_cell BK257.out 6).trans rfl⟩ (fun hHeld => ?_)
     clear hK K
     refine norm_ (a' := ?_) ?_ ?_
     rotate_left
     ·
      show Act.put _ (some 41) _ = _
      simp only [Act.put, List.setIfInBounds_toArray, List.set_cons_zero, List.set_cons_succ, i64_w, i32_w]
      rfl
     refine pure_ (i := 6) (N := some 35) (v := ?_) (a' := ?_) #[true, true, true, true, true, true, true, false, false, false, false] rfl rfl (any_of HT_.out (by kernel_rfl)) (fun _ _ _ h => h) (Or.inl ⟨by rfl, ?_⟩) ?_ ?_
     rotate_left
     ·
      intro w'
      go_simp
      with_reducible rfl
     rotate_left
     ·
      simp only [Act.put, List.setIfInBounds_toArray, List.set_cons_zero, List.set_cons_succ, i64_w, i32_w]
      rfl
     refine pure_ (i := 7) (N := some 42) (v := ?_) (a' := ?_) #[true, true, true, true, true, true, true, true, false, false, false] rfl rfl (any_of HT_.out (by kernel_rfl)) (fun _ _ _ h => h) (Or.inl ⟨by rfl, ?_⟩) ?_ ?_
     rotate_left
     ·
      intro w'
      go_simp
      with_reducible rfl
     rotate_left
     ·
      simp only [Act.put, List.setIfInBounds_toArray, List.set_cons_zero, List.set_cons_succ, i64_w, i32_w]
      rfl
     refine pure_ (i := 8) (N := some 43) (v := ?_) (a' := ?_) #[true, true, true, true, true, true, true, true, true, false, false] rfl rfl (any_of HT_.out (by kernel_rfl)) (fun _ _ _ h => h) (Or.inl ⟨by rfl, ?_⟩) ?_ ?_
     rotate_left
     ·
      intro w'
      go_simp
      with_reducible rfl
     rotate_left
     ·
      simp only [Act.put, List.setIfInBounds_toArray, List.set_cons_zero, List.set_cons_succ, i64_w, i32_w]
      rfl
     refine pure_ (i := 9) (N := some 12) (v := ?_) (a' := ?_) #[true, true, true, true, true, true, true, true, true, true, false] rfl rfl (any_of HT_.out (by kernel_rfl)) (fun _ _ _ h => h) (Or.inl ⟨by rfl, ?_⟩) ?_ ?_
     rotate_left
     ·
      intro w'
      go_simp
      with_reducible rfl
     rotate_left
     ·
      simp only [Act.put, List.setIfInBounds_toArray, List.set_cons_zero, List.set_cons_succ, i64_w, i32_w]
      rfl
     refine pure_ (i := 10) (N := some 13) (v := ?_) (a' := ?_) #[true, true, true, true, true, true, true, true, true, true, true] rfl rfl (any_of HT_.out (by kernel_rfl)) (fun _ _ _ h => h) (Or.inl ⟨by rfl, ?_⟩) ?_ ?_
     rotate_left
     ·
      intro w'
      go_simp
      with_reducible rfl
     rotate_left
     ·
      simp only [Act.put, List.setIfInBounds_toArray, List.set_cons_zero, List.set_cons_succ, i64_w, i32_w]
      rfl
     refine done_ (done_of HT_.out (by kernel_rfl)) ?_
     go_upto_region 6 with (fail)
     go_cut [74] (fun v74 wc => ∃ (kq : Nat) (x74_11 : Bool), v74 = .bool x74_11 ∧ Aside0 (rampartlaw04_TcpEdges.j0 kq a0 (wrap64 (1 + t253)) x74_11 65535 65535 4294967295 4294967295 63 65535 (strOfNums y254) = some r) ∧ Aside0 (kq ≤ k) ∧ Aside0 (wc.heap[gb257]? = some (.cells #[.int .i64 65535, .int .i64 65535, .int .u32 4294967295, .int .u32 4294967295, .int .i64 63, .int .i64 65535, .string (strOfNums y254)] 42 (0, 0))) ∧ Aside0 (wc.heap[gb272]? = some (.cells #[.int .i64 t263, .int .i64 t264, .int .u32 t265, .int .u32 t266, .int .i64 t267, .int .i64 t268, .string t269] 42 (0, 0))) ∧ Aside0 (Below w.heap.size w wc))
     case first =>
      have H := HC12.out
      clear HC12
      by_cases c34 : t262 = 0
      ·
       rw [if_pos c34] at H
       have c34b0 : (t262 == 0) = true := beq_iff_eq.mpr c34
       have c34b1 : (t262 != 0) = false := bne_eq_false_iff_eq.mpr c34
       clear c34
       (first | rw [c34b0] | (simp only [i64_w, i32_w]; rw [c34b0]) | skip)
       by_cases c35 : t271 = 0
       ·
        rw [if_pos c35] at H
        have c35b0 : (t271 == 0) = true := beq_iff_eq.mpr c35
        have c35b1 : (t271 != 0) = false := bne_eq_false_iff_eq.mpr c35
        clear c35
        by_cases c36 : t265 = 4294967295
        ·
         rw [if_pos c36] at H
         have c36b0 : (t265 == 4294967295) = true := beq_iff_eq.mpr c36
         have c36b1 : (t265 != 4294967295) = false := bne_eq_false_iff_eq.mpr c36
         clear c36
         by_cases c37 : t267 = 63
         ·
          rw [if_pos c37] at H
          have c37b0 : (t267 == 63) = true := beq_iff_eq.mpr c37
          have c37b1 : (t267 != 63) = false := bne_eq_false_iff_eq.mpr c37
          clear c37
          by_cases c38 : (t269.size : Int) = 40
          ·
           rw [if_pos c38] at H
           have c38b0 : ((t269.size : Int) == 40) = true := beq_iff_eq.mpr c38
           have c38b1 : ((t269.size : Int) != 40) = false := bne_eq_false_iff_eq.mpr c38
           clear c38
           by_cases c39 : (t270.size : Int) = 1940
           ·
            rw [if_pos c39] at H
            have c39b0 : ((t270.size : Int) == 1940) = true := beq_iff_eq.mpr c39
            have c39b1 : ((t270.size : Int) != 1940) = false := bne_eq_false_iff_eq.mpr c39
            clear c39
            have H' := Aside0.mk H
            clear H
            have hnb40 := NB272_257.out
            have hnc40 := NB257_272.out
            have hcz41_0 : w33.cell? ⟨gb272, 0, none⟩ = some (.int .i64 t263) := (blk_cell BK272.out 0).trans rfl
            have hcz41_1 : w33.cell? ⟨gb272, 1, none⟩ = some (.int .i64 t264) := (blk_cell BK272.out 1).trans rfl
            have hcz41_2 : w33.cell? ⟨gb272, 2, none⟩ = some (.int .u32 t265) := (blk_cell BK272.out 2).trans rfl
            have hcz41_3 : w33.cell? ⟨gb272, 3, none⟩ = some (.int .u32 t266) := (blk_cell BK272.out 3).trans rfl
            have hcz41_4 : w33.cell? ⟨gb272, 4, none⟩ = some (.int .i64 t267) := (blk_cell BK272.out 4).trans rfl
            have hcz41_5 : w33.cell? ⟨gb272, 5, none⟩ = some (.int .i64 t268) := (blk_cell BK272.out 5).trans rfl
            have hcz41_6 : w33.cell? ⟨gb272, 6, none⟩ = some (.string t269) := (blk_cell BK272.out 6).trans rfl
            have hfz41_0 := blk_frozen BK272.out 0
            have hfz41_1 := blk_frozen BK272.out 1
            have hfz41_2 := blk_frozen BK272.out 2
            have hfz41_3 := blk_frozen BK272.out 3
            have hfz41_4 := blk_frozen BK272.out 4
            have hfz41_5 := blk_frozen BK272.out 5
            have hfz41_6 := blk_frozen BK272.out 6
            go_wp2
            go_meet
            case rel => exact ⟨_, ((t277 != 5)), (by first | rfl | (simp; done) | (simp [*]; done)), H', ⟨by first | omega | exact Nat.le_refl _⟩, ⟨by (with_reducible repeat (first | refine blk_drewN ?_ _ | refine blk_drew ?_ | refine blk_alloc ?_ _)); exact BK257.out⟩, ⟨by (with_reducible repeat (first | refine blk_drewN ?_ _ | refine blk_drew ?_ | refine blk_alloc ?_ _)); exact BK272.out⟩, ⟨by repeat (first | (with_reducible first | exact HB.out | apply below_alloc | apply pw_below_drewN | apply below_drew1 | refine below_set ?_ GE257.out | refine below_set ?_ GE272.out) | exact HB.out)⟩⟩
           ·
            rw [if_neg c39] at H
            have c39b0 : ((t270.size : Int) == 1940) = false := beq_eq_false_iff_ne.mpr c39
            have c39b1 : ((t270.size : Int) != 1940) = true := bne_iff_ne.mpr c39
            have H' := Aside0.mk H
            clear H
            have hnb42 := NB272_257.out
            have hnc42 := NB257_272.out
            have hcz43_0 : w33.cell? ⟨gb272, 0, none⟩ = some (.int .i64 t263) := (blk_cell BK272.out 0).trans rfl
            have hcz43_1 : w33.cell? ⟨gb272, 1, none⟩ = some (.int .i64 t264) := (blk_cell BK272.out 1).trans rfl
            have hcz43_2 : w33.cell? ⟨gb272, 2, none⟩ = some (.int .u32 t265) := (blk_cell BK272.out 2).trans rfl
            have hcz43_3 : w33.cell? ⟨gb272, 3, none⟩ = some (.int .u32 t266) := (blk_cell BK272.out 3).trans rfl
            have hcz43_4 : w33.cell? ⟨gb272, 4, none⟩ = some (.int .i64 t267) := (blk_cell BK272.out 4).trans rfl
            have hcz43_5 : w33.cell? ⟨gb272, 5, none⟩ = some (.int .i64 t268) := (blk_cell BK272.out 5).trans rfl
            have hcz43_6 : w33.cell? ⟨gb272, 6, none⟩ = some (.string t269) := (blk_cell BK272.out 6).trans rfl
            have hfz43_0 := blk_frozen BK272.out 0
            have hfz43_1 := blk_frozen BK272.out 1
            have hfz43_2 := blk_frozen BK272.out 2
            have hfz43_3 := blk_frozen BK272.out 3
            have hfz43_4 := blk_frozen BK272.out 4
            have hfz43_5 := blk_frozen BK272.out 5
            have hfz43_6 := blk_frozen BK272.out 6
            go_wp2
            go_meet
            case rel => exact ⟨_, (true), (by first | rfl | (simp; done) | (simp [*]; done)), H', ⟨by first | omega | exact Nat.le_refl _⟩, ⟨by (with_reducible repeat (first | refine blk_drewN ?_ _ | refine blk_drew ?_ | refine blk_alloc ?_ _)); exact BK257.out⟩, ⟨by (with_reducible repeat (first | refine blk_drewN ?_ _ | refine blk_drew ?_ | refine blk_alloc ?_ _)); exact BK272.out⟩, ⟨by repeat (first | (with_reducible first | exact HB.out | apply below_alloc | apply pw_below_drewN | apply below_drew1 | refine below_set ?_ GE257.out | refine below_set ?_ GE272.out) | exact HB.out)⟩⟩
          ·
           rw [if_neg c38] at H
           have c38b0 : ((t269.size : Int) == 40) = false := beq_eq_false_iff_ne.mpr c38
           have c38b1 : ((t269.size : Int) != 40) = true := bne_iff_ne.mpr c38
           have H' := Aside0.mk H
           clear H
           have hnb44 := NB272_257.out
           have hnc44 := NB257_272.out
           have hcz45_0 : w33.cell? ⟨gb272, 0, none⟩ = some (.int .i64 t263) := (blk_cell BK272.out 0).trans rfl
           have hcz45_1 : w33.cell? ⟨gb272, 1, none⟩ = some (.int .i64 t264) := (blk_cell BK272.out 1).trans rfl
           have hcz45_2 : w33.cell? ⟨gb272, 2, none⟩ = some (.int .u32 t265) := (blk_cell BK272.out 2).trans rfl
           have hcz45_3 : w33.cell? ⟨gb272, 3, none⟩ = some (.int .u32 t266) := (blk_cell BK272.out 3).trans rfl
           have hcz45_4 : w33.cell? ⟨gb272, 4, none⟩ = some (.int .i64 t267) := (blk_cell BK272.out 4).trans rfl
           have hcz45_5 : w33.cell? ⟨gb272, 5, none⟩ = some (.int .i64 t268) := (blk_cell BK272.out 5).trans rfl
           have hcz45_6 : w33.cell? ⟨gb272, 6, none⟩ = some (.string t269) := (blk_cell BK272.out 6).trans rfl
           have hfz45_0 := blk_frozen BK272.out 0
           have hfz45_1 := blk_frozen BK272.out 1
           have hfz45_2 := blk_frozen BK272.out 2
           have hfz45_3 := blk_frozen BK272.out 3
           have hfz45_4 := blk_frozen BK272.out 4
           have hfz45_5 := blk_frozen BK272.out 5
           have hfz45_6 := blk_frozen BK272.out 6
           go_wp2
           go_meet
           case rel => exact ⟨_, (true), (by first | rfl | (simp; done) | (simp [*]; done)), H', ⟨by first | omega | exact Nat.le_refl _⟩, ⟨by (with_reducible repeat (first | refine blk_drewN ?_ _ | refine blk_drew ?_ | refine blk_alloc ?_ _)); exact BK257.out⟩, ⟨by (with_reducible repeat (first | refine blk_drewN ?_ _ | refine blk_drew ?_ | refine blk_alloc ?_ _)); exact BK272.out⟩, ⟨by repeat (first | (with_reducible first | exact HB.out | apply below_alloc | apply pw_below_drewN | apply below_drew1 | refine below_set ?_ GE257.out | refine below_set ?_ GE272.out) | exact HB.out)⟩⟩
         ·
          rw [if_neg c37] at H
          have c37b0 : (t267 == 63) = false := beq_eq_false_iff_ne.mpr c37
          have c37b1 : (t267 != 63) = true := bne_iff_ne.mpr c37
          have H' := Aside0.mk H
          clear H
          have hnb46 := NB272_257.out
          have hnc46 := NB257_272.out
          have hcz47_0 : w33.cell? ⟨gb272, 0, none⟩ = some (.int .i64 t263) := (blk_cell BK272.out 0).trans rfl
          have hcz47_1 : w33.cell? ⟨gb272, 1, none⟩ = some (.int .i64 t264) := (blk_cell BK272.out 1).trans rfl
          have hcz47_2 : w33.cell? ⟨gb272, 2, none⟩ = some (.int .u32 t265) := (blk_cell BK272.out 2).trans rfl
          have hcz47_3 : w33.cell? ⟨gb272, 3, none⟩ = some (.int .u32 t266) := (blk_cell BK272.out 3).trans rfl
          have hcz47_4 : w33.cell? ⟨gb272, 4, none⟩ = some (.int .i64 t267) := (blk_cell BK272.out 4).trans rfl
          have hcz47_5 : w33.cell? ⟨gb272, 5, none⟩ = some (.int .i64 t268) := (blk_cell BK272.out 5).trans rfl
          have hcz47_6 : w33.cell? ⟨gb272, 6, none⟩ = some (.string t269) := (blk_cell BK272.out 6).trans rfl
          have hfz47_0 := blk_frozen BK272.out 0
          have hfz47_1 := blk_frozen BK272.out 1
          have hfz47_2 := blk_frozen BK272.out 2
          have hfz47_3 := blk_frozen BK272.out 3
          have hfz47_4 := blk_frozen BK272.out 4
          have hfz47_5 := blk_frozen BK272.out 5
          have hfz47_6 := blk_frozen BK272.out 6
          go_wp2
          go_meet
          case rel => exact ⟨_, (true), (by first | rfl | (simp; done) | (simp [*]; done)), H', ⟨by first | omega | exact Nat.le_refl _⟩, ⟨by (with_reducible repeat (first | refine blk_drewN ?_ _ | refine blk_drew ?_ | refine blk_alloc ?_ _)); exact BK257.out⟩, ⟨by (with_reducible repeat (first | refine blk_drewN ?_ _ | refine blk_drew ?_ | refine blk_alloc ?_ _)); exact BK272.out⟩, ⟨by repeat (first | (with_reducible first | exact HB.out | apply below_alloc | apply pw_below_drewN | apply below_drew1 | refine below_set ?_ GE257.out | refine below_set ?_ GE272.out) | exact HB.out)⟩⟩
        ·
         rw [if_neg c36] at H
         have c36b0 : (t265 == 4294967295) = false := beq_eq_false_iff_ne.mpr c36
         have c36b1 : (t265 != 4294967295) = true := bne_iff_ne.mpr c36
         have H' := Aside0.mk H
         clear H
         have hnb48 := NB272_257.out
         have hnc48 := NB257_272.out
         have hcz49_0 : w33.cell? ⟨gb272, 0, none⟩ = some (.int .i64 t263) := (blk_cell BK272.out 0).trans rfl
         have hcz49_1 : w33.cell? ⟨gb272, 1, none⟩ = some (.int .i64 t264) := (blk_cell BK272.out 1).trans rfl
         have hcz49_2 : w33.cell? ⟨gb272, 2, none⟩ = some (.int .u32 t265) := (blk_cell BK272.out 2).trans rfl
         have hcz49_3 : w33.cell? ⟨gb272, 3, none⟩ = some (.int .u32 t266) := (blk_cell BK272.out 3).trans rfl
         have hcz49_4 : w33.cell? ⟨gb272, 4, none⟩ = some (.int .i64 t267) := (blk_cell BK272.out 4).trans rfl
         have hcz49_5 : w33.cell? ⟨gb272, 5, none⟩ = some (.int .i64 t268) := (blk_cell BK272.out 5).trans rfl
         have hcz49_6 : w33.cell? ⟨gb272, 6, none⟩ = some (.string t269) := (blk_cell BK272.out 6).trans rfl
         have hfz49_0 := blk_frozen BK272.out 0
         have hfz49_1 := blk_frozen BK272.out 1
         have hfz49_2 := blk_frozen BK272.out 2
         have hfz49_3 := blk_frozen BK272.out 3
         have hfz49_4 := blk_frozen BK272.out 4
         have hfz49_5 := blk_frozen BK272.out 5
         have hfz49_6 := blk_frozen BK272.out 6
         go_wp2
         go_meet
         case rel => exact ⟨_, (true), (by first | rfl | (simp; done) | (simp [*]; done)), H', ⟨by first | omega | exact Nat.le_refl _⟩, ⟨by (with_reducible repeat (first | refine blk_drewN ?_ _ | refine blk_drew ?_ | refine blk_alloc ?_ _)); exact BK257.out⟩, ⟨by (with_reducible repeat (first | refine blk_drewN ?_ _ | refine blk_drew ?_ | refine blk_alloc ?_ _)); exact BK272.out⟩, ⟨by repeat (first | (with_reducible first | exact HB.out | apply below_alloc | apply pw_below_drewN | apply below_drew1 | refine below_set ?_ GE257.out | refine below_set ?_ GE272.out) | exact HB.out)⟩⟩
       ·
        rw [if_neg c35] at H
        have c35b0 : (t271 == 0) = false := beq_eq_false_iff_ne.mpr c35
        have c35b1 : (t271 != 0) = true := bne_iff_ne.mpr c35
        have H' := Aside0.mk H
        clear H
        go_wp2
        go_meet
        case rel => exact ⟨_, (true), (by first | rfl | (simp; done) | (simp [*]; done)), H', ⟨by first | omega | exact Nat.le_refl _⟩, ⟨by (with_reducible repeat (first | refine blk_drewN ?_ _ | refine blk_drew ?_ | refine blk_alloc ?_ _)); exact BK257.out⟩, ⟨by (with_reducible repeat (first | refine blk_drewN ?_ _ | refine blk_drew ?_ | refine blk_alloc ?_ _)); exact BK272.out⟩, ⟨by repeat (first | (with_reducible first | exact HB.out | apply below_alloc | apply pw_below_drewN | apply below_drew1 | refine below_set ?_ GE257.out | refine below_set ?_ GE272.out) | exact HB.out)⟩⟩
      ·
       rw [if_neg c34] at H
       have c34b0 : (t262 == 0) = false := beq_eq_false_iff_ne.mpr c34
       have c34b1 : (t262 != 0) = true := bne_iff_ne.mpr c34
       (first | rw [c34b0] | (simp only [i64_w, i32_w]; rw [c34b0]) | skip)
       have H' := Aside0.mk H
       clear H
       go_wp2
       go_meet
       case rel => exact ⟨_, (true), (by first | rfl | (simp; done) | (simp [*]; done)), H', ⟨by first | omega | exact Nat.le_refl _⟩, ⟨by (with_reducible repeat (first | refine blk_drewN ?_ _ | refine blk_drew ?_ | refine blk_alloc ?_ _)); exact BK257.out⟩, ⟨by (with_reducible repeat (first | refine blk_drewN ?_ _ | refine blk_drew ?_ | refine blk_alloc ?_ _)); exact BK272.out⟩, ⟨by repeat (first | (with_reducible first | exact HB.out | apply below_alloc | apply pw_below_drewN | apply below_drew1 | refine below_set ?_ GE257.out | refine below_set ?_ GE272.out) | exact HB.out)⟩⟩
     case rest =>
      clear HC12
      try clear c1
      try clear hcv1
      try clear c2
      try clear p2
      try clear hcv2
      try clear c3
      try clear hcv3
      try clear c4
      try clear c4b0
      try clear c4b1
      try clear c5
      try clear c5b0
      try clear c5b1
      try clear p6
      try clear c9
      try clear c9b0
      try clear c9b1
      try clear c10
      try clear c10b0
      try clear c10b1
      try clear hcv15
      try clear hcv22
      try clear c23
      try clear c25
      try clear c26
      try clear c27
      try clear hcv32
      try clear c34
      try clear c34b0
      try clear c34b1
      try clear c35
      try clear c35b0
      try clear c35b1
      try clear c36
      try clear c36b0
      try clear c36b1
      try clear c37
      try clear c37b0
      try clear c37b1
      try clear c38
      try clear c38b0
      try clear c38b1
      try clear c39
      try clear c39b0
      try clear c39b1
      try clear c40
      try clear c42
      try clear c44
      try clear c46
      try clear c48
      try clear hcz17_0
      try clear hcz17_1
      try clear hcz17_2
      try clear hcz17_3
      try clear hcz17_4
      try clear hcz17_5
      try clear hcz17_6
      try clear hcz27_0
      try clear hcz27_1
      try clear hcz27_2
      try clear hcz27_3
      try clear hcz27_4
      try clear hcz27_5
      try clear hcz27_6
      try clear hcz41_0
      try clear hcz41_1
      try clear hcz41_2
      try clear hcz41_3
      try clear hcz41_4
      try clear hcz41_5
      try clear hcz41_6
      try clear hcz43_0
      try clear hcz43_1
      try clear hcz43_2
      try clear hcz43_3
      try clear hcz43_4
      try clear hcz43_5
      try clear hcz43_6
      try clear hcz45_0
      try clear hcz45_1
      try clear hcz45_2
      try clear hcz45_3
      try clear hcz45_4
      try clear hcz45_5
      try clear hcz45_6
      try clear hcz47_0
      try clear hcz47_1
      try clear hcz47_2
      try clear hcz47_3
      try clear hcz47_4
      try clear hcz47_5
      try clear hcz47_6
      try clear hcz49_0
      try clear hcz49_1
      try clear hcz49_2
      try clear hcz49_3
      try clear hcz49_4
      try clear hcz49_5
      try clear hcz49_6
      try clear hfz17_0
      try clear hfz17_1
      try clear hfz17_2
      try clear hfz17_3
      try clear hfz17_4
      try clear hfz17_5
      try clear hfz17_6
      try clear hfz27_0
      try clear hfz27_1
      try clear hfz27_2
      try clear hfz27_3
      try clear hfz27_4
      try clear hfz27_5
      try clear hfz27_6
      try clear hfz41_0
      try clear hfz41_1
      try clear hfz41_2
      try clear hfz41_3
      try clear hfz41_4
      try clear hfz41_5
      try clear hfz41_6
      try clear hfz43_0
      try clear hfz43_1
      try clear hfz43_2
      try clear hfz43_3
      try clear hfz43_4
      try clear hfz43_5
      try clear hfz43_6
      try clear hfz45_0
      try clear hfz45_1
      try clear hfz45_2
      try clear hfz45_3
      try clear hfz45_4
      try clear hfz45_5
      try clear hfz45_6
      try clear hfz47_0
      try clear hfz47_1
      try clear hfz47_2
      try clear hfz47_3
      try clear hfz47_4
      try clear hfz47_5
      try clear hfz47_6
      try clear hfz49_0
      try clear hfz49_1
      try clear hfz49_2
      try clear hfz49_3
      try clear hfz49_4
      try clear hfz49_5
      try clear hfz49_6
      obtain ⟨kq, x74_11, rfl, HA, HJ11, BK257, BK272, HB⟩ := hcut
      cases kq with
      | zero => exact absurd HA.out (by simp [rampartlaw04_TcpEdges.j0])
      | succ kj11 =>
       have H := HA.out
       clear HA
       simp only [rampartlaw04_TcpEdges.j0] at H
       by_cases c50 : x74_11 = true
       ·
        subst c50
        have H1 : (some false) = some r := by rw [if_pos rfl] at H; exact H
        clear H
        have H := H1
        clear H1
        exact absurd ((Option.some.inj H).trans HR.out) (by decide)
       ·
        replace c50 := Bool.eq_false_iff.mpr c50
        subst c50
        have H1 : ((rampartlaw00_Place.f a0 6).bind fun t278 => (if t278 = 0 then ((tcp_Put.f kj11 9 8 (wrap64 (65535 + (wrap64 (1 + t253)))) 65535 4294967295 4294967295 63 65535 (strOfNums y254) (⟨#[]⟩ : ByteArray)).bind fun bt279 => (if bt279.1.toList = ([] : List UInt8) then (if bt279.2 = 1 then ((tcp_Check.f (wrap64 (65535 + (wrap64 (1 + t253)))) 65535 4294967295 4294967295 63 65535 (strOfNums y254)).bind fun t281 => (if t281 = true then (some false) else ((rampartlaw04_awake.f kj11).bind fun t282 => (some t282)))) else (some false)) else (some false))) else (if t278 = 1 then ((tcp_Put.f kj11 9 8 65535 (wrap64 (-(wrap64 (1 + t253)))) 4294967295 4294967295 63 65535 (strOfNums y254) (⟨#[]⟩ : ByteArray)).bind fun bt283 => (if bt283.1.toList = ([] : List UInt8) then (if bt283.2 = 1 then ((tcp_Check.f 65535 (wrap64 (-(wrap64 (1 + t253)))) 4294967295 4294967295 63 65535 (strOfNums y254)).bind fun t285 => (if t285 = true then (some false) else ((rampartlaw04_awake.f kj11).bind fun t286 => (some t286)))) else (some false)) else (some false))) else (if t278 = 2 then ((tcp_Put.f kj11 9 8 65535 65535 4294967295 4294967295 (wrap64 (63 + (wrap64 (1 + t253)))) 65535 (strOfNums y254) (⟨#[]⟩ : ByteArray)).bind fun bt287 => (if bt287.1.toList = ([] : List UInt8) then (if bt287.2 = 1 then ((tcp_Check.f 65535 65535 4294967295 4294967295 (wrap64 (63 + (wrap64 (1 + t253)))) 65535 (strOfNums y254)).bind fun t289 => (if t289 = true then (some false) else ((rampartlaw04_awake.f kj11).bind fun t290 => (some t290)))) else (some false)) else (some false))) else (if t278 = 3 then ((tcp_Put.f kj11 9 8 65535 65535 4294967295 4294967295 63 (wrap64 (65535 + (wrap64 (1 + t253)))) (strOfNums y254) (⟨#[]⟩ : ByteArray)).bind fun bt291 => (if bt291.1.toList = ([] : List UInt8) then (if bt291.2 = 1 then ((tcp_Check.f 65535 65535 4294967295 4294967295 63 (wrap64 (65535 + (wrap64 (1 + t253)))) (strOfNums y254)).bind fun t293 => (if t293 = true then (some false) else ((rampartlaw04_awake.f kj11).bind fun t294 => (some t294)))) else (some false)) else (some false))) else (if t278 = 4 then (if (strOfNums y254).size + 4 ≤ 9223372036854775807 then ((tcp_Put.f kj11 9 8 65535 65535 4294967295 4294967295 63 65535 ((strOfNums y254) ++ (⟨#[49, 50, 51, 52]⟩ : ByteArray)) (⟨#[]⟩ : ByteArray)).bind fun bt295 => (if bt295.1.toList = ([] : List UInt8) then (if bt295.2 = 1 then ((tcp_Check.f 65535 65535 4294967295 4294967295 63 65535 ((strOfNums y254) ++ (⟨#[49, 50, 51, 52]⟩ : ByteArray))).bind fun t297 => (if t297 = true then (some false) else ((rampartlaw04_awake.f kj11).bind fun t298 => (some t298)))) else (some false)) else (some false))) else (none)) else (if 0 ≤ (wrap64 (1 + (Int.tmod (wrap64 (1 + t253)) 3))) then (if (wrap64 (1 + (Int.tmod (wrap64 (1 + t253)) 3))) ≤ 5 then ((tcp_Put.f kj11 9 8 65535 65535 4294967295 4294967295 63 65535 ((⟨#[49, 50, 51, 52, 53]⟩ : ByteArray).extract 0 ((wrap64 (1 + (Int.tmod (wrap64 (1 + t253)) 3))) : Int).toNat) (⟨#[]⟩ : ByteArray)).bind fun bt299 => (if bt299.1.toList = ([] : List UInt8) then (if bt299.2 = 1 then ((tcp_Check.f 65535 65535 4294967295 4294967295 63 65535 ((⟨#[49, 50, 51, 52, 53]⟩ : ByteArray).extract 0 ((wrap64 (1 + (Int.tmod (wrap64 (1 + t253)) 3))) : Int).toNat)).bind fun t301 => (if t301 = true then (some false) else ((rampartlaw04_awake.f kj11).bind fun t302 => (some t302)))) else (some false)) else (some false))) else (none)) else (none)))))))) = some r := by rw [if_neg (show ¬ (false = true) by decide)] at H; exact H
        clear H
        have H := H1
        clear H1
        replace H := Option.bind_eq_some_iff.mp H
        obtain ⟨t278, A510, H⟩ := H
        replace H : (if t278 = 0 then ((tcp_Put.f kj11 9 8 (wrap64 (65535 + (wrap64 (1 + t253)))) 65535 4294967295 4294967295 63 65535 (strOfNums y254) (⟨#[]⟩ : ByteArray)).bind fun bt279 => (if bt279.1.toList = ([] : List UInt8) then (if bt279.2 = 1 then ((tcp_Check.f (wrap64 (65535 + (wrap64 (1 + t253)))) 65535 4294967295 4294967295 63 65535 (strOfNums y254)).bind fun t281 => (if t281 = true then (some false) else ((rampartlaw04_awake.f kj11).bind fun t282 => (some t282)))) else (some false)) else (some false))) else (if t278 = 1 then ((tcp_Put.f kj11 9 8 65535 (wrap64 (-(wrap64 (1 + t253)))) 4294967295 4294967295 63 65535 (strOfNums y254) (⟨#[]⟩ : ByteArray)).bind fun bt283 => (if bt283.1.toList = ([] : List UInt8) then (if bt283.2 = 1 then ((tcp_Check.f 65535 (wrap64 (-(wrap64 (1 + t253)))) 4294967295 4294967295 63 65535 (strOfNums y254)).bind fun t285 => (if t285 = true then (some false) else ((rampartlaw04_awake.f kj11).bind fun t286 => (some t286)))) else (some false)) else (some false))) else (if t278 = 2 then ((tcp_Put.f kj11 9 8 65535 65535 4294967295 4294967295 (wrap64 (63 + (wrap64 (1 + t253)))) 65535 (strOfNums y254) (⟨#[]⟩ : ByteArray)).bind fun bt287 => (if bt287.1.toList = ([] : List UInt8) then (if bt287.2 = 1 then ((tcp_Check.f 65535 65535 4294967295 4294967295 (wrap64 (63 + (wrap64 (1 + t253)))) 65535 (strOfNums y254)).bind fun t289 => (if t289 = true then (some false) else ((rampartlaw04_awake.f kj11).bind fun t290 => (some t290)))) else (some false)) else (some false))) else (if t278 = 3 then ((tcp_Put.f kj11 9 8 65535 65535 4294967295 4294967295 63 (wrap64 (65535 + (wrap64 (1 + t253)))) (strOfNums y254) (⟨#[]⟩ : ByteArray)).bind fun bt291 => (if bt291.1.toList = ([] : List UInt8) then (if bt291.2 = 1 then ((tcp_Check.f 65535 65535 4294967295 4294967295 63 (wrap64 (65535 + (wrap64 (1 + t253)))) (strOfNums y254)).bind fun t293 => (if t293 = true then (some false) else ((rampartlaw04_awake.f kj11).bind fun t294 => (some t294)))) else (some false)) else (some false))) else (if t278 = 4 then (if (strOfNums y254).size + 4 ≤ 9223372036854775807 then ((tcp_Put.f kj11 9 8 65535 65535 4294967295 4294967295 63 65535 ((strOfNums y254) ++ (⟨#[49, 50, 51, 52]⟩ : ByteArray)) (⟨#[]⟩ : ByteArray)).bind fun bt295 => (if bt295.1.toList = ([] : List UInt8) then (if bt295.2 = 1 then ((tcp_Check.f 65535 65535 4294967295 4294967295 63 65535 ((strOfNums y254) ++ (⟨#[49, 50, 51, 52]⟩ : ByteArray))).bind fun t297 => (if t297 = true then (some false) else ((rampartlaw04_awake.f kj11).bind fun t298 => (some t298)))) else (some false)) else (some false))) else (none)) else (if 0 ≤ (wrap64 (1 + (Int.tmod (wrap64 (1 + t253)) 3))) then (if (wrap64 (1 + (Int.tmod (wrap64 (1 + t253)) 3))) ≤ 5 then ((tcp_Put.f kj11 9 8 65535 65535 4294967295 4294967295 63 65535 ((⟨#[49, 50, 51, 52, 53]⟩ : ByteArray).extract 0 ((wrap64 (1 + (Int.tmod (wrap64 (1 + t253)) 3))) : Int).toNat) (⟨#[]⟩ : ByteArray)).bind fun bt299 => (if bt299.1.toList = ([] : List UInt8) then (if bt299.2 = 1 then ((tcp_Check.f 65535 65535 4294967295 4294967295 63 65535 ((⟨#[49, 50, 51, 52, 53]⟩ : ByteArray).extract 0 ((wrap64 (1 + (Int.tmod (wrap64 (1 + t253)) 3))) : Int).toNat)).bind fun t301 => (if t301 = true then (some false) else ((rampartlaw04_awake.f kj11).bind fun t302 => (some t302)))) else (some false)) else (some false))) else (none)) else (none))))))) = some r := H
        have A51 := Aside0.mk A510
        clear A510
        by_cases c52 : t278 = 0
        ·
         rw [if_pos c52] at H
         have c52b0 : (t278 == 0) = true := beq_iff_eq.mpr c52
         have c52b1 : (t278 != 0) = false := bne_eq_false_iff_eq.mpr c52
         clear c52
         replace H := Option.bind_eq_some_iff.mp H
         obtain ⟨⟨t279, t280⟩, A530, H⟩ := H
         replace H : (if t279.toList = ([] : List UInt8) then (if t280 = 1 then ((tcp_Check.f (wrap64 (65535 + (wrap64 (1 + t253)))) 65535 4294967295 4294967295 63 65535 (strOfNums y254)).bind fun t281 => (if t281 = true then (some false) else ((rampartlaw04_awake.f kj11).bind fun t282 => (some t282)))) else (some false)) else (some false)) = some r := H
         have A53 := Aside0.mk A530
         clear A530
         by_cases c54 : t279.toList = ([] : List UInt8)
         ·
          rw [if_pos c54] at H
          have c54b0 : (t279.toList == ([] : List UInt8)) = true := beq_iff_eq.mpr c54
          have c54b1 : (t279.toList != ([] : List UInt8)) = false := bne_eq_false_iff_eq.mpr c54
          clear c54
          by_cases c55 : t280 = 1
          ·
           rw [if_pos c55] at H
           have c55b0 : (t280 == 1) = true := beq_iff_eq.mpr c55
           have c55b1 : (t280 != 1) = false := bne_eq_false_iff_eq.mpr c55
           clear c55
           replace H := Option.bind_eq_some_iff.mp H
           obtain ⟨t281, A560, H⟩ := H
           replace H : (if t281 = true then (some false) else ((rampartlaw04_awake.f kj11).bind fun t282 => (some t282))) = some r := H
           have A56 := Aside0.mk A560
           clear A560
           by_cases c57 : t281 = true
           ·
            subst c57
            have H1 : (some false) = some r := by rw [if_pos rfl] at H; exact H
            clear H
            have H := H1
            clear H1
            exact absurd ((Option.some.inj H).trans HR.out) (by decide)
           ·
            replace c57 := Bool.eq_false_iff.mpr c57
            subst c57
            have H1 : ((rampartlaw04_awake.f kj11).bind fun t282 => (some t282)) = some r := by rw [if_neg (show ¬ (false = true) by decide)] at H; exact H
            clear H
            have H := H1
            clear H1
            replace H := Option.bind_eq_some_iff.mp H
            obtain ⟨t282, A580, H⟩ := H
            replace H : (some t282) = some r := H
            have A58 := Aside0.mk A580
            clear A580
            obtain rfl := Option.some.inj H
            go_wp2_with (first | ((with_reducible refine gate_callee (f := 23) rfl ?_); refine goesL_ (some 76) rfl rfl Try.func23 (by kernel_rfl) rfl #[.int .i64 a0, .int .i64 6] rfl (by (try simp only [List.map_toArray, List.map_cons, List.map_nil]); first | done | rfl | (simp only [List.length_drop, List.length_take]; rfl)) ?_; (with_reducible refine (rampartlaw00_Place.calls a0 6 t278 _ A51.out).mono ?_); rintro e w' ⟨rfl, ⟨nd, rfl⟩⟩; refine ⟨_, rfl, ?_⟩; (try (rw [drewN_self wc]; generalize hq_ : World.drewN wc _ = wc; have n0_ : Aside0 (wc.heap[gb257]? = some (.cells #[.int .i64 65535, .int .i64 65535, .int .u32 4294967295, .int .u32 4294967295, .int .i64 63, .int .i64 65535, .string (strOfNums y254)] 42 (0, 0))) := ⟨by rw [← hq_]; exact (by (with_reducible repeat (first | refine blk_drewN ?_ _ | refine blk_drew ?_ | refine blk_alloc ?_ _)); exact BK257.out)⟩; have n1_ : Aside0 (wc.heap[gb272]? = some (.cells #[.int .i64 t263, .int .i64 t264, .int .u32 t265, .int .u32 t266, .int .i64 t267, .int .i64 t268, .string t269] 42 (0, 0))) := ⟨by rw [← hq_]; exact (by (with_reducible repeat (first | refine blk_drewN ?_ _ | refine blk_drew ?_ | refine blk_alloc ?_ _)); exact BK272.out)⟩; have n2_ : Aside0 (Below w.heap.size w wc) := ⟨by rw [← hq_]; exact (by repeat (first | (with_reducible first | exact HB.out | apply below_alloc | apply pw_below_drewN | apply below_drew1 | refine below_set ?_ GE257.out | refine below_set ?_ GE272.out) | exact HB.out))⟩; clear BK257 BK272 HB hq_; have BK257 := n0_; have BK272 := n1_; have HB := n2_; clear n0_ n1_ n2_)); have hnb59 := NB257_272.out; have hnc59 := NB272_257.out; have hcz60_0 : wc.cell? ⟨gb257, 0, none⟩ = some (.int .i64 65535) := (blk_cell BK257.out 0).trans rfl; have hcz60_1 : wc.cell? ⟨gb257, 1, none⟩ = some (.int .i64 65535) := (blk_cell BK257.out 1).trans rfl; have hcz60_2 : wc.cell? ⟨gb257, 2, none⟩ = some (.int .u32 4294967295) := (blk_cell BK257.out 2).trans rfl; have hcz60_3 : wc.cell? ⟨gb257, 3, none⟩ = some (.int .u32 4294967295) := (blk_cell BK257.out 3).trans rfl; have hcz60_4 : wc.cell? ⟨gb257, 4, none⟩ = some (.int .i64 63) := (blk_cell BK257.out 4).trans rfl; have hcz60_5 : wc.cell? ⟨gb257, 5, none⟩ = some (.int .i64 65535) := (blk_cell BK257.out 5).trans rfl; have hcz60_6 : wc.cell? ⟨gb257, 6, none⟩ = some (.string (strOfNums y254)) := (blk_cell BK257.out 6).trans rfl; have hfz60_0 := blk_frozen BK257.out 0; have hfz60_1 := blk_frozen BK257.out 1; have hfz60_2 := blk_frozen BK257.out 2; have hfz60_3 := blk_frozen BK257.out 3; have hfz60_4 := blk_frozen BK257.out 4; have hfz60_5 := blk_frozen BK257.out 5; have hfz60_6 := blk_frozen BK257.out 6) | ((with_reducible refine gate_callee (f := 25) rfl ?_); refine goesL_ (some 110) rfl rfl Try.func25 (by kernel_rfl) rfl #[.int .u32 9, .int .u32 8, .agg #[.int .i64 (wrap64 (65535 + (wrap64 (1 + t253)))), .int .i64 65535, .int .u32 4294967295, .int .u32 4294967295, .int .i64 63, .int .i64 65535, .string (strOfNums y254)], .string (⟨#[]⟩ : ByteArray)] rfl (by (try simp only [List.map_toArray, List.map_cons, List.map_nil]); first | done | rfl | (simp only [List.length_drop, List.length_take]; rfl)) ?_; (with_reducible refine (tcp_Put.calls kj11 9 8 (wrap64 (65535 + (wrap64 (1 + t253)))) 65535 4294967295 4294967295 63 65535 (strOfNums y254) (⟨#[]⟩ : ByteArray) t279 t280 _ A53.out).mono ?_); rintro e w61 ⟨rfl, hb⟩; refine ⟨_, rfl, ?_⟩; have n0_ := Aside0.mk (blk_below (g := gb257) (o := .cells #[.int .i64 (wrap64 (65535 + (wrap64 (1 + t253)))), .int .i64 65535, .int .u32 4294967295, .int .u32 4294967295, .int .i64 63, .int .i64 65535, .string (strOfNums y254)] 42 (0, 0)) (by (with_reducible repeat (first | refine blk_drewN ?_ _ | refine blk_drew ?_ | refine blk_alloc ?_ _)); refine blk_put (cs := #[.int .i64 65535, .int .i64 65535, .int .u32 4294967295, .int .u32 4294967295, .int .i64 63, .int .i64 65535, .string (strOfNums y254)]) ?_ 0 _ rfl; (with_reducible repeat (first | refine blk_drewN ?_ _ | refine blk_drew ?_ | refine blk_alloc ?_ _)); exact BK257.out) hb); have n1_ := Aside0.mk (blk_below (g := gb272) (o := .cells #[.int .i64 t263, .int .i64 t264, .int .u32 t265, .int .u32 t266, .int .i64 t267, .int .i64 t268, .string t269] 42 (0, 0)) (by (with_reducible repeat (first | refine blk_drewN ?_ _ | refine blk_drew ?_ | refine blk_alloc ?_ _)); refine blk_far ?_ NB272_257.out _; (with_reducible repeat (first | refine blk_drewN ?_ _ | refine blk_drew ?_ | refine blk_alloc ?_ _)); exact BK272.out) hb); have n2_ := Aside0.mk (below_step (by repeat (first | (with_reducible first | exact HB.out | apply below_alloc | apply pw_below_drewN | apply below_drew1 | refine below_set ?_ GE257.out | refine below_set ?_ GE272.out) | exact HB.out)) hb); clear BK257; clear BK272; clear HB; have BK257 := n0_; have BK272 := n1_; have HB := n2_; clear n0_ n1_ n2_; (try clear hb); (try clear hb2); (try clear hk); (try clear hi); have hcz62_0 : w61.cell? ⟨gb257, 0, none⟩ = some (.int .i64 (wrap64 (65535 + (wrap64 (1 + t253))))) := (blk_cell BK257.out 0).trans rfl; have hcz62_1 : w61.cell? ⟨gb257, 1, none⟩ = some (.int .i64 65535) := (blk_cell BK257.out 1).trans rfl; have hcz62_2 : w61.cell? ⟨gb257, 2, none⟩ = some (.int .u32 4294967295) := (blk_cell BK257.out 2).trans rfl; have hcz62_3 : w61.cell? ⟨gb257, 3, none⟩ = some (.int .u32 4294967295) := (blk_cell BK257.out 3).trans rfl; have hcz62_4 : w61.cell? ⟨gb257, 4, none⟩ = some (.int .i64 63) := (blk_cell BK257.out 4).trans rfl; have hcz62_5 : w61.cell? ⟨gb257, 5, none⟩ = some (.int .i64 65535) := (blk_cell BK257.out 5).trans rfl; have hcz62_6 : w61.cell? ⟨gb257, 6, none⟩ = some (.string (strOfNums y254)) := (blk_cell BK257.out 6).trans rfl; have hfz62_0 := blk_frozen BK257.out 0; have hfz62_1 := blk_frozen BK257.out 1; have hfz62_2 := blk_frozen BK257.out 2; have hfz62_3 := blk_frozen BK257.out 3; have hfz62_4 := blk_frozen BK257.out 4; have hfz62_5 := blk_frozen BK257.out 5; have hfz62_6 := blk_frozen BK257.out 6) | (go_at_call 29; (with_reducible refine (tcp_Check.calls (wrap64 (65535 + (wrap64 (1 + t253)))) 65535 4294967295 4294967295 63 65535 (strOfNums y254) false _ A56.out).mono ?_); rintro e w63 ⟨rfl, hb⟩; have n0_ := Aside0.mk (blk_below (g := gb257) (o := .cells #[.int .i64 (wrap64 (65535 + (wrap64 (1 + t253)))), .int .i64 65535, .int .u32 4294967295, .int .u32 4294967295, .int .i64 63, .int .i64 65535, .string (strOfNums y254)] 42 (0, 0)) (by (with_reducible repeat (first | refine blk_drewN ?_ _ | refine blk_drew ?_ | refine blk_alloc ?_ _)); exact BK257.out) hb); have n1_ := Aside0.mk (blk_below (g := gb272) (o := .cells #[.int .i64 t263, .int .i64 t264, .int .u32 t265, .int .u32 t266, .int .i64 t267, .int .i64 t268, .string t269] 42 (0, 0)) (by (with_reducible repeat (first | refine blk_drewN ?_ _ | refine blk_drew ?_ | refine blk_alloc ?_ _)); exact BK272.out) hb); have n2_ := Aside0.mk (below_step (by repeat (first | (with_reducible first | exact HB.out | apply below_alloc | apply pw_below_drewN | apply below_drew1 | refine below_set ?_ GE257.out | refine below_set ?_ GE272.out) | exact HB.out)) hb); clear BK257; clear BK272; clear HB; have BK257 := n0_; have BK272 := n1_; have HB := n2_; clear n0_ n1_ n2_; (try clear hb); (try clear hb2); (try clear hk); (try clear hi)) | (go_at_call 24; (with_reducible refine (rampartlaw04_awake.calls kj11  t282 _ A58.out).mono ?_); rintro e w64 ⟨rfl, hb⟩; have n0_ := Aside0.mk (blk_below (g := gb257) (o := .cells #[.int .i64 (wrap64 (65535 + (wrap64 (1 + t253)))), .int .i64 65535, .int .u32 4294967295, .int .u32 4294967295, .int .i64 63, .int .i64 65535, .string (strOfNums y254)] 42 (0, 0)) (by (with_reducible repeat (first | refine blk_drewN ?_ _ | refine blk_drew ?_ | refine blk_alloc ?_ _)); exact BK257.out) hb); have n1_ := Aside0.mk (blk_below (g := gb272) (o := .cells #[.int .i64 t263, .int .i64 t264, .int .u32 t265, .int .u32 t266, .int .i64 t267, .int .i64 t268, .string t269] 42 (0, 0)) (by (with_reducible repeat (first | refine blk_drewN ?_ _ | refine blk_drew ?_ | refine blk_alloc ?_ _)); exact BK272.out) hb); have n2_ := Aside0.mk (below_step (by repeat (first | (with_reducible first | exact HB.out | apply below_alloc | apply pw_below_drewN | apply below_drew1 | refine below_set ?_ GE257.out | refine below_set ?_ GE272.out) | exact HB.out)) hb); clear BK257; clear BK272; clear HB; have BK257 := n0_; have BK272 := n1_; have HB := n2_; clear n0_ n1_ n2_; (try clear hb); (try clear hb2); (try clear hk); (try clear hi)))
            go_ret
            exact ⟨by first | rfl | (simp [errW_none, errW_some] <;> rfl) | (simp only [← hji8]; first | rfl | (simp [errW_none, errW_some] <;> rfl)) | (simp [*, errW_none, errW_some] <;> rfl), by repeat (first | (with_reducible first | exact HB.out | apply below_alloc | apply pw_below_drewN | apply below_drew1 | refine below_set ?_ GE257.out | refine below_set ?_ GE272.out) | exact HB.out)⟩
          ·
           rw [if_neg c55] at H
           have c55b0 : (t280 == 1) = false := beq_eq_false_iff_ne.mpr c55
           have c55b1 : (t280 != 1) = true := bne_iff_ne.mpr c55
           exact absurd ((Option.some.inj H).trans HR.out) (by decide)
         ·
          rw [if_neg c54] at H
          have c54b0 : (t279.toList == ([] : List UInt8)) = false := beq_eq_false_iff_ne.mpr c54
          have c54b1 : (t279.toList != ([] : List UInt8)) = true := bne_iff_ne.mpr c54
          exact absurd ((Option.some.inj H).trans HR.out) (by decide)
        ·
         rw [if_neg c52] at H
         have c52b0 : (t278 == 0) = false := beq_eq_false_iff_ne.mpr c52
         have c52b1 : (t278 != 0) = true := bne_iff_ne.mpr c52
         by_cases c65 : t278 = 1
         ·
          rw [if_pos c65] at H
          have c65b0 : (t278 == 1) = true := beq_iff_eq.mpr c65
          have c65b1 : (t278 != 1) = false := bne_eq_false_iff_eq.mpr c65
          clear c65
          replace H := Option.bind_eq_some_iff.mp H
          obtain ⟨⟨t283, t284⟩, A660, H⟩ := H
          replace H : (if t283.toList = ([] : List UInt8) then (if t284 = 1 then ((tcp_Check.f 65535 (wrap64 (-(wrap64 (1 + t253)))) 4294967295 4294967295 63 65535 (strOfNums y254)).bind fun t285 => (if t285 = true then (some false) else ((rampartlaw04_awake.f kj11).bind fun t286 => (some t286)))) else (some false)) else (some false)) = some r := H
          have A66 := Aside0.mk A660
          clear A660
          by_cases c67 : t283.toList = ([] : List UInt8)
          ·
           rw [if_pos c67] at H
           have c67b0 : (t283.toList == ([] : List UInt8)) = true := beq_iff_eq.mpr c67
           have c67b1 : (t283.toList != ([] : List UInt8)) = false := bne_eq_false_iff_eq.mpr c67
           clear c67
           by_cases c68 : t284 = 1
           ·
            rw [if_pos c68] at H
            have c68b0 : (t284 == 1) = true := beq_iff_eq.mpr c68
            have c68b1 : (t284 != 1) = false := bne_eq_false_iff_eq.mpr c68
            clear c68
            replace H := Option.bind_eq_some_iff.mp H
            obtain ⟨t285, A690, H⟩ := H
            replace H : (if t285 = true then (some false) else ((rampartlaw04_awake.f kj11).bind fun t286 => (some t286))) = some r := H
            have A69 := Aside0.mk A690
            clear A690
            by_cases c70 : t285 = true
            ·
             subst c70
             have H1 : (some false) = some r := by rw [if_pos rfl] at H; exact H
             clear H
             have H := H1
             clear H1
             exact absurd ((Option.some.inj H).trans HR.out) (by decide)
            ·
             replace c70 := Bool.eq_false_iff.mpr c70
             subst c70
             have H1 : ((rampartlaw04_awake.f kj11).bind fun t286 => (some t286)) = some r := by rw [if_neg (show ¬ (false = true) by decide)] at H; exact H
             clear H
             have H := H1
             clear H1
             replace H := Option.bind_eq_some_iff.mp H
             obtain ⟨t286, A710, H⟩ := H
             replace H : (some t286) = some r := H
             have A71 := Aside0.mk A710
             clear A710
             obtain rfl := Option.some.inj H
             go_wp2_with (first | ((with_reducible refine gate_callee (f := 23) rfl ?_); refine goesL_ (some 76) rfl rfl Try.func23 (by kernel_rfl) rfl #[.int .i64 a0, .int .i64 6] rfl (by (try simp only [List.map_toArray, List.map_cons, List.map_nil]); first | done | rfl | (simp only [List.length_drop, List.length_take]; rfl)) ?_; (with_reducible refine (rampartlaw00_Place.calls a0 6 t278 _ A51.out).mono ?_); rintro e w' ⟨rfl, ⟨nd, rfl⟩⟩; refine ⟨_, rfl, ?_⟩; (try (rw [drewN_self wc]; generalize hq_ : World.drewN wc _ = wc; have n0_ : Aside0 (wc.heap[gb257]? = some (.cells #[.int .i64 65535, .int .i64 65535, .int .u32 4294967295, .int .u32 4294967295, .int .i64 63, .int .i64 65535, .string (strOfNums y254)] 42 (0, 0))) := ⟨by rw [← hq_]; exact (by (with_reducible repeat (first | refine blk_drewN ?_ _ | refine blk_drew ?_ | refine blk_alloc ?_ _)); exact BK257.out)⟩; have n1_ : Aside0 (wc.heap[gb272]? = some (.cells #[.int .i64 t263, .int .i64 t264, .int .u32 t265, .int .u32 t266, .int .i64 t267, .int .i64 t268, .string t269] 42 (0, 0))) := ⟨by rw [← hq_]; exact (by (with_reducible repeat (first | refine blk_drewN ?_ _ | refine blk_drew ?_ | refine blk_alloc ?_ _)); exact BK272.out)⟩; have n2_ : Aside0 (Below w.heap.size w wc) := ⟨by rw [← hq_]; exact (by repeat (first | (with_reducible first | exact HB.out | apply below_alloc | apply pw_below_drewN | apply below_drew1 | refine below_set ?_ GE257.out | refine below_set ?_ GE272.out) | exact HB.out))⟩; clear BK257 BK272 HB hq_; have BK257 := n0_; have BK272 := n1_; have HB := n2_; clear n0_ n1_ n2_)); have hnb72 := NB257_272.out; have hnc72 := NB272_257.out; have hcz73_0 : wc.cell? ⟨gb257, 0, none⟩ = some (.int .i64 65535) := (blk_cell BK257.out 0).trans rfl; have hcz73_1 : wc.cell? ⟨gb257, 1, none⟩ = some (.int .i64 65535) := (blk_cell BK257.out 1).trans rfl; have hcz73_2 : wc.cell? ⟨gb257, 2, none⟩ = some (.int .u32 4294967295) := (blk_cell BK257.out 2).trans rfl; have hcz73_3 : wc.cell? ⟨gb257, 3, none⟩ = some (.int .u32 4294967295) := (blk_cell BK257.out 3).trans rfl; have hcz73_4 : wc.cell? ⟨gb257, 4, none⟩ = some (.int .i64 63) := (blk_cell BK257.out 4).trans rfl; have hcz73_5 : wc.cell? ⟨gb257, 5, none⟩ = some (.int .i64 65535) := (blk_cell BK257.out 5).trans rfl; have hcz73_6 : wc.cell? ⟨gb257, 6, none⟩ = some (.string (strOfNums y254)) := (blk_cell BK257.out 6).trans rfl; have hfz73_0 := blk_frozen BK257.out 0; have hfz73_1 := blk_frozen BK257.out 1; have hfz73_2 := blk_frozen BK257.out 2; have hfz73_3 := blk_frozen BK257.out 3; have hfz73_4 := blk_frozen BK257.out 4; have hfz73_5 := blk_frozen BK257.out 5; have hfz73_6 := blk_frozen BK257.out 6) | ((with_reducible refine gate_callee (f := 25) rfl ?_); refine goesL_ (some 110) rfl rfl Try.func25 (by kernel_rfl) rfl #[.int .u32 9, .int .u32 8, .agg #[.int .i64 65535, .int .i64 (wrap64 (-(wrap64 (1 + t253)))), .int .u32 4294967295, .int .u32 4294967295, .int .i64 63, .int .i64 65535, .string (strOfNums y254)], .string (⟨#[]⟩ : ByteArray)] rfl (by (try simp only [List.map_toArray, List.map_cons, List.map_nil]); first | done | rfl | (simp only [List.length_drop, List.length_take]; rfl)) ?_; (with_reducible refine (tcp_Put.calls kj11 9 8 65535 (wrap64 (-(wrap64 (1 + t253)))) 4294967295 4294967295 63 65535 (strOfNums y254) (⟨#[]⟩ : ByteArray) t283 t284 _ A66.out).mono ?_); rintro e w74 ⟨rfl, hb⟩; refine ⟨_, rfl, ?_⟩; have n0_ := Aside0.mk (blk_below (g := gb257) (o := .cells #[.int .i64 65535, .int .i64 (wrap64 (-(wrap64 (1 + t253)))), .int .u32 4294967295, .int .u32 4294967295, .int .i64 63, .int .i64 65535, .string (strOfNums y254)] 42 (0, 0)) (by (with_reducible repeat (first | refine blk_drewN ?_ _ | refine blk_drew ?_ | refine blk_alloc ?_ _)); refine blk_put (cs := #[.int .i64 65535, .int .i64 65535, .int .u32 4294967295, .int .u32 4294967295, .int .i64 63, .int .i64 65535, .string (strOfNums y254)]) ?_ 1 _ rfl; (with_reducible repeat (first | refine blk_drewN ?_ _ | refine blk_drew ?_ | refine blk_alloc ?_ _)); exact BK257.out) hb); have n1_ := Aside0.mk (blk_below (g := gb272) (o := .cells #[.int .i64 t263, .int .i64 t264, .int .u32 t265, .int .u32 t266, .int .i64 t267, .int .i64 t268, .string t269] 42 (0, 0)) (by (with_reducible repeat (first | refine blk_drewN ?_ _ | refine blk_drew ?_ | refine blk_alloc ?_ _)); refine blk_far ?_ NB272_257.out _; (with_reducible repeat (first | refine blk_drewN ?_ _ | refine blk_drew ?_ | refine blk_alloc ?_ _)); exact BK272.out) hb); have n2_ := Aside0.mk (below_step (by repeat (first | (with_reducible first | exact HB.out | apply below_alloc | apply pw_below_drewN | apply below_drew1 | refine below_set ?_ GE257.out | refine below_set ?_ GE272.out) | exact HB.out)) hb); clear BK257; clear BK272; clear HB; have BK257 := n0_; have BK272 := n1_; have HB := n2_; clear n0_ n1_ n2_; (try clear hb); (try clear hb2); (try clear hk); (try clear hi); have hcz75_0 : w74.cell? ⟨gb257, 0, none⟩ = some (.int .i64 65535) := (blk_cell BK257.out 0).trans rfl; have hcz75_1 : w74.cell? ⟨gb257, 1, none⟩ = some (.int .i64 (wrap64 (-(wrap64 (1 + t253))))) := (blk_cell BK257.out 1).trans rfl; have hcz75_2 : w74.cell? ⟨gb257, 2, none⟩ = some (.int .u32 4294967295) := (blk_cell BK257.out 2).trans rfl; have hcz75_3 : w74.cell? ⟨gb257, 3, none⟩ = some (.int .u32 4294967295) := (blk_cell BK257.out 3).trans rfl; have hcz75_4 : w74.cell? ⟨gb257, 4, none⟩ = some (.int .i64 63) := (blk_cell BK257.out 4).trans rfl; have hcz75_5 : w74.cell? ⟨gb257, 5, none⟩ = some (.int .i64 65535) := (blk_cell BK257.out 5).trans rfl; have hcz75_6 : w74.cell? ⟨gb257, 6, none⟩ = some (.string (strOfNums y254)) := (blk_cell BK257.out 6).trans rfl; have hfz75_0 := blk_frozen BK257.out 0; have hfz75_1 := blk_frozen BK257.out 1; have hfz75_2 := blk_frozen BK257.out 2; have hfz75_3 := blk_frozen BK257.out 3; have hfz75_4 := blk_frozen BK257.out 4; have hfz75_5 := blk_frozen BK257.out 5; have hfz75_6 := blk_frozen BK257.out 6) | (go_at_call 29; (with_reducible refine (tcp_Check.calls 65535 (wrap64 (-(wrap64 (1 + t253)))) 4294967295 4294967295 63 65535 (strOfNums y254) false _ A69.out).mono ?_); rintro e w76 ⟨rfl, hb⟩; have n0_ := Aside0.mk (blk_below (g := gb257) (o := .cells #[.int .i64 65535, .int .i64 (wrap64 (-(wrap64 (1 + t253)))), .int .u32 4294967295, .int .u32 4294967295, .int .i64 63, .int .i64 65535, .string (strOfNums y254)] 42 (0, 0)) (by (with_reducible repeat (first | refine blk_drewN ?_ _ | refine blk_drew ?_ | refine blk_alloc ?_ _)); exact BK257.out) hb); have n1_ := Aside0.mk (blk_below (g := gb272) (o := .cells #[.int .i64 t263, .int .i64 t264, .int .u32 t265, .int .u32 t266, .int .i64 t267, .int .i64 t268, .string t269] 42 (0, 0)) (by (with_reducible repeat (first | refine blk_drewN ?_ _ | refine blk_drew ?_ | refine blk_alloc ?_ _)); exact BK272.out) hb); have n2_ := Aside0.mk (below_step (by repeat (first | (with_reducible first | exact HB.out | apply below_alloc | apply pw_below_drewN | apply below_drew1 | refine below_set ?_ GE257.out | refine below_set ?_ GE272.out) | exact HB.out)) hb); clear BK257; clear BK272; clear HB; have BK257 := n0_; have BK272 := n1_; have HB := n2_; clear n0_ n1_ n2_; (try clear hb); (try clear hb2); (try clear hk); (try clear hi)) | (go_at_call 24; (with_reducible refine (rampartlaw04_awake.calls kj11  t286 _ A71.out).mono ?_); rintro e w77 ⟨rfl, hb⟩; have n0_ := Aside0.mk (blk_below (g := gb257) (o := .cells #[.int .i64 65535, .int .i64 (wrap64 (-(wrap64 (1 + t253)))), .int .u32 4294967295, .int .u32 4294967295, .int .i64 63, .int .i64 65535, .string (strOfNums y254)] 42 (0, 0)) (by (with_reducible repeat (first | refine blk_drewN ?_ _ | refine blk_drew ?_ | refine blk_alloc ?_ _)); exact BK257.out) hb); have n1_ := Aside0.mk (blk_below (g := gb272) (o := .cells #[.int .i64 t263, .int .i64 t264, .int .u32 t265, .int .u32 t266, .int .i64 t267, .int .i64 t268, .string t269] 42 (0, 0)) (by (with_reducible repeat (first | refine blk_drewN ?_ _ | refine blk_drew ?_ | refine blk_alloc ?_ _)); exact BK272.out) hb); have n2_ := Aside0.mk (below_step (by repeat (first | (with_reducible first | exact HB.out | apply below_alloc | apply pw_below_drewN | apply below_drew1 | refine below_set ?_ GE257.out | refine below_set ?_ GE272.out) | exact HB.out)) hb); clear BK257; clear BK272; clear HB; have BK257 := n0_; have BK272 := n1_; have HB := n2_; clear n0_ n1_ n2_; (try clear hb); (try clear hb2); (try clear hk); (try clear hi)))
             go_ret
             exact ⟨by first | rfl | (simp [errW_none, errW_some] <;> rfl) | (simp only [← hji8]; first | rfl | (simp [errW_none, errW_some] <;> rfl)) | (simp [*, errW_none, errW_some] <;> rfl), by repeat (first | (with_reducible first | exact HB.out | apply below_alloc | apply pw_below_drewN | apply below_drew1 | refine below_set ?_ GE257.out | refine below_set ?_ GE272.out) | exact HB.out)⟩
           ·
            rw [if_neg c68] at H
            have c68b0 : (t284 == 1) = false := beq_eq_false_iff_ne.mpr c68
            have c68b1 : (t284 != 1) = true := bne_iff_ne.mpr c68
            exact absurd ((Option.some.inj H).trans HR.out) (by decide)
          ·
           rw [if_neg c67] at H
           have c67b0 : (t283.toList == ([] : List UInt8)) = false := beq_eq_false_iff_ne.mpr c67
           have c67b1 : (t283.toList != ([] : List UInt8)) = true := bne_iff_ne.mpr c67
           exact absurd ((Option.some.inj H).trans HR.out) (by decide)
         ·
          rw [if_neg c65] at H
          have c65b0 : (t278 == 1) = false := beq_eq_false_iff_ne.mpr c65
          have c65b1 : (t278 != 1) = true := bne_iff_ne.mpr c65
          by_cases c78 : t278 = 2
          ·
           rw [if_pos c78] at H
           have c78b0 : (t278 == 2) = true := beq_iff_eq.mpr c78
           have c78b1 : (t278 != 2) = false := bne_eq_false_iff_eq.mpr c78
           clear c78
           replace H := Option.bind_eq_some_iff.mp H
           obtain ⟨⟨t287, t288⟩, A790, H⟩ := H
           replace H : (if t287.toList = ([] : List UInt8) then (if t288 = 1 then ((tcp_Check.f 65535 65535 4294967295 4294967295 (wrap64 (63 + (wrap64 (1 + t253)))) 65535 (strOfNums y254)).bind fun t289 => (if t289 = true then (some false) else ((rampartlaw04_awake.f kj11).bind fun t290 => (some t290)))) else (some false)) else (some false)) = some r := H
           have A79 := Aside0.mk A790
           clear A790
           by_cases c80 : t287.toList = ([] : List UInt8)
           ·
            rw [if_pos c80] at H
            have c80b0 : (t287.toList == ([] : List UInt8)) = true := beq_iff_eq.mpr c80
            have c80b1 : (t287.toList != ([] : List UInt8)) = false := bne_eq_false_iff_eq.mpr c80
            clear c80
            by_cases c81 : t288 = 1
            ·
             rw [if_pos c81] at H
             have c81b0 : (t288 == 1) = true := beq_iff_eq.mpr c81
             have c81b1 : (t288 != 1) = false := bne_eq_false_iff_eq.mpr c81
             clear c81
             replace H := Option.bind_eq_some_iff.mp H
             obtain ⟨t289, A820, H⟩ := H
             replace H : (if t289 = true then (some false) else ((rampartlaw04_awake.f kj11).bind fun t290 => (some t290))) = some r := H
             have A82 := Aside0.mk A820
             clear A820
             by_cases c83 : t289 = true
             ·
              subst c83
              have H1 : (some false) = some r := by rw [if_pos rfl] at H; exact H
              clear H
              have H := H1
              clear H1
              exact absurd ((Option.some.inj H).trans HR.out) (by decide)
             ·
              replace c83 := Bool.eq_false_iff.mpr c83
              subst c83
              have H1 : ((rampartlaw04_awake.f kj11).bind fun t290 => (some t290)) = some r := by rw [if_neg (show ¬ (false = true) by decide)] at H; exact H
              clear H
              have H := H1
              clear H1
              replace H := Option.bind_eq_some_iff.mp H
              obtain ⟨t290, A840, H⟩ := H
              replace H : (some t290) = some r := H
              have A84 := Aside0.mk A840
              clear A840
              obtain rfl := Option.some.inj H
              go_wp2_with (first | ((with_reducible refine gate_callee (f := 23) rfl ?_); refine goesL_ (some 76) rfl rfl Try.func23 (by kernel_rfl) rfl #[.int .i64 a0, .int .i64 6] rfl (by (try simp only [List.map_toArray, List.map_cons, List.map_nil]); first | done | rfl | (simp only [List.length_drop, List.length_take]; rfl)) ?_; (with_reducible refine (rampartlaw00_Place.calls a0 6 t278 _ A51.out).mono ?_); rintro e w' ⟨rfl, ⟨nd, rfl⟩⟩; refine ⟨_, rfl, ?_⟩; (try (rw [drewN_self wc]; generalize hq_ : World.drewN wc _ = wc; have n0_ : Aside0 (wc.heap[gb257]? = some (.cells #[.int .i64 65535, .int .i64 65535, .int .u32 4294967295, .int .u32 4294967295, .int .i64 63, .int .i64 65535, .string (strOfNums y254)] 42 (0, 0))) := ⟨by rw [← hq_]; exact (by (with_reducible repeat (first | refine blk_drewN ?_ _ | refine blk_drew ?_ | refine blk_alloc ?_ _)); exact BK257.out)⟩; have n1_ : Aside0 (wc.heap[gb272]? = some (.cells #[.int .i64 t263, .int .i64 t264, .int .u32 t265, .int .u32 t266, .int .i64 t267, .int .i64 t268, .string t269] 42 (0, 0))) := ⟨by rw [← hq_]; exact (by (with_reducible repeat (first | refine blk_drewN ?_ _ | refine blk_drew ?_ | refine blk_alloc ?_ _)); exact BK272.out)⟩; have n2_ : Aside0 (Below w.heap.size w wc) := ⟨by rw [← hq_]; exact (by repeat (first | (with_reducible first | exact HB.out | apply below_alloc | apply pw_below_drewN | apply below_drew1 | refine below_set ?_ GE257.out | refine below_set ?_ GE272.out) | exact HB.out))⟩; clear BK257 BK272 HB hq_; have BK257 := n0_; have BK272 := n1_; have HB := n2_; clear n0_ n1_ n2_)); have hnb85 := NB257_272.out; have hnc85 := NB272_257.out; have hcz86_0 : wc.cell? ⟨gb257, 0, none⟩ = some (.int .i64 65535) := (blk_cell BK257.out 0).trans rfl; have hcz86_1 : wc.cell? ⟨gb257, 1, none⟩ = some (.int .i64 65535) := (blk_cell BK257.out 1).trans rfl; have hcz86_2 : wc.cell? ⟨gb257, 2, none⟩ = some (.int .u32 4294967295) := (blk_cell BK257.out 2).trans rfl; have hcz86_3 : wc.cell? ⟨gb257, 3, none⟩ = some (.int .u32 4294967295) := (blk_cell BK257.out 3).trans rfl; have hcz86_4 : wc.cell? ⟨gb257, 4, none⟩ = some (.int .i64 63) := (blk_cell BK257.out 4).trans rfl; have hcz86_5 : wc.cell? ⟨gb257, 5, none⟩ = some (.int .i64 65535) := (blk_cell BK257.out 5).trans rfl; have hcz86_6 : wc.cell? ⟨gb257, 6, none⟩ = some (.string (strOfNums y254)) := (blk_cell BK257.out 6).trans rfl; have hfz86_0 := blk_frozen BK257.out 0; have hfz86_1 := blk_frozen BK257.out 1; have hfz86_2 := blk_frozen BK257.out 2; have hfz86_3 := blk_frozen BK257.out 3; have hfz86_4 := blk_frozen BK257.out 4; have hfz86_5 := blk_frozen BK257.out 5; have hfz86_6 := blk_frozen BK257.out 6) | ((with_reducible refine gate_callee (f := 25) rfl ?_); refine goesL_ (some 110) rfl rfl Try.func25 (by kernel_rfl) rfl #[.int .u32 9, .int .u32 8, .agg #[.int .i64 65535, .int .i64 65535, .int .u32 4294967295, .int .u32 4294967295, .int .i64 (wrap64 (63 + (wrap64 (1 + t253)))), .int .i64 65535, .string (strOfNums y254)], .string (⟨#[]⟩ : ByteArray)] rfl (by (try simp only [List.map_toArray, List.map_cons, List.map_nil]); first | done | rfl | (simp only [List.length_drop, List.length_take]; rfl)) ?_; (with_reducible refine (tcp_Put.calls kj11 9 8 65535 65535 4294967295 4294967295 (wrap64 (63 + (wrap64 (1 + t253)))) 65535 (strOfNums y254) (⟨#[]⟩ : ByteArray) t287 t288 _ A79.out).mono ?_); rintro e w87 ⟨rfl, hb⟩; refine ⟨_, rfl, ?_⟩; have n0_ := Aside0.mk (blk_below (g := gb257) (o := .cells #[.int .i64 65535, .int .i64 65535, .int .u32 4294967295, .int .u32 4294967295, .int .i64 (wrap64 (63 + (wrap64 (1 + t253)))), .int .i64 65535, .string (strOfNums y254)] 42 (0, 0)) (by (with_reducible repeat (first | refine blk_drewN ?_ _ | refine blk_drew ?_ | refine blk_alloc ?_ _)); refine blk_put (cs := #[.int .i64 65535, .int .i64 65535, .int .u32 4294967295, .int .u32 4294967295, .int .i64 63, .int .i64 65535, .string (strOfNums y254)]) ?_ 4 _ rfl; (with_reducible repeat (first | refine blk_drewN ?_ _ | refine blk_drew ?_ | refine blk_alloc ?_ _)); exact BK257.out) hb); have n1_ := Aside0.mk (blk_below (g := gb272) (o := .cells #[.int .i64 t263, .int .i64 t264, .int .u32 t265, .int .u32 t266, .int .i64 t267, .int .i64 t268, .string t269] 42 (0, 0)) (by (with_reducible repeat (first | refine blk_drewN ?_ _ | refine blk_drew ?_ | refine blk_alloc ?_ _)); refine blk_far ?_ NB272_257.out _; (with_reducible repeat (first | refine blk_drewN ?_ _ | refine blk_drew ?_ | refine blk_alloc ?_ _)); exact BK272.out) hb); have n2_ := Aside0.mk (below_step (by repeat (first | (with_reducible first | exact HB.out | apply below_alloc | apply pw_below_drewN | apply below_drew1 | refine below_set ?_ GE257.out | refine below_set ?_ GE272.out) | exact HB.out)) hb); clear BK257; clear BK272; clear HB; have BK257 := n0_; have BK272 := n1_; have HB := n2_; clear n0_ n1_ n2_; (try clear hb); (try clear hb2); (try clear hk); (try clear hi); have hcz88_0 : w87.cell? ⟨gb257, 0, none⟩ = some (.int .i64 65535) := (blk_cell BK257.out 0).trans rfl; have hcz88_1 : w87.cell? ⟨gb257, 1, none⟩ = some (.int .i64 65535) := (blk_cell BK257.out 1).trans rfl; have hcz88_2 : w87.cell? ⟨gb257, 2, none⟩ = some (.int .u32 4294967295) := (blk_cell BK257.out 2).trans rfl; have hcz88_3 : w87.cell? ⟨gb257, 3, none⟩ = some (.int .u32 4294967295) := (blk_cell BK257.out 3).trans rfl; have hcz88_4 : w87.cell? ⟨gb257, 4, none⟩ = some (.int .i64 (wrap64 (63 + (wrap64 (1 + t253))))) := (blk_cell BK257.out 4).trans rfl; have hcz88_5 : w87.cell? ⟨gb257, 5, none⟩ = some (.int .i64 65535) := (blk_cell BK257.out 5).trans rfl; have hcz88_6 : w87.cell? ⟨gb257, 6, none⟩ = some (.string (strOfNums y254)) := (blk_cell BK257.out 6).trans rfl; have hfz88_0 := blk_frozen BK257.out 0; have hfz88_1 := blk_frozen BK257.out 1; have hfz88_2 := blk_frozen BK257.out 2; have hfz88_3 := blk_frozen BK257.out 3; have hfz88_4 := blk_frozen BK257.out 4; have hfz88_5 := blk_frozen BK257.out 5; have hfz88_6 := blk_frozen BK257.out 6) | (go_at_call 29; (with_reducible refine (tcp_Check.calls 65535 65535 4294967295 4294967295 (wrap64 (63 + (wrap64 (1 + t253)))) 65535 (strOfNums y254) false _ A82.out).mono ?_); rintro e w89 ⟨rfl, hb⟩; have n0_ := Aside0.mk (blk_below (g := gb257) (o := .cells #[.int .i64 65535, .int .i64 65535, .int .u32 4294967295, .int .u32 4294967295, .int .i64 (wrap64 (63 + (wrap64 (1 + t253)))), .int .i64 65535, .string (strOfNums y254)] 42 (0, 0)) (by (with_reducible repeat (first | refine blk_drewN ?_ _ | refine blk_drew ?_ | refine blk_alloc ?_ _)); exact BK257.out) hb); have n1_ := Aside0.mk (blk_below (g := gb272) (o := .cells #[.int .i64 t263, .int .i64 t264, .int .u32 t265, .int .u32 t266, .int .i64 t267, .int .i64 t268, .string t269] 42 (0, 0)) (by (with_reducible repeat (first | refine blk_drewN ?_ _ | refine blk_drew ?_ | refine blk_alloc ?_ _)); exact BK272.out) hb); have n2_ := Aside0.mk (below_step (by repeat (first | (with_reducible first | exact HB.out | apply below_alloc | apply pw_below_drewN | apply below_drew1 | refine below_set ?_ GE257.out | refine below_set ?_ GE272.out) | exact HB.out)) hb); clear BK257; clear BK272; clear HB; have BK257 := n0_; have BK272 := n1_; have HB := n2_; clear n0_ n1_ n2_; (try clear hb); (try clear hb2); (try clear hk); (try clear hi)) | (go_at_call 24; (with_reducible refine (rampartlaw04_awake.calls kj11  t290 _ A84.out).mono ?_); rintro e w90 ⟨rfl, hb⟩; have n0_ := Aside0.mk (blk_below (g := gb257) (o := .cells #[.int .i64 65535, .int .i64 65535, .int .u32 4294967295, .int .u32 4294967295, .int .i64 (wrap64 (63 + (wrap64 (1 + t253)))), .int .i64 65535, .string (strOfNums y254)] 42 (0, 0)) (by (with_reducible repeat (first | refine blk_drewN ?_ _ | refine blk_drew ?_ | refine blk_alloc ?_ _)); exact BK257.out) hb); have n1_ := Aside0.mk (blk_below (g := gb272) (o := .cells #[.int .i64 t263, .int .i64 t264, .int .u32 t265, .int .u32 t266, .int .i64 t267, .int .i64 t268, .string t269] 42 (0, 0)) (by (with_reducible repeat (first | refine blk_drewN ?_ _ | refine blk_drew ?_ | refine blk_alloc ?_ _)); exact BK272.out) hb); have n2_ := Aside0.mk (below_step (by repeat (first | (with_reducible first | exact HB.out | apply below_alloc | apply pw_below_drewN | apply below_drew1 | refine below_set ?_ GE257.out | refine below_set ?_ GE272.out) | exact HB.out)) hb); clear BK257; clear BK272; clear HB; have BK257 := n0_; have BK272 := n1_; have HB := n2_; clear n0_ n1_ n2_; (try clear hb); (try clear hb2); (try clear hk); (try clear hi)))
              go_ret
              exact ⟨by first | rfl | (simp [errW_none, errW_some] <;> rfl) | (simp only [← hji8]; first | rfl | (simp [errW_none, errW_some] <;> rfl)) | (simp [*, errW_none, errW_some] <;> rfl), by repeat (first | (with_reducible first | exact HB.out | apply below_alloc | apply pw_below_drewN | apply below_drew1 | refine below_set ?_ GE257.out | refine below_set ?_ GE272.out) | exact HB.out)⟩
            ·
             rw [if_neg c81] at H
             have c81b0 : (t288 == 1) = false := beq_eq_false_iff_ne.mpr c81
             have c81b1 : (t288 != 1) = true := bne_iff_ne.mpr c81
             exact absurd ((Option.some.inj H).trans HR.out) (by decide)
           ·
            rw [if_neg c80] at H
            have c80b0 : (t287.toList == ([] : List UInt8)) = false := beq_eq_false_iff_ne.mpr c80
            have c80b1 : (t287.toList != ([] : List UInt8)) = true := bne_iff_ne.mpr c80
            exact absurd ((Option.some.inj H).trans HR.out) (by decide)
          ·
           rw [if_neg c78] at H
           have c78b0 : (t278 == 2) = false := beq_eq_false_iff_ne.mpr c78
           have c78b1 : (t278 != 2) = true := bne_iff_ne.mpr c78
           by_cases c91 : t278 = 3
           ·
            rw [if_pos c91] at H
            have c91b0 : (t278 == 3) = true := beq_iff_eq.mpr c91
            have c91b1 : (t278 != 3) = false := bne_eq_false_iff_eq.mpr c91
            clear c91
            replace H := Option.bind_eq_some_iff.mp H
            obtain ⟨⟨t291, t292⟩, A920, H⟩ := H
            replace H : (if t291.toList = ([] : List UInt8) then (if t292 = 1 then ((tcp_Check.f 65535 65535 4294967295 4294967295 63 (wrap64 (65535 + (wrap64 (1 + t253)))) (strOfNums y254)).bind fun t293 => (if t293 = true then (some false) else ((rampartlaw04_awake.f kj11).bind fun t294 => (some t294)))) else (some false)) else (some false)) = some r := H
            have A92 := Aside0.mk A920
            clear A920
            by_cases c93 : t291.toList = ([] : List UInt8)
            ·
             rw [if_pos c93] at H
             have c93b0 : (t291.toList == ([] : List UInt8)) = true := beq_iff_eq.mpr c93
             have c93b1 : (t291.toList != ([] : List UInt8)) = false := bne_eq_false_iff_eq.mpr c93
             clear c93
             by_cases c94 : t292 = 1
             ·
              rw [if_pos c94] at H
              have c94b0 : (t292 == 1) = true := beq_iff_eq.mpr c94
              have c94b1 : (t292 != 1) = false := bne_eq_false_iff_eq.mpr c94
              clear c94
              replace H := Option.bind_eq_some_iff.mp H
              obtain ⟨t293, A950, H⟩ := H
              replace H : (if t293 = true then (some false) else ((rampartlaw04_awake.f kj11).bind fun t294 => (some t294))) = some r := H
              have A95 := Aside0.mk A950
              clear A950
              by_cases c96 : t293 = true
              ·
               subst c96
               have H1 : (some false) = some r := by rw [if_pos rfl] at H; exact H
               clear H
               have H := H1
               clear H1
               exact absurd ((Option.some.inj H).trans HR.out) (by decide)
              ·
               replace c96 := Bool.eq_false_iff.mpr c96
               subst c96
               have H1 : ((rampartlaw04_awake.f kj11).bind fun t294 => (some t294)) = some r := by rw [if_neg (show ¬ (false = true) by decide)] at H; exact H
               clear H
               have H := H1
               clear H1
               replace H := Option.bind_eq_some_iff.mp H
               obtain ⟨t294, A970, H⟩ := H
               replace H : (some t294) = some r := H
               have A97 := Aside0.mk A970
               clear A970
               obtain rfl := Option.some.inj H
               go_wp2_with (first | ((with_reducible refine gate_callee (f := 23) rfl ?_); refine goesL_ (some 76) rfl rfl Try.func23 (by kernel_rfl) rfl #[.int .i64 a0, .int .i64 6] rfl (by (try simp only [List.map_toArray, List.map_cons, List.map_nil]); first | done | rfl | (simp only [List.length_drop, List.length_take]; rfl)) ?_; (with_reducible refine (rampartlaw00_Place.calls a0 6 t278 _ A51.out).mono ?_); rintro e w' ⟨rfl, ⟨nd, rfl⟩⟩; refine ⟨_, rfl, ?_⟩; (try (rw [drewN_self wc]; generalize hq_ : World.drewN wc _ = wc; have n0_ : Aside0 (wc.heap[gb257]? = some (.cells #[.int .i64 65535, .int .i64 65535, .int .u32 4294967295, .int .u32 4294967295, .int .i64 63, .int .i64 65535, .string (strOfNums y254)] 42 (0, 0))) := ⟨by rw [← hq_]; exact (by (with_reducible repeat (first | refine blk_drewN ?_ _ | refine blk_drew ?_ | refine blk_alloc ?_ _)); exact BK257.out)⟩; have n1_ : Aside0 (wc.heap[gb272]? = some (.cells #[.int .i64 t263, .int .i64 t264, .int .u32 t265, .int .u32 t266, .int .i64 t267, .int .i64 t268, .string t269] 42 (0, 0))) := ⟨by rw [← hq_]; exact (by (with_reducible repeat (first | refine blk_drewN ?_ _ | refine blk_drew ?_ | refine blk_alloc ?_ _)); exact BK272.out)⟩; have n2_ : Aside0 (Below w.heap.size w wc) := ⟨by rw [← hq_]; exact (by repeat (first | (with_reducible first | exact HB.out | apply below_alloc | apply pw_below_drewN | apply below_drew1 | refine below_set ?_ GE257.out | refine below_set ?_ GE272.out) | exact HB.out))⟩; clear BK257 BK272 HB hq_; have BK257 := n0_; have BK272 := n1_; have HB := n2_; clear n0_ n1_ n2_)); have hnb98 := NB257_272.out; have hnc98 := NB272_257.out; have hcz99_0 : wc.cell? ⟨gb257, 0, none⟩ = some (.int .i64 65535) := (blk_cell BK257.out 0).trans rfl; have hcz99_1 : wc.cell? ⟨gb257, 1, none⟩ = some (.int .i64 65535) := (blk_cell BK257.out 1).trans rfl; have hcz99_2 : wc.cell? ⟨gb257, 2, none⟩ = some (.int .u32 4294967295) := (blk_cell BK257.out 2).trans rfl; have hcz99_3 : wc.cell? ⟨gb257, 3, none⟩ = some (.int .u32 4294967295) := (blk_cell BK257.out 3).trans rfl; have hcz99_4 : wc.cell? ⟨gb257, 4, none⟩ = some (.int .i64 63) := (blk_cell BK257.out 4).trans rfl; have hcz99_5 : wc.cell? ⟨gb257, 5, none⟩ = some (.int .i64 65535) := (blk_cell BK257.out 5).trans rfl; have hcz99_6 : wc.cell? ⟨gb257, 6, none⟩ = some (.string (strOfNums y254)) := (blk_cell BK257.out 6).trans rfl; have hfz99_0 := blk_frozen BK257.out 0; have hfz99_1 := blk_frozen BK257.out 1; have hfz99_2 := blk_frozen BK257.out 2; have hfz99_3 := blk_frozen BK257.out 3; have hfz99_4 := blk_frozen BK257.out 4; have hfz99_5 := blk_frozen BK257.out 5; have hfz99_6 := blk_frozen BK257.out 6) | ((with_reducible refine gate_callee (f := 25) rfl ?_); refine goesL_ (some 110) rfl rfl Try.func25 (by kernel_rfl) rfl #[.int .u32 9, .int .u32 8, .agg #[.int .i64 65535, .int .i64 65535, .int .u32 4294967295, .int .u32 4294967295, .int .i64 63, .int .i64 (wrap64 (65535 + (wrap64 (1 + t253)))), .string (strOfNums y254)], .string (⟨#[]⟩ : ByteArray)] rfl (by (try simp only [List.map_toArray, List.map_cons, List.map_nil]); first | done | rfl | (simp only [List.length_drop, List.length_take]; rfl)) ?_; (with_reducible refine (tcp_Put.calls kj11 9 8 65535 65535 4294967295 4294967295 63 (wrap64 (65535 + (wrap64 (1 + t253)))) (strOfNums y254) (⟨#[]⟩ : ByteArray) t291 t292 _ A92.out).mono ?_); rintro e w100 ⟨rfl, hb⟩; refine ⟨_, rfl, ?_⟩; have n0_ := Aside0.mk (blk_below (g := gb257) (o := .cells #[.int .i64 65535, .int .i64 65535, .int .u32 4294967295, .int .u32 4294967295, .int .i64 63, .int .i64 (wrap64 (65535 + (wrap64 (1 + t253)))), .string (strOfNums y254)] 42 (0, 0)) (by (with_reducible repeat (first | refine blk_drewN ?_ _ | refine blk_drew ?_ | refine blk_alloc ?_ _)); refine blk_put (cs := #[.int .i64 65535, .int .i64 65535, .int .u32 4294967295, .int .u32 4294967295, .int .i64 63, .int .i64 65535, .string (strOfNums y254)]) ?_ 5 _ rfl; (with_reducible repeat (first | refine blk_drewN ?_ _ | refine blk_drew ?_ | refine blk_alloc ?_ _)); exact BK257.out) hb); have n1_ := Aside0.mk (blk_below (g := gb272) (o := .cells #[.int .i64 t263, .int .i64 t264, .int .u32 t265, .int .u32 t266, .int .i64 t267, .int .i64 t268, .string t269] 42 (0, 0)) (by (with_reducible repeat (first | refine blk_drewN ?_ _ | refine blk_drew ?_ | refine blk_alloc ?_ _)); refine blk_far ?_ NB272_257.out _; (with_reducible repeat (first | refine blk_drewN ?_ _ | refine blk_drew ?_ | refine blk_alloc ?_ _)); exact BK272.out) hb); have n2_ := Aside0.mk (below_step (by repeat (first | (with_reducible first | exact HB.out | apply below_alloc | apply pw_below_drewN | apply below_drew1 | refine below_set ?_ GE257.out | refine below_set ?_ GE272.out) | exact HB.out)) hb); clear BK257; clear BK272; clear HB; have BK257 := n0_; have BK272 := n1_; have HB := n2_; clear n0_ n1_ n2_; (try clear hb); (try clear hb2); (try clear hk); (try clear hi); have hcz101_0 : w100.cell? ⟨gb257, 0, none⟩ = some (.int .i64 65535) := (blk_cell BK257.out 0).trans rfl; have hcz101_1 : w100.cell? ⟨gb257, 1, none⟩ = some (.int .i64 65535) := (blk_cell BK257.out 1).trans rfl; have hcz101_2 : w100.cell? ⟨gb257, 2, none⟩ = some (.int .u32 4294967295) := (blk_cell BK257.out 2).trans rfl; have hcz101_3 : w100.cell? ⟨gb257, 3, none⟩ = some (.int .u32 4294967295) := (blk_cell BK257.out 3).trans rfl; have hcz101_4 : w100.cell? ⟨gb257, 4, none⟩ = some (.int .i64 63) := (blk_cell BK257.out 4).trans rfl; have hcz101_5 : w100.cell? ⟨gb257, 5, none⟩ = some (.int .i64 (wrap64 (65535 + (wrap64 (1 + t253))))) := (blk_cell BK257.out 5).trans rfl; have hcz101_6 : w100.cell? ⟨gb257, 6, none⟩ = some (.string (strOfNums y254)) := (blk_cell BK257.out 6).trans rfl; have hfz101_0 := blk_frozen BK257.out 0; have hfz101_1 := blk_frozen BK257.out 1; have hfz101_2 := blk_frozen BK257.out 2; have hfz101_3 := blk_frozen BK257.out 3; have hfz101_4 := blk_frozen BK257.out 4; have hfz101_5 := blk_frozen BK257.out 5; have hfz101_6 := blk_frozen BK257.out 6) | (go_at_call 29; (with_reducible refine (tcp_Check.calls 65535 65535 4294967295 4294967295 63 (wrap64 (65535 + (wrap64 (1 + t253)))) (strOfNums y254) false _ A95.out).mono ?_); rintro e w102 ⟨rfl, hb⟩; have n0_ := Aside0.mk (blk_below (g := gb257) (o := .cells #[.int .i64 65535, .int .i64 65535, .int .u32 4294967295, .int .u32 4294967295, .int .i64 63, .int .i64 (wrap64 (65535 + (wrap64 (1 + t253)))), .string (strOfNums y254)] 42 (0, 0)) (by (with_reducible repeat (first | refine blk_drewN ?_ _ | refine blk_drew ?_ | refine blk_alloc ?_ _)); exact BK257.out) hb); have n1_ := Aside0.mk (blk_below (g := gb272) (o := .cells #[.int .i64 t263, .int .i64 t264, .int .u32 t265, .int .u32 t266, .int .i64 t267, .int .i64 t268, .string t269] 42 (0, 0)) (by (with_reducible repeat (first | refine blk_drewN ?_ _ | refine blk_drew ?_ | refine blk_alloc ?_ _)); exact BK272.out) hb); have n2_ := Aside0.mk (below_step (by repeat (first | (with_reducible first | exact HB.out | apply below_alloc | apply pw_below_drewN | apply below_drew1 | refine below_set ?_ GE257.out | refine below_set ?_ GE272.out) | exact HB.out)) hb); clear BK257; clear BK272; clear HB; have BK257 := n0_; have BK272 := n1_; have HB := n2_; clear n0_ n1_ n2_; (try clear hb); (try clear hb2); (try clear hk); (try clear hi)) | (go_at_call 24; (with_reducible refine (rampartlaw04_awake.calls kj11  t294 _ A97.out).mono ?_); rintro e w103 ⟨rfl, hb⟩; have n0_ := Aside0.mk (blk_below (g := gb257) (o := .cells #[.int .i64 65535, .int .i64 65535, .int .u32 4294967295, .int .u32 4294967295, .int .i64 63, .int .i64 (wrap64 (65535 + (wrap64 (1 + t253)))), .string (strOfNums y254)] 42 (0, 0)) (by (with_reducible repeat (first | refine blk_drewN ?_ _ | refine blk_drew ?_ | refine blk_alloc ?_ _)); exact BK257.out) hb); have n1_ := Aside0.mk (blk_below (g := gb272) (o := .cells #[.int .i64 t263, .int .i64 t264, .int .u32 t265, .int .u32 t266, .int .i64 t267, .int .i64 t268, .string t269] 42 (0, 0)) (by (with_reducible repeat (first | refine blk_drewN ?_ _ | refine blk_drew ?_ | refine blk_alloc ?_ _)); exact BK272.out) hb); have n2_ := Aside0.mk (below_step (by repeat (first | (with_reducible first | exact HB.out | apply below_alloc | apply pw_below_drewN | apply below_drew1 | refine below_set ?_ GE257.out | refine below_set ?_ GE272.out) | exact HB.out)) hb); clear BK257; clear BK272; clear HB; have BK257 := n0_; have BK272 := n1_; have HB := n2_; clear n0_ n1_ n2_; (try clear hb); (try clear hb2); (try clear hk); (try clear hi)))
               go_ret
               exact ⟨by first | rfl | (simp [errW_none, errW_some] <;> rfl) | (simp only [← hji8]; first | rfl | (simp [errW_none, errW_some] <;> rfl)) | (simp [*, errW_none, errW_some] <;> rfl), by repeat (first | (with_reducible first | exact HB.out | apply below_alloc | apply pw_below_drewN | apply below_drew1 | refine below_set ?_ GE257.out | refine below_set ?_ GE272.out) | exact HB.out)⟩
             ·
              rw [if_neg c94] at H
              have c94b0 : (t292 == 1) = false := beq_eq_false_iff_ne.mpr c94
              have c94b1 : (t292 != 1) = true := bne_iff_ne.mpr c94
              exact absurd ((Option.some.inj H).trans HR.out) (by decide)
            ·
             rw [if_neg c93] at H
             have c93b0 : (t291.toList == ([] : List UInt8)) = false := beq_eq_false_iff_ne.mpr c93
             have c93b1 : (t291.toList != ([] : List UInt8)) = true := bne_iff_ne.mpr c93
             exact absurd ((Option.some.inj H).trans HR.out) (by decide)
           ·
            rw [if_neg c91] at H
            have c91b0 : (t278 == 3) = false := beq_eq_false_iff_ne.mpr c91
            have c91b1 : (t278 != 3) = true := bne_iff_ne.mpr c91
            by_cases c104 : t278 = 4
            ·
             rw [if_pos c104] at H
             have c104b0 : (t278 == 4) = true := beq_iff_eq.mpr c104
             have c104b1 : (t278 != 4) = false := bne_eq_false_iff_eq.mpr c104
             clear c104
             by_cases c105 : (strOfNums y254).size + 4 ≤ 9223372036854775807
             ·
              rw [if_pos c105] at H
              have c105b0 := eq_true c105
              have c105b1 : decide ((strOfNums y254).size + 4 ≤ 9223372036854775807) = true := decide_eq_true c105
              try have c105b2 : (9223372036854775807 < (strOfNums y254).size + 4) = False := eq_false (Nat.not_lt.2 c105)
              replace H := Option.bind_eq_some_iff.mp H
              obtain ⟨⟨t295, t296⟩, A1060, H⟩ := H
              replace H : (if t295.toList = ([] : List UInt8) then (if t296 = 1 then ((tcp_Check.f 65535 65535 4294967295 4294967295 63 65535 ((strOfNums y254) ++ (⟨#[49, 50, 51, 52]⟩ : ByteArray))).bind fun t297 => (if t297 = true then (some false) else ((rampartlaw04_awake.f kj11).bind fun t298 => (some t298)))) else (some false)) else (some false)) = some r := H
              have A106 := Aside0.mk A1060
              clear A1060
              by_cases c107 : t295.toList = ([] : List UInt8)
              ·
               rw [if_pos c107] at H
               have c107b0 : (t295.toList == ([] : List UInt8)) = true := beq_iff_eq.mpr c107
               have c107b1 : (t295.toList != ([] : List UInt8)) = false := bne_eq_false_iff_eq.mpr c107
               clear c107
               by_cases c108 : t296 = 1
               ·
                rw [if_pos c108] at H
                have c108b0 : (t296 == 1) = true := beq_iff_eq.mpr c108
                have c108b1 : (t296 != 1) = false := bne_eq_false_iff_eq.mpr c108
                clear c108
                replace H := Option.bind_eq_some_iff.mp H
                obtain ⟨t297, A1090, H⟩ := H
                replace H : (if t297 = true then (some false) else ((rampartlaw04_awake.f kj11).bind fun t298 => (some t298))) = some r := H
                have A109 := Aside0.mk A1090
                clear A1090
                by_cases c110 : t297 = true
                ·
                 subst c110
                 have H1 : (some false) = some r := by rw [if_pos rfl] at H; exact H
                 clear H
                 have H := H1
                 clear H1
                 exact absurd ((Option.some.inj H).trans HR.out) (by decide)
                ·
                 replace c110 := Bool.eq_false_iff.mpr c110
                 subst c110
                 have H1 : ((rampartlaw04_awake.f kj11).bind fun t298 => (some t298)) = some r := by rw [if_neg (show ¬ (false = true) by decide)] at H; exact H
                 clear H
                 have H := H1
                 clear H1
                 replace H := Option.bind_eq_some_iff.mp H
                 obtain ⟨t298, A1110, H⟩ := H
                 replace H : (some t298) = some r := H
                 have A111 := Aside0.mk A1110
                 clear A1110
                 obtain rfl := Option.some.inj H
                 go_wp2_with (first | ((with_reducible refine gate_callee (f := 23) rfl ?_); refine goesL_ (some 76) rfl rfl Try.func23 (by kernel_rfl) rfl #[.int .i64 a0, .int .i64 6] rfl (by (try simp only [List.map_toArray, List.map_cons, List.map_nil]); first | done | rfl | (simp only [List.length_drop, List.length_take]; rfl)) ?_; (with_reducible refine (rampartlaw00_Place.calls a0 6 t278 _ A51.out).mono ?_); rintro e w' ⟨rfl, ⟨nd, rfl⟩⟩; refine ⟨_, rfl, ?_⟩; (try (rw [drewN_self wc]; generalize hq_ : World.drewN wc _ = wc; have n0_ : Aside0 (wc.heap[gb257]? = some (.cells #[.int .i64 65535, .int .i64 65535, .int .u32 4294967295, .int .u32 4294967295, .int .i64 63, .int .i64 65535, .string (strOfNums y254)] 42 (0, 0))) := ⟨by rw [← hq_]; exact (by (with_reducible repeat (first | refine blk_drewN ?_ _ | refine blk_drew ?_ | refine blk_alloc ?_ _)); exact BK257.out)⟩; have n1_ : Aside0 (wc.heap[gb272]? = some (.cells #[.int .i64 t263, .int .i64 t264, .int .u32 t265, .int .u32 t266, .int .i64 t267, .int .i64 t268, .string t269] 42 (0, 0))) := ⟨by rw [← hq_]; exact (by (with_reducible repeat (first | refine blk_drewN ?_ _ | refine blk_drew ?_ | refine blk_alloc ?_ _)); exact BK272.out)⟩; have n2_ : Aside0 (Below w.heap.size w wc) := ⟨by rw [← hq_]; exact (by repeat (first | (with_reducible first | exact HB.out | apply below_alloc | apply pw_below_drewN | apply below_drew1 | refine below_set ?_ GE257.out | refine below_set ?_ GE272.out) | exact HB.out))⟩; clear BK257 BK272 HB hq_; have BK257 := n0_; have BK272 := n1_; have HB := n2_; clear n0_ n1_ n2_)); have hnb112 := NB257_272.out; have hnc112 := NB272_257.out; have hcz113_0 : wc.cell? ⟨gb257, 0, none⟩ = some (.int .i64 65535) := (blk_cell BK257.out 0).trans rfl; have hcz113_1 : wc.cell? ⟨gb257, 1, none⟩ = some (.int .i64 65535) := (blk_cell BK257.out 1).trans rfl; have hcz113_2 : wc.cell? ⟨gb257, 2, none⟩ = some (.int .u32 4294967295) := (blk_cell BK257.out 2).trans rfl; have hcz113_3 : wc.cell? ⟨gb257, 3, none⟩ = some (.int .u32 4294967295) := (blk_cell BK257.out 3).trans rfl; have hcz113_4 : wc.cell? ⟨gb257, 4, none⟩ = some (.int .i64 63) := (blk_cell BK257.out 4).trans rfl; have hcz113_5 : wc.cell? ⟨gb257, 5, none⟩ = some (.int .i64 65535) := (blk_cell BK257.out 5).trans rfl; have hcz113_6 : wc.cell? ⟨gb257, 6, none⟩ = some (.string (strOfNums y254)) := (blk_cell BK257.out 6).trans rfl; have hfz113_0 := blk_frozen BK257.out 0; have hfz113_1 := blk_frozen BK257.out 1; have hfz113_2 := blk_frozen BK257.out 2; have hfz113_3 := blk_frozen BK257.out 3; have hfz113_4 := blk_frozen BK257.out 4; have hfz113_5 := blk_frozen BK257.out 5; have hfz113_6 := blk_frozen BK257.out 6) | ((with_reducible refine gate_callee (f := 25) rfl ?_); refine goesL_ (some 110) rfl rfl Try.func25 (by kernel_rfl) rfl #[.int .u32 9, .int .u32 8, .agg #[.int .i64 65535, .int .i64 65535, .int .u32 4294967295, .int .u32 4294967295, .int .i64 63, .int .i64 65535, .string ((strOfNums y254) ++ (⟨#[49, 50, 51, 52]⟩ : ByteArray))], .string (⟨#[]⟩ : ByteArray)] rfl (by (try simp only [List.map_toArray, List.map_cons, List.map_nil]); first | done | rfl | (simp only [List.length_drop, List.length_take]; rfl)) ?_; (with_reducible refine (tcp_Put.calls kj11 9 8 65535 65535 4294967295 4294967295 63 65535 ((strOfNums y254) ++ (⟨#[49, 50, 51, 52]⟩ : ByteArray)) (⟨#[]⟩ : ByteArray) t295 t296 _ A106.out).mono ?_); rintro e w114 ⟨rfl, hb⟩; refine ⟨_, rfl, ?_⟩; have n0_ := Aside0.mk (blk_below (g := gb257) (o := .cells #[.int .i64 65535, .int .i64 65535, .int .u32 4294967295, .int .u32 4294967295, .int .i64 63, .int .i64 65535, .string ((strOfNums y254) ++ (⟨#[49, 50, 51, 52]⟩ : ByteArray))] 42 (0, 0)) (by (with_reducible repeat (first | refine blk_drewN ?_ _ | refine blk_drew ?_ | refine blk_alloc ?_ _)); refine blk_put (cs := #[.int .i64 65535, .int .i64 65535, .int .u32 4294967295, .int .u32 4294967295, .int .i64 63, .int .i64 65535, .string (strOfNums y254)]) ?_ 6 _ rfl; (with_reducible repeat (first | refine blk_drewN ?_ _ | refine blk_drew ?_ | refine blk_alloc ?_ _)); exact BK257.out) hb); have n1_ := Aside0.mk (blk_below (g := gb272) (o := .cells #[.int .i64 t263, .int .i64 t264, .int .u32 t265, .int .u32 t266, .int .i64 t267, .int .i64 t268, .string t269] 42 (0, 0)) (by (with_reducible repeat (first | refine blk_drewN ?_ _ | refine blk_drew ?_ | refine blk_alloc ?_ _)); refine blk_far ?_ NB272_257.out _; (with_reducible repeat (first | refine blk_drewN ?_ _ | refine blk_drew ?_ | refine blk_alloc ?_ _)); exact BK272.out) hb); have n2_ := Aside0.mk (below_step (by repeat (first | (with_reducible first | exact HB.out | apply below_alloc | apply pw_below_drewN | apply below_drew1 | refine below_set ?_ GE257.out | refine below_set ?_ GE272.out) | exact HB.out)) hb); clear BK257; clear BK272; clear HB; have BK257 := n0_; have BK272 := n1_; have HB := n2_; clear n0_ n1_ n2_; (try clear hb); (try clear hb2); (try clear hk); (try clear hi); have hcz115_0 : w114.cell? ⟨gb257, 0, none⟩ = some (.int .i64 65535) := (blk_cell BK257.out 0).trans rfl; have hcz115_1 : w114.cell? ⟨gb257, 1, none⟩ = some (.int .i64 65535) := (blk_cell BK257.out 1).trans rfl; have hcz115_2 : w114.cell? ⟨gb257, 2, none⟩ = some (.int .u32 4294967295) := (blk_cell BK257.out 2).trans rfl; have hcz115_3 : w114.cell? ⟨gb257, 3, none⟩ = some (.int .u32 4294967295) := (blk_cell BK257.out 3).trans rfl; have hcz115_4 : w114.cell? ⟨gb257, 4, none⟩ = some (.int .i64 63) := (blk_cell BK257.out 4).trans rfl; have hcz115_5 : w114.cell? ⟨gb257, 5, none⟩ = some (.int .i64 65535) := (blk_cell BK257.out 5).trans rfl; have hcz115_6 : w114.cell? ⟨gb257, 6, none⟩ = some (.string ((strOfNums y254) ++ (⟨#[49, 50, 51, 52]⟩ : ByteArray))) := (blk_cell BK257.out 6).trans rfl; have hfz115_0 := blk_frozen BK257.out 0; have hfz115_1 := blk_frozen BK257.out 1; have hfz115_2 := blk_frozen BK257.out 2; have hfz115_3 := blk_frozen BK257.out 3; have hfz115_4 := blk_frozen BK257.out 4; have hfz115_5 := blk_frozen BK257.out 5; have hfz115_6 := blk_frozen BK257.out 6) | (go_at_call 29; (with_reducible refine (tcp_Check.calls 65535 65535 4294967295 4294967295 63 65535 ((strOfNums y254) ++ (⟨#[49, 50, 51, 52]⟩ : ByteArray)) false _ A109.out).mono ?_); rintro e w116 ⟨rfl, hb⟩; have n0_ := Aside0.mk (blk_below (g := gb257) (o := .cells #[.int .i64 65535, .int .i64 65535, .int .u32 4294967295, .int .u32 4294967295, .int .i64 63, .int .i64 65535, .string ((strOfNums y254) ++ (⟨#[49, 50, 51, 52]⟩ : ByteArray))] 42 (0, 0)) (by (with_reducible repeat (first | refine blk_drewN ?_ _ | refine blk_drew ?_ | refine blk_alloc ?_ _)); exact BK257.out) hb); have n1_ := Aside0.mk (blk_below (g := gb272) (o := .cells #[.int .i64 t263, .int .i64 t264, .int .u32 t265, .int .u32 t266, .int .i64 t267, .int .i64 t268, .string t269] 42 (0, 0)) (by (with_reducible repeat (first | refine blk_drewN ?_ _ | refine blk_drew ?_ | refine blk_alloc ?_ _)); exact BK272.out) hb); have n2_ := Aside0.mk (below_step (by repeat (first | (with_reducible first | exact HB.out | apply below_alloc | apply pw_below_drewN | apply below_drew1 | refine below_set ?_ GE257.out | refine below_set ?_ GE272.out) | exact HB.out)) hb); clear BK257; clear BK272; clear HB; have BK257 := n0_; have BK272 := n1_; have HB := n2_; clear n0_ n1_ n2_; (try clear hb); (try clear hb2); (try clear hk); (try clear hi)) | (go_at_call 24; (with_reducible refine (rampartlaw04_awake.calls kj11  t298 _ A111.out).mono ?_); rintro e w117 ⟨rfl, hb⟩; have n0_ := Aside0.mk (blk_below (g := gb257) (o := .cells #[.int .i64 65535, .int .i64 65535, .int .u32 4294967295, .int .u32 4294967295, .int .i64 63, .int .i64 65535, .string ((strOfNums y254) ++ (⟨#[49, 50, 51, 52]⟩ : ByteArray))] 42 (0, 0)) (by (with_reducible repeat (first | refine blk_drewN ?_ _ | refine blk_drew ?_ | refine blk_alloc ?_ _)); exact BK257.out) hb); have n1_ := Aside0.mk (blk_below (g := gb272) (o := .cells #[.int .i64 t263, .int .i64 t264, .int .u32 t265, .int .u32 t266, .int .i64 t267, .int .i64 t268, .string t269] 42 (0, 0)) (by (with_reducible repeat (first | refine blk_drewN ?_ _ | refine blk_drew ?_ | refine blk_alloc ?_ _)); exact BK272.out) hb); have n2_ := Aside0.mk (below_step (by repeat (first | (with_reducible first | exact HB.out | apply below_alloc | apply pw_below_drewN | apply below_drew1 | refine below_set ?_ GE257.out | refine below_set ?_ GE272.out) | exact HB.out)) hb); clear BK257; clear BK272; clear HB; have BK257 := n0_; have BK272 := n1_; have HB := n2_; clear n0_ n1_ n2_; (try clear hb); (try clear hb2); (try clear hk); (try clear hi)))
                 go_ret
                 exact ⟨by first | rfl | (simp [errW_none, errW_some] <;> rfl) | (simp only [← hji8]; first | rfl | (simp [errW_none, errW_some] <;> rfl)) | (simp [*, errW_none, errW_some] <;> rfl), by repeat (first | (with_reducible first | exact HB.out | apply below_alloc | apply pw_below_drewN | apply below_drew1 | refine below_set ?_ GE257.out | refine below_set ?_ GE272.out) | exact HB.out)⟩
               ·
                rw [if_neg c108] at H
                have c108b0 : (t296 == 1) = false := beq_eq_false_iff_ne.mpr c108
                have c108b1 : (t296 != 1) = true := bne_iff_ne.mpr c108
                exact absurd ((Option.some.inj H).trans HR.out) (by decide)
              ·
               rw [if_neg c107] at H
               have c107b0 : (t295.toList == ([] : List UInt8)) = false := beq_eq_false_iff_ne.mpr c107
               have c107b1 : (t295.toList != ([] : List UInt8)) = true := bne_iff_ne.mpr c107
               exact absurd ((Option.some.inj H).trans HR.out) (by decide)
             ·
              rw [if_neg c105] at H
              exact absurd H (by simp)
            ·
             rw [if_neg c104] at H
             have c104b0 : (t278 == 4) = false := beq_eq_false_iff_ne.mpr c104
             have c104b1 : (t278 != 4) = true := bne_iff_ne.mpr c104
             obtain ⟨ji118, hji118⟩ : ∃ j_ : Int, (wrap64 (1 + (Int.tmod (wrap64 (1 + t253)) 3))) = j_ := ⟨_, rfl⟩
             replace H : (if 0 ≤ (ji118) then (if (ji118) ≤ 5 then ((tcp_Put.f kj11 9 8 65535 65535 4294967295 4294967295 63 65535 ((⟨#[49, 50, 51, 52, 53]⟩ : ByteArray).extract 0 ((ji118) : Int).toNat) (⟨#[]⟩ : ByteArray)).bind fun bt299 => (if bt299.1.toList = ([] : List UInt8) then (if bt299.2 = 1 then ((tcp_Check.f 65535 65535 4294967295 4294967295 63 65535 ((⟨#[49, 50, 51, 52, 53]⟩ : ByteArray).extract 0 ((ji118) : Int).toNat)).bind fun t301 => (if t301 = true then (some false) else ((rampartlaw04_awake.f kj11).bind fun t302 => (some t302)))) else (some false)) else (some false))) else (none)) else (none)) = some r := by first | (rw [hji118] at H; exact H) | (simp only [hji118] at H ⊢; exact H)
             (try rw [hji118] at A51)
             have hji118w : (IntKind.i64.wrap (1 + (Int.tmod (wrap64 (1 + t253)) 3))) = ji118 := (i64_w _).trans hji118
             by_cases c119 : 0 ≤ (ji118)
             ·
              rw [if_pos c119] at H
              have c119b0 := eq_true c119
              have c119b1 : decide (0 ≤ (ji118)) = true := decide_eq_true c119
              clear c119
              by_cases c120 : (ji118) ≤ 5
              ·
               rw [if_pos c120] at H
               have c120b0 := eq_true c120
               have c120b1 : decide ((ji118) ≤ 5) = true := decide_eq_true c120
               clear c120
               replace H := Option.bind_eq_some_iff.mp H
               obtain ⟨⟨t299, t300⟩, A1210, H⟩ := H
               replace H : (if t299.toList = ([] : List UInt8) then (if t300 = 1 then ((tcp_Check.f 65535 65535 4294967295 4294967295 63 65535 ((⟨#[49, 50, 51, 52, 53]⟩ : ByteArray).extract 0 ((ji118) : Int).toNat)).bind fun t301 => (if t301 = true then (some false) else ((rampartlaw04_awake.f kj11).bind fun t302 => (some t302)))) else (some false)) else (some false)) = some r := H
               have A121 := Aside0.mk A1210
               clear A1210
               by_cases c122 : t299.toList = ([] : List UInt8)
               ·
                rw [if_pos c122] at H
                have c122b0 : (t299.toList == ([] : List UInt8)) = true := beq_iff_eq.mpr c122
                have c122b1 : (t299.toList != ([] : List UInt8)) = false := bne_eq_false_iff_eq.mpr c122
                clear c122
                by_cases c123 : t300 = 1
                ·
                 rw [if_pos c123] at H
                 have c123b0 : (t300 == 1) = true := beq_iff_eq.mpr c123
                 have c123b1 : (t300 != 1) = false := bne_eq_false_iff_eq.mpr c123
                 clear c123
                 replace H := Option.bind_eq_some_iff.mp H
                 obtain ⟨t301, A1240, H⟩ := H
                 replace H : (if t301 = true then (some false) else ((rampartlaw04_awake.f kj11).bind fun t302 => (some t302))) = some r := H
                 have A124 := Aside0.mk A1240
                 clear A1240
                 by_cases c125 : t301 = true
                 ·
                  subst c125
                  have H1 : (some false) = some r := by rw [if_pos rfl] at H; exact H
                  clear H
                  have H := H1
                  clear H1
                  exact absurd ((Option.some.inj H).trans HR.out) (by decide)
                 ·
                  replace c125 := Bool.eq_false_iff.mpr c125
                  subst c125
                  have H1 : ((rampartlaw04_awake.f kj11).bind fun t302 => (some t302)) = some r := by rw [if_neg (show ¬ (false = true) by decide)] at H; exact H
                  clear H
                  have H := H1
                  clear H1
                  replace H := Option.bind_eq_some_iff.mp H
                  obtain ⟨t302, A1260, H⟩ := H
                  replace H : (some t302) = some r := H
                  have A126 := Aside0.mk A1260
                  clear A1260
                  obtain rfl := Option.some.inj H
                  go_wp2_with (first | ((with_reducible refine gate_callee (f := 23) rfl ?_); refine goesL_ (some 76) rfl rfl Try.func23 (by kernel_rfl) rfl #[.int .i64 a0, .int .i64 6] rfl (by (try simp only [List.map_toArray, List.map_cons, List.map_nil]); first | done | rfl | (simp only [List.length_drop, List.length_take]; rfl)) ?_; (with_reducible refine (rampartlaw00_Place.calls a0 6 t278 _ A51.out).mono ?_); rintro e w' ⟨rfl, ⟨nd, rfl⟩⟩; refine ⟨_, rfl, ?_⟩; (try (rw [drewN_self wc]; generalize hq_ : World.drewN wc _ = wc; have n0_ : Aside0 (wc.heap[gb257]? = some (.cells #[.int .i64 65535, .int .i64 65535, .int .u32 4294967295, .int .u32 4294967295, .int .i64 63, .int .i64 65535, .string (strOfNums y254)] 42 (0, 0))) := ⟨by rw [← hq_]; exact (by (with_reducible repeat (first | refine blk_drewN ?_ _ | refine blk_drew ?_ | refine blk_alloc ?_ _)); exact BK257.out)⟩; have n1_ : Aside0 (wc.heap[gb272]? = some (.cells #[.int .i64 t263, .int .i64 t264, .int .u32 t265, .int .u32 t266, .int .i64 t267, .int .i64 t268, .string t269] 42 (0, 0))) := ⟨by rw [← hq_]; exact (by (with_reducible repeat (first | refine blk_drewN ?_ _ | refine blk_drew ?_ | refine blk_alloc ?_ _)); exact BK272.out)⟩; have n2_ : Aside0 (Below w.heap.size w wc) := ⟨by rw [← hq_]; exact (by repeat (first | (with_reducible first | exact HB.out | apply below_alloc | apply pw_below_drewN | apply below_drew1 | refine below_set ?_ GE257.out | refine below_set ?_ GE272.out) | exact HB.out))⟩; clear BK257 BK272 HB hq_; have BK257 := n0_; have BK272 := n1_; have HB := n2_; clear n0_ n1_ n2_)); have hnb127 := NB257_272.out; have hnc127 := NB272_257.out; have hcz128_0 : wc.cell? ⟨gb257, 0, none⟩ = some (.int .i64 65535) := (blk_cell BK257.out 0).trans rfl; have hcz128_1 : wc.cell? ⟨gb257, 1, none⟩ = some (.int .i64 65535) := (blk_cell BK257.out 1).trans rfl; have hcz128_2 : wc.cell? ⟨gb257, 2, none⟩ = some (.int .u32 4294967295) := (blk_cell BK257.out 2).trans rfl; have hcz128_3 : wc.cell? ⟨gb257, 3, none⟩ = some (.int .u32 4294967295) := (blk_cell BK257.out 3).trans rfl; have hcz128_4 : wc.cell? ⟨gb257, 4, none⟩ = some (.int .i64 63) := (blk_cell BK257.out 4).trans rfl; have hcz128_5 : wc.cell? ⟨gb257, 5, none⟩ = some (.int .i64 65535) := (blk_cell BK257.out 5).trans rfl; have hcz128_6 : wc.cell? ⟨gb257, 6, none⟩ = some (.string (strOfNums y254)) := (blk_cell BK257.out 6).trans rfl; have hfz128_0 := blk_frozen BK257.out 0; have hfz128_1 := blk_frozen BK257.out 1; have hfz128_2 := blk_frozen BK257.out 2; have hfz128_3 := blk_frozen BK257.out 3; have hfz128_4 := blk_frozen BK257.out 4; have hfz128_5 := blk_frozen BK257.out 5; have hfz128_6 := blk_frozen BK257.out 6) | ((with_reducible refine gate_callee (f := 25) rfl ?_); refine goesL_ (some 110) rfl rfl Try.func25 (by kernel_rfl) rfl #[.int .u32 9, .int .u32 8, .agg #[.int .i64 65535, .int .i64 65535, .int .u32 4294967295, .int .u32 4294967295, .int .i64 63, .int .i64 65535, .string ((⟨#[49, 50, 51, 52, 53]⟩ : ByteArray).extract 0 ((ji118) : Int).toNat)], .string (⟨#[]⟩ : ByteArray)] rfl (by (try simp only [List.map_toArray, List.map_cons, List.map_nil]); first | done | (simp only [hji118]; rfl) | rfl | (simp only [List.length_drop, List.length_take]; rfl)) ?_; (with_reducible refine (tcp_Put.calls kj11 9 8 65535 65535 4294967295 4294967295 63 65535 ((⟨#[49, 50, 51, 52, 53]⟩ : ByteArray).extract 0 ((ji118) : Int).toNat) (⟨#[]⟩ : ByteArray) t299 t300 _ A121.out).mono ?_); rintro e w129 ⟨rfl, hb⟩; refine ⟨_, rfl, ?_⟩; have n0_ := Aside0.mk (blk_below (g := gb257) (o := .cells #[.int .i64 65535, .int .i64 65535, .int .u32 4294967295, .int .u32 4294967295, .int .i64 63, .int .i64 65535, .string ((⟨#[49, 50, 51, 52, 53]⟩ : ByteArray).extract 0 ((ji118) : Int).toNat)] 42 (0, 0)) (by (with_reducible repeat (first | refine blk_drewN ?_ _ | refine blk_drew ?_ | refine blk_alloc ?_ _)); refine blk_put (cs := #[.int .i64 65535, .int .i64 65535, .int .u32 4294967295, .int .u32 4294967295, .int .i64 63, .int .i64 65535, .string (strOfNums y254)]) ?_ 6 _ rfl; (with_reducible repeat (first | refine blk_drewN ?_ _ | refine blk_drew ?_ | refine blk_alloc ?_ _)); exact BK257.out) hb); have n1_ := Aside0.mk (blk_below (g := gb272) (o := .cells #[.int .i64 t263, .int .i64 t264, .int .u32 t265, .int .u32 t266, .int .i64 t267, .int .i64 t268, .string t269] 42 (0, 0)) (by (with_reducible repeat (first | refine blk_drewN ?_ _ | refine blk_drew ?_ | refine blk_alloc ?_ _)); refine blk_far ?_ NB272_257.out _; (with_reducible repeat (first | refine blk_drewN ?_ _ | refine blk_drew ?_ | refine blk_alloc ?_ _)); exact BK272.out) hb); have n2_ := Aside0.mk (below_step (by repeat (first | (with_reducible first | exact HB.out | apply below_alloc | apply pw_below_drewN | apply below_drew1 | refine below_set ?_ GE257.out | refine below_set ?_ GE272.out) | exact HB.out)) hb); clear BK257; clear BK272; clear HB; have BK257 := n0_; have BK272 := n1_; have HB := n2_; clear n0_ n1_ n2_; (try clear hb); (try clear hb2); (try clear hk); (try clear hi); have hcz130_0 : w129.cell? ⟨gb257, 0, none⟩ = some (.int .i64 65535) := (blk_cell BK257.out 0).trans rfl; have hcz130_1 : w129.cell? ⟨gb257, 1, none⟩ = some (.int .i64 65535) := (blk_cell BK257.out 1).trans rfl; have hcz130_2 : w129.cell? ⟨gb257, 2, none⟩ = some (.int .u32 4294967295) := (blk_cell BK257.out 2).trans rfl; have hcz130_3 : w129.cell? ⟨gb257, 3, none⟩ = some (.int .u32 4294967295) := (blk_cell BK257.out 3).trans rfl; have hcz130_4 : w129.cell? ⟨gb257, 4, none⟩ = some (.int .i64 63) := (blk_cell BK257.out 4).trans rfl; have hcz130_5 : w129.cell? ⟨gb257, 5, none⟩ = some (.int .i64 65535) := (blk_cell BK257.out 5).trans rfl; have hcz130_6 : w129.cell? ⟨gb257, 6, none⟩ = some (.string ((⟨#[49, 50, 51, 52, 53]⟩ : ByteArray).extract 0 ((ji118) : Int).toNat)) := (blk_cell BK257.out 6).trans rfl; have hfz130_0 := blk_frozen BK257.out 0; have hfz130_1 := blk_frozen BK257.out 1; have hfz130_2 := blk_frozen BK257.out 2; have hfz130_3 := blk_frozen BK257.out 3; have hfz130_4 := blk_frozen BK257.out 4; have hfz130_5 := blk_frozen BK257.out 5; have hfz130_6 := blk_frozen BK257.out 6) | (go_at_call 29; (with_reducible refine (tcp_Check.calls 65535 65535 4294967295 4294967295 63 65535 ((⟨#[49, 50, 51, 52, 53]⟩ : ByteArray).extract 0 ((ji118) : Int).toNat) false _ A124.out).mono ?_); rintro e w131 ⟨rfl, hb⟩; have n0_ := Aside0.mk (blk_below (g := gb257) (o := .cells #[.int .i64 65535, .int .i64 65535, .int .u32 4294967295, .int .u32 4294967295, .int .i64 63, .int .i64 65535, .string ((⟨#[49, 50, 51, 52, 53]⟩ : ByteArray).extract 0 ((ji118) : Int).toNat)] 42 (0, 0)) (by (with_reducible repeat (first | refine blk_drewN ?_ _ | refine blk_drew ?_ | refine blk_alloc ?_ _)); exact BK257.out) hb); have n1_ := Aside0.mk (blk_below (g := gb272) (o := .cells #[.int .i64 t263, .int .i64 t264, .int .u32 t265, .int .u32 t266, .int .i64 t267, .int .i64 t268, .string t269] 42 (0, 0)) (by (with_reducible repeat (first | refine blk_drewN ?_ _ | refine blk_drew ?_ | refine blk_alloc ?_ _)); exact BK272.out) hb); have n2_ := Aside0.mk (below_step (by repeat (first | (with_reducible first | exact HB.out | apply below_alloc | apply pw_below_drewN | apply below_drew1 | refine below_set ?_ GE257.out | refine below_set ?_ GE272.out) | exact HB.out)) hb); clear BK257; clear BK272; clear HB; have BK257 := n0_; have BK272 := n1_; have HB := n2_; clear n0_ n1_ n2_; (try clear hb); (try clear hb2); (try clear hk); (try clear hi)) | (go_at_call 24; (with_reducible refine (rampartlaw04_awake.calls kj11  t302 _ A126.out).mono ?_); rintro e w132 ⟨rfl, hb⟩; have n0_ := Aside0.mk (blk_below (g := gb257) (o := .cells #[.int .i64 65535, .int .i64 65535, .int .u32 4294967295, .int .u32 4294967295, .int .i64 63, .int .i64 65535, .string ((⟨#[49, 50, 51, 52, 53]⟩ : ByteArray).extract 0 ((ji118) : Int).toNat)] 42 (0, 0)) (by (with_reducible repeat (first | refine blk_drewN ?_ _ | refine blk_drew ?_ | refine blk_alloc ?_ _)); exact BK257.out) hb); have n1_ := Aside0.mk (blk_below (g := gb272) (o := .cells #[.int .i64 t263, .int .i64 t264, .int .u32 t265, .int .u32 t266, .int .i64 t267, .int .i64 t268, .string t269] 42 (0, 0)) (by (with_reducible repeat (first | refine blk_drewN ?_ _ | refine blk_drew ?_ | refine blk_alloc ?_ _)); exact BK272.out) hb); have n2_ := Aside0.mk (below_step (by repeat (first | (with_reducible first | exact HB.out | apply below_alloc | apply pw_below_drewN | apply below_drew1 | refine below_set ?_ GE257.out | refine below_set ?_ GE272.out) | exact HB.out)) hb); clear BK257; clear BK272; clear HB; have BK257 := n0_; have BK272 := n1_; have HB := n2_; clear n0_ n1_ n2_; (try clear hb); (try clear hb2); (try clear hk); (try clear hi)))
                  go_ret
                  exact ⟨by first | rfl | (simp [errW_none, errW_some] <;> rfl) | (simp only [← hji8, ← hji118]; first | rfl | (simp [errW_none, errW_some] <;> rfl)) | (simp [*, errW_none, errW_some] <;> rfl), by repeat (first | (with_reducible first | exact HB.out | apply below_alloc | apply pw_below_drewN | apply below_drew1 | refine below_set ?_ GE257.out | refine below_set ?_ GE272.out) | exact HB.out)⟩
                ·
                 rw [if_neg c123] at H
                 have c123b0 : (t300 == 1) = false := beq_eq_false_iff_ne.mpr c123
                 have c123b1 : (t300 != 1) = true := bne_iff_ne.mpr c123
                 exact absurd ((Option.some.inj H).trans HR.out) (by decide)
               ·
                rw [if_neg c122] at H
                have c122b0 : (t299.toList == ([] : List UInt8)) = false := beq_eq_false_iff_ne.mpr c122
                have c122b1 : (t299.toList != ([] : List UInt8)) = true := bne_iff_ne.mpr c122
                exact absurd ((Option.some.inj H).trans HR.out) (by decide)
              ·
               rw [if_neg c120] at H
               exact absurd H (by simp)
             ·
              rw [if_neg c119] at H
              exact absurd H (by simp)
    ·
     rw [if_neg c10] at H
     exact absurd H (by simp)
   ·
    rw [if_neg c9] at H
    exact absurd H (by simp)
  ·
   rw [if_neg c5] at H
   exact absurd H (by simp)
 ·
  rw [if_neg c4] at H
  exact absurd H (by simp)

/-- THE ONE PURE STATEMENT of rampartlaw04_TcpEdges: yours. -/
def rampartlaw04_TcpEdges.Pure : Prop := ∀ (a0 : Int) (a1 : Int), (Lit.int .i64 a0).wf = true → (Lit.int .i64 a1).wf = true → ∃ k, rampartlaw04_TcpEdges.f k a0 a1 = some true
theorem rampartlaw04_TcpEdges.walk (P : rampartlaw04_TcpEdges.Pure) (a0 : Int) (a1 : Int) (w : World) (w0 : (Lit.int .i64 a0).wf = true) (w1 : (Lit.int .i64 a1).wf = true) :
  Calls Try.prog 9 #[.int .i64 a0, .int .i64 a1] w fun e w' => e = .returned (.bool true) ∧ Below w.heap.size w w' := by
 obtain ⟨k, h⟩ := P a0 a1 w0 w1
 refine (rampartlaw04_TcpEdges.calls k a0 a1 true w h rfl).mono ?_
 rintro e w' ⟨rfl, hd⟩
 exact ⟨rfl, hd⟩

end Go.Proofs.Ytgolimfljndnmaa.HT
