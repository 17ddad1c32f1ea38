/- What is proved: each Go function of this text answers as the plain Lean function beside it (a law: its given row, out of the plain statement). Conditions: those that stand in each theorem. Written by my drive.py, which calls the printer of the kit for what that covers. -/
import Derived.Test.YtchjfgdcldaacaaHGx0
import Derived.Test.YtchjfgdcldaacaaHGx2
import Derived.Test.YtchjfgdcldaacaaHGx3
import Derived.Test.YtchjfgdcldaacaaHGx4
import Derived.Test.YtchjfgdcldaacaaHGx6
namespace Go.Proofs.Ytchjfgdcldaacaa.HG
open Go.RowKit Go.Proofs.YtchjfgdcldaacaaW.PrintWords Go.Proofs.YtchjfgdcldaacaaW.PrintLast Go.Proofs.YtchjfgdcldaacaaW.PrintMore
attribute [local go_sem] max2_int min2_int max_two min_two max_three min_three max_four min_four   -- for this text's walks alone
set_option linter.unusedVariables false
set_option linter.unusedSimpArgs false

/-! ### rampartlaw02_EthBack: function 8 -/
/-! ### rampartlaw02_EthBack: function 8 -/
mutual
def rampartlaw02_EthBack.j0 : Nat → ByteArray → ByteArray → Bool → Int → Int → Int → Int → Int → Int → Int → Int → Int → Int → Int → Int → Int → Option (Bool)
 | 0, _, _, _, _, _, _, _, _, _, _, _, _, _, _, _, _ => none
 | k + 1, x1, x2, x21, x152000, x152001, x152002, x152003, x152004, x152005, x152006, x152007, x152008, x152009, x152010, x152011, x152012 => if x21 = true then ((rampartlaw02_awake.f).bind fun t152 => (some t152)) else ((eth_Put.f k x152000 x152001 x152002 x152003 x152004 x152005 x152006 x152007 x152008 x152009 x152010 x152011 (Go.bits .and .i64 x152012 65535) x1).bind fun t153 => ((eth_Get.f t153).bind fun bt154 => (if (t153.size : Int) = (wrap64 (14 + (x1.size : Int))) then (if ((bt154.2.2.2.2.2.2.2.2.2.2.2.2.2.2 == 0) != (decide ((t153.size : Int) ≤ 3000))) = true then (rampartlaw02_EthBack.j1 k x1 x2 bt154.2.2.2.2.2.2.2.2.2.2.2.2.2.1 bt154.2.2.2.2.2.2.2.2.2.2.2.2.2.2 true x152000 x152001 x152002 x152003 x152004 x152005 x152006 x152007 x152008 x152009 x152010 x152011 (Go.bits .and .i64 x152012 65535) bt154.1 bt154.2.1 bt154.2.2.1 bt154.2.2.2.1 bt154.2.2.2.2.1 bt154.2.2.2.2.2.1 bt154.2.2.2.2.2.2.1 bt154.2.2.2.2.2.2.2.1 bt154.2.2.2.2.2.2.2.2.1 bt154.2.2.2.2.2.2.2.2.2.1 bt154.2.2.2.2.2.2.2.2.2.2.1 bt154.2.2.2.2.2.2.2.2.2.2.2.1 bt154.2.2.2.2.2.2.2.2.2.2.2.2.1) else (if bt154.2.2.2.2.2.2.2.2.2.2.2.2.2.2 = 0 then (rampartlaw02_EthBack.j1 k x1 x2 bt154.2.2.2.2.2.2.2.2.2.2.2.2.2.1 bt154.2.2.2.2.2.2.2.2.2.2.2.2.2.2 false x152000 x152001 x152002 x152003 x152004 x152005 x152006 x152007 x152008 x152009 x152010 x152011 (Go.bits .and .i64 x152012 65535) bt154.1 bt154.2.1 bt154.2.2.1 bt154.2.2.2.1 bt154.2.2.2.2.1 bt154.2.2.2.2.2.1 bt154.2.2.2.2.2.2.1 bt154.2.2.2.2.2.2.2.1 bt154.2.2.2.2.2.2.2.2.1 bt154.2.2.2.2.2.2.2.2.2.1 bt154.2.2.2.2.2.2.2.2.2.2.1 bt154.2.2.2.2.2.2.2.2.2.2.2.1 bt154.2.2.2.2.2.2.2.2.2.2.2.2.1) else (rampartlaw02_EthBack.j1 k x1 x2 bt154.2.2.2.2.2.2.2.2.2.2.2.2.2.1 bt154.2.2.2.2.2.2.2.2.2.2.2.2.2.2 (bt154.2.2.2.2.2.2.2.2.2.2.2.2.2.2 != 5) x152000 x152001 x152002 x152003 x152004 x152005 x152006 x152007 x152008 x152009 x152010 x152011 (Go.bits .and .i64 x152012 65535) bt154.1 bt154.2.1 bt154.2.2.1 bt154.2.2.2.1 bt154.2.2.2.2.1 bt154.2.2.2.2.2.1 bt154.2.2.2.2.2.2.1 bt154.2.2.2.2.2.2.2.1 bt154.2.2.2.2.2.2.2.2.1 bt154.2.2.2.2.2.2.2.2.2.1 bt154.2.2.2.2.2.2.2.2.2.2.1 bt154.2.2.2.2.2.2.2.2.2.2.2.1 bt154.2.2.2.2.2.2.2.2.2.2.2.2.1))) else (rampartlaw02_EthBack.j1 k x1 x2 bt154.2.2.2.2.2.2.2.2.2.2.2.2.2.1 bt154.2.2.2.2.2.2.2.2.2.2.2.2.2.2 true x152000 x152001 x152002 x152003 x152004 x152005 x152006 x152007 x152008 x152009 x152010 x152011 (Go.bits .and .i64 x152012 65535) bt154.1 bt154.2.1 bt154.2.2.1 bt154.2.2.2.1 bt154.2.2.2.2.1 bt154.2.2.2.2.2.1 bt154.2.2.2.2.2.2.1 bt154.2.2.2.2.2.2.2.1 bt154.2.2.2.2.2.2.2.2.1 bt154.2.2.2.2.2.2.2.2.2.1 bt154.2.2.2.2.2.2.2.2.2.2.1 bt154.2.2.2.2.2.2.2.2.2.2.2.1 bt154.2.2.2.2.2.2.2.2.2.2.2.2.1))))
def rampartlaw02_EthBack.j1 : Nat → ByteArray → ByteArray → ByteArray → Int → Bool → Int → Int → Int → Int → Int → Int → Int → Int → Int → Int → Int → Int → Int → Int → Int → Int → Int → Int → Int → Int → Int → Int → Int → Int → Int → Int → Option (Bool)
 | 0, _, _, _, _, _, _, _, _, _, _, _, _, _, _, _, _, _, _, _, _, _, _, _, _, _, _, _, _, _, _, _ => none
 | k + 1, x1, x2, x9, x10, x57, x152000, x152001, x152002, x152003, x152004, x152005, x152006, x152007, x152008, x152009, x152010, x152011, x152012, x170000, x170001, x170002, x170003, x170004, x170005, x170006, x170007, x170008, x170009, x170010, x170011, x170012 => if x57 = true then (some false) else (if x10 = 0 then ((rampartref02_Same.f k x170000 x170001 x170002 x170003 x170004 x170005 x170006 x170007 x170008 x170009 x170010 x170011 x170012 x152000 x152001 x152002 x152003 x152004 x152005 x152006 x152007 x152008 x152009 x152010 x152011 x152012).bind fun t170 => (if t170 = true then (rampartlaw02_EthBack.j2 k x2 (x9.toList != x1.toList)) else (rampartlaw02_EthBack.j2 k x2 true))) else (rampartlaw02_EthBack.j2 k x2 false))
def rampartlaw02_EthBack.j2 : Nat → ByteArray → Bool → Option (Bool)
 | 0, _, _ => none
 | k + 1, x2, x70 => if x70 = true then (some false) else ((eth_Get.f x2).bind fun bt171 => (if bt171.2.2.2.2.2.2.2.2.2.2.2.2.2.2 = 0 then ((eth_Put.f k bt171.1 bt171.2.1 bt171.2.2.1 bt171.2.2.2.1 bt171.2.2.2.2.1 bt171.2.2.2.2.2.1 bt171.2.2.2.2.2.2.1 bt171.2.2.2.2.2.2.2.1 bt171.2.2.2.2.2.2.2.2.1 bt171.2.2.2.2.2.2.2.2.2.1 bt171.2.2.2.2.2.2.2.2.2.2.1 bt171.2.2.2.2.2.2.2.2.2.2.2.1 bt171.2.2.2.2.2.2.2.2.2.2.2.2.1 bt171.2.2.2.2.2.2.2.2.2.2.2.2.2.1).bind fun t187 => (if t187.toList = x2.toList then ((rampartlaw02_awake.f).bind fun t188 => (some t188)) else (some false))) else (if bt171.2.2.2.2.2.2.2.2.2.2.2.2.2.1.toList = ([] : List UInt8) then (if bt171.2.2.2.2.2.2.2.2.2.2.2.2.1 = 0 then ((rampartlaw02_awake.f).bind fun t189 => (some t189)) else (some false)) else (some false))))
end
def rampartlaw02_EthBack.f (k : Nat) (a0_0 : Int) (a0_1 : Int) (a0_2 : Int) (a0_3 : Int) (a0_4 : Int) (a0_5 : Int) (a0_6 : Int) (a0_7 : Int) (a0_8 : Int) (a0_9 : Int) (a0_10 : Int) (a0_11 : Int) (a0_12 : Int) (a1 : ByteArray) (a2 : ByteArray) : Option (Bool) := if (a1.size : Int) > 3500 then (rampartlaw02_EthBack.j0 k a1 a2 true a0_0 a0_1 a0_2 a0_3 a0_4 a0_5 a0_6 a0_7 a0_8 a0_9 a0_10 a0_11 a0_12) else (rampartlaw02_EthBack.j0 k a1 a2 (decide ((a2.size : Int) > 4000)) a0_0 a0_1 a0_2 a0_3 a0_4 a0_5 a0_6 a0_7 a0_8 a0_9 a0_10 a0_11 a0_12)
theorem rampartlaw02_EthBack.mono_l : ∀ k, (∀ y0 y1 y2 y3 y4 y5 y6 y7 y8 y9 y10 y11 y12 y13 y14 y15, LeO (rampartlaw02_EthBack.j0 k y0 y1 y2 y3 y4 y5 y6 y7 y8 y9 y10 y11 y12 y13 y14 y15) (rampartlaw02_EthBack.j0 (k + 1) y0 y1 y2 y3 y4 y5 y6 y7 y8 y9 y10 y11 y12 y13 y14 y15)) ∧ (∀ y0 y1 y2 y3 y4 y5 y6 y7 y8 y9 y10 y11 y12 y13 y14 y15 y16 y17 y18 y19 y20 y21 y22 y23 y24 y25 y26 y27 y28 y29 y30, LeO (rampartlaw02_EthBack.j1 k y0 y1 y2 y3 y4 y5 y6 y7 y8 y9 y10 y11 y12 y13 y14 y15 y16 y17 y18 y19 y20 y21 y22 y23 y24 y25 y26 y27 y28 y29 y30) (rampartlaw02_EthBack.j1 (k + 1) y0 y1 y2 y3 y4 y5 y6 y7 y8 y9 y10 y11 y12 y13 y14 y15 y16 y17 y18 y19 y20 y21 y22 y23 y24 y25 y26 y27 y28 y29 y30)) ∧ (∀ y0 y1, LeO (rampartlaw02_EthBack.j2 k y0 y1) (rampartlaw02_EthBack.j2 (k + 1) y0 y1))
 | 0 => ⟨fun _ _ _ _ _ _ _ _ _ _ _ _ _ _ _ _ r h => by simp [rampartlaw02_EthBack.j0] at h, fun _ _ _ _ _ _ _ _ _ _ _ _ _ _ _ _ _ _ _ _ _ _ _ _ _ _ _ _ _ _ _ r h => by simp [rampartlaw02_EthBack.j1] at h, fun _ _ r h => by simp [rampartlaw02_EthBack.j2] at h⟩
 | k + 1 => by
  obtain ⟨ih0, ih1, ih2⟩ := rampartlaw02_EthBack.mono_l k
  refine ⟨?_, ?_, ?_⟩
  ·
   intro y0 y1 y2 y3 y4 y5 y6 y7 y8 y9 y10 y11 y12 y13 y14 y15
   unfold rampartlaw02_EthBack.j0
   repeat' first
   | (with_reducible exact ih0 _ _ _ _ _ _ _ _ _ _ _ _ _ _ _ _)
   | (with_reducible exact ih1 _ _ _ _ _ _ _ _ _ _ _ _ _ _ _ _ _ _ _ _ _ _ _ _ _ _ _ _ _ _ _)
   | (with_reducible exact ih2 _ _)
   | (with_reducible exact eth_Put.mono _ _ _ _ _ _ _ _ _ _ _ _ _ _ _)
   | (with_reducible exact rampartref02_Same.mono _ _ _ _ _ _ _ _ _ _ _ _ _ _ _ _ _ _ _ _ _ _ _ _ _ _ _)
   | (with_reducible exact LeO.refl _)
   | (with_reducible exact LeO.none _)
   | (with_reducible refine LeO.ite ?_ ?_)
   | (with_reducible refine LeO.bind ?_ (fun _ => ?_))
   | exact ih0 _ _ _ _ _ _ _ _ _ _ _ _ _ _ _ _
   | exact ih1 _ _ _ _ _ _ _ _ _ _ _ _ _ _ _ _ _ _ _ _ _ _ _ _ _ _ _ _ _ _ _
   | exact ih2 _ _
   | exact eth_Put.mono _ _ _ _ _ _ _ _ _ _ _ _ _ _ _
   | exact rampartref02_Same.mono _ _ _ _ _ _ _ _ _ _ _ _ _ _ _ _ _ _ _ _ _ _ _ _ _ _ _
   | exact LeO.none _
   | refine LeO.ite ?_ ?_
   | refine LeO.bind ?_ (fun _ => ?_)
  ·
   intro y0 y1 y2 y3 y4 y5 y6 y7 y8 y9 y10 y11 y12 y13 y14 y15 y16 y17 y18 y19 y20 y21 y22 y23 y24 y25 y26 y27 y28 y29 y30
   unfold rampartlaw02_EthBack.j1
   repeat' first
   | (with_reducible exact ih0 _ _ _ _ _ _ _ _ _ _ _ _ _ _ _ _)
   | (with_reducible exact ih1 _ _ _ _ _ _ _ _ _ _ _ _ _ _ _ _ _ _ _ _ _ _ _ _ _ _ _ _ _ _ _)
   | (with_reducible exact ih2 _ _)
   | (with_reducible exact eth_Put.mono _ _ _ _ _ _ _ _ _ _ _ _ _ _ _)
   | (with_reducible exact rampartref02_Same.mono _ _ _ _ _ _ _ _ _ _ _ _ _ _ _ _ _ _ _ _ _ _ _ _ _ _ _)
   | (with_reducible exact LeO.refl _)
   | (with_reducible exact LeO.none _)
   | (with_reducible refine LeO.ite ?_ ?_)
   | (with_reducible refine LeO.bind ?_ (fun _ => ?_))
   | exact ih0 _ _ _ _ _ _ _ _ _ _ _ _ _ _ _ _
   | exact ih1 _ _ _ _ _ _ _ _ _ _ _ _ _ _ _ _ _ _ _ _ _ _ _ _ _ _ _ _ _ _ _
   | exact ih2 _ _
   | exact eth_Put.mono _ _ _ _ _ _ _ _ _ _ _ _ _ _ _
   | exact rampartref02_Same.mono _ _ _ _ _ _ _ _ _ _ _ _ _ _ _ _ _ _ _ _ _ _ _ _ _ _ _
   | exact LeO.none _
   | refine LeO.ite ?_ ?_
   | refine LeO.bind ?_ (fun _ => ?_)
  ·
   intro y0 y1
   unfold rampartlaw02_EthBack.j2
   repeat' first
   | (with_reducible exact ih0 _ _ _ _ _ _ _ _ _ _ _ _ _ _ _ _)
   | (with_reducible exact ih1 _ _ _ _ _ _ _ _ _ _ _ _ _ _ _ _ _ _ _ _ _ _ _ _ _ _ _ _ _ _ _)
   | (with_reducible exact ih2 _ _)
   | (with_reducible exact eth_Put.mono _ _ _ _ _ _ _ _ _ _ _ _ _ _ _)
   | (with_reducible exact rampartref02_Same.mono _ _ _ _ _ _ _ _ _ _ _ _ _ _ _ _ _ _ _ _ _ _ _ _ _ _ _)
   | (with_reducible exact LeO.refl _)
   | (with_reducible exact LeO.none _)
   | (with_reducible refine LeO.ite ?_ ?_)
   | (with_reducible refine LeO.bind ?_ (fun _ => ?_))
   | exact ih0 _ _ _ _ _ _ _ _ _ _ _ _ _ _ _ _
   | exact ih1 _ _ _ _ _ _ _ _ _ _ _ _ _ _ _ _ _ _ _ _ _ _ _ _ _ _ _ _ _ _ _
   | exact ih2 _ _
   | exact eth_Put.mono _ _ _ _ _ _ _ _ _ _ _ _ _ _ _
   | exact rampartref02_Same.mono _ _ _ _ _ _ _ _ _ _ _ _ _ _ _ _ _ _ _ _ _ _ _ _ _ _ _
   | exact LeO.none _
   | refine LeO.ite ?_ ?_
   | refine LeO.bind ?_ (fun _ => ?_)
theorem rampartlaw02_EthBack.mono : ∀ a0 a1 a2 a3 a4 a5 a6 a7 a8 a9 a10 a11 a12 a13 a14 k, LeO (rampartlaw02_EthBack.f k a0 a1 a2 a3 a4 a5 a6 a7 a8 a9 a10 a11 a12 a13 a14) (rampartlaw02_EthBack.f (k + 1) a0 a1 a2 a3 a4 a5 a6 a7 a8 a9 a10 a11 a12 a13 a14) := by
 intro a0 a1 a2 a3 a4 a5 a6 a7 a8 a9 a10 a11 a12 a13 a14 k
 obtain ⟨ih0, ih1, ih2⟩ := rampartlaw02_EthBack.mono_l k
 unfold rampartlaw02_EthBack.f
 repeat' first
   | (with_reducible exact ih0 _ _ _ _ _ _ _ _ _ _ _ _ _ _ _ _)
   | (with_reducible exact ih1 _ _ _ _ _ _ _ _ _ _ _ _ _ _ _ _ _ _ _ _ _ _ _ _ _ _ _ _ _ _ _)
   | (with_reducible exact ih2 _ _)
   | (with_reducible exact eth_Put.mono _ _ _ _ _ _ _ _ _ _ _ _ _ _ _)
   | (with_reducible exact rampartref02_Same.mono _ _ _ _ _ _ _ _ _ _ _ _ _ _ _ _ _ _ _ _ _ _ _ _ _ _ _)
   | (with_reducible exact LeO.refl _)
   | (with_reducible exact LeO.none _)
   | (with_reducible refine LeO.ite ?_ ?_)
   | (with_reducible refine LeO.bind ?_ (fun _ => ?_))
   | exact ih0 _ _ _ _ _ _ _ _ _ _ _ _ _ _ _ _
   | exact ih1 _ _ _ _ _ _ _ _ _ _ _ _ _ _ _ _ _ _ _ _ _ _ _ _ _ _ _ _ _ _ _
   | exact ih2 _ _
   | exact eth_Put.mono _ _ _ _ _ _ _ _ _ _ _ _ _ _ _
   | exact rampartref02_Same.mono _ _ _ _ _ _ _ _ _ _ _ _ _ _ _ _ _ _ _ _ _ _ _ _ _ _ _
   | exact LeO.none _
   | refine LeO.ite ?_ ?_
   | refine LeO.bind ?_ (fun _ => ?_)
theorem rampartlaw02_EthBack.j1_no {k : Nat} {y0 : ByteArray} {y1 : ByteArray} {y2 : ByteArray} {y3 : Int} {y5 : Int} {y6 : Int} {y7 : Int} {y8 : Int} {y9 : Int} {y10 : Int} {y11 : Int} {y12 : Int} {y13 : Int} {y14 : Int} {y15 : Int} {y16 : Int} {y17 : Int} {y18 : Int} {y19 : Int} {y20 : Int} {y21 : Int} {y22 : Int} {y23 : Int} {y24 : Int} {y25 : Int} {y26 : Int} {y27 : Int} {y28 : Int} {y29 : Int} {y30 : Int} {r : Bool} (hr : r = true) : ¬ (rampartlaw02_EthBack.j1 k y0 y1 y2 y3 true y5 y6 y7 y8 y9 y10 y11 y12 y13 y14 y15 y16 y17 y18 y19 y20 y21 y22 y23 y24 y25 y26 y27 y28 y29 y30 = some r) := by
 subst hr
 cases k with
 | zero => intro h; simp only [rampartlaw02_EthBack.j1] at h; cases h
 | succ k => intro h; simp only [rampartlaw02_EthBack.j1, if_true] at h; cases h
theorem rampartlaw02_EthBack.j2_no {k : Nat} {y0 : ByteArray} {r : Bool} (hr : r = true) : ¬ (rampartlaw02_EthBack.j2 k y0 true = some r) := by
 subst hr
 cases k with
 | zero => intro h; simp only [rampartlaw02_EthBack.j2] at h; cases h
 | succ k => intro h; simp only [rampartlaw02_EthBack.j2, if_true] at h; cases h
set_option maxHeartbeats 8000000 in
set_option maxRecDepth 100000 in
theorem rampartlaw02_EthBack.calls (k : Nat) (a0_0 : Int) (a0_1 : Int) (a0_2 : Int) (a0_3 : Int) (a0_4 : Int) (a0_5 : Int) (a0_6 : Int) (a0_7 : Int) (a0_8 : Int) (a0_9 : Int) (a0_10 : Int) (a0_11 : Int) (a0_12 : Int) (a1 : ByteArray) (a2 : ByteArray) (r : Bool) (w : World) (h : rampartlaw02_EthBack.f k a0_0 a0_1 a0_2 a0_3 a0_4 a0_5 a0_6 a0_7 a0_8 a0_9 a0_10 a0_11 a0_12 a1 a2 = some r) (HR0 : r = true) :
  Calls Try.prog 8 #[.agg #[.int .u8 a0_0, .int .u8 a0_1, .int .u8 a0_2, .int .u8 a0_3, .int .u8 a0_4, .int .u8 a0_5, .int .u8 a0_6, .int .u8 a0_7, .int .u8 a0_8, .int .u8 a0_9, .int .u8 a0_10, .int .u8 a0_11, .int .i64 a0_12], .string a1, .string a2] w fun e w' => e = .returned (.bool r) ∧ Below w.heap.size w w' := by
 have HR := Aside0.mk HR0
 clear HR0
 have hu26 := Try.underlying26
 have hu24 := Try.underlying24
 have HB := Aside0.mk (Below.refl w.heap.size w)
 have H : (if (a1.size : Int) > 3500 then (rampartlaw02_EthBack.j0 k a1 a2 true a0_0 a0_1 a0_2 a0_3 a0_4 a0_5 a0_6 a0_7 a0_8 a0_9 a0_10 a0_11 a0_12) else (rampartlaw02_EthBack.j0 k a1 a2 (decide ((a2.size : Int) > 4000)) a0_0 a0_1 a0_2 a0_3 a0_4 a0_5 a0_6 a0_7 a0_8 a0_9 a0_10 a0_11 a0_12)) = some r := h
 clear h
 have HC4 := Aside0.mk H
 clear H
 go_enter Try.func8, Try.ntmps8
 go_upto_region 1 with (first | ((with_reducible refine gate_dst (N := 3) rfl ?_); (try (refine gate_guard (by rfl) ?_; dsimp only)); refine box_event ?hg (N := 3) ?hd (cs := #[.int .u8 a0_0, .int .u8 a0_1, .int .u8 a0_2, .int .u8 a0_3, .int .u8 a0_4, .int .u8 a0_5, .int .u8 a0_6, .int .u8 a0_7, .int .u8 a0_8, .int .u8 a0_9, .int .u8 a0_10, .int .u8 a0_11, .int .i64 a0_12]) (t := 26) ?hr ?_; (case hd => rfl); (case hg => rfl); (case hr => first | (go_simp; done) | (go_simp; rfl)); intro gb151 hg w5 hbox hb; have n0_ := Aside0.mk (below_step (by repeat (first | (with_reducible first | exact HB.out | apply below_alloc | apply pw_below_drewN | apply below_drew1) | exact HB.out)) hb); have n1_ := Aside0.mk (hbox); have n2_ := Aside0.mk ((by rw [hg]; exact (below_size (by repeat (first | (with_reducible first | exact HB.out | apply below_alloc | apply pw_below_drewN | apply below_drew1) | exact HB.out))) : w.heap.size ≤ gb151)); have n3_ := Aside0.mk ((by rw [hg]; exact (below_size (by repeat (first | (with_reducible first | exact HB.out | apply below_alloc | apply pw_below_drewN | apply below_drew1) | exact HB.out))) : w.heap.size ≤ gb151)); clear HB; have HB := n0_; have BK151 := n1_; have GW151 := n2_; have GE151 := n3_; clear n0_ n1_ n2_ n3_; clear hb hbox hg))
 (try simp only [Act.put, List.setIfInBounds_toArray, List.set_cons_zero, List.set_cons_succ])
 go_cut [21] (fun v21 wc => ∃ (kq : Nat) (x21_3 : Bool), v21 = .bool x21_3 ∧ Aside0 (rampartlaw02_EthBack.j0 kq a1 a2 x21_3 a0_0 a0_1 a0_2 a0_3 a0_4 a0_5 a0_6 a0_7 a0_8 a0_9 a0_10 a0_11 a0_12 = some r) ∧ Aside0 (kq ≤ k) ∧ Aside0 (wc.heap[gb151]? = some (.cells #[.int .u8 a0_0, .int .u8 a0_1, .int .u8 a0_2, .int .u8 a0_3, .int .u8 a0_4, .int .u8 a0_5, .int .u8 a0_6, .int .u8 a0_7, .int .u8 a0_8, .int .u8 a0_9, .int .u8 a0_10, .int .u8 a0_11, .int .i64 a0_12] 26 (0, 0))) ∧ Aside0 (Below w.heap.size w wc))
 case first =>
  have H := HC4.out
  clear HC4
  by_cases c6 : (a1.size : Int) > 3500
  ·
   rw [if_pos c6] at H
   have c6b0 : decide (3500 < (a1.size : Int)) = true := decide_eq_true c6
   have c6b1 : decide (3500 < a1.size) = true := decide_eq_true (by omega)
   clear c6
   (first | rw [c6b0] | (simp only [i64_w, i32_w]; rw [c6b0]) | skip)
   have H' := Aside0.mk H
   clear H
   go_wp2
   go_meet
   case rel => exact ⟨_, (true), (by first | rfl | (simp; done) | (simp [*]; done)), H', ⟨by first | omega | exact Nat.le_refl _⟩, ⟨by (with_reducible repeat (first | refine blk_drewN ?_ _ | refine blk_drew ?_ | refine blk_alloc ?_ _)); exact BK151.out⟩, ⟨by repeat (first | (with_reducible first | exact HB.out | apply below_alloc | apply pw_below_drewN | apply below_drew1 | refine below_set ?_ GE151.out) | exact HB.out)⟩⟩
  ·
   rw [if_neg c6] at H
   have c6b0 : decide (3500 < (a1.size : Int)) = false := decide_eq_false c6
   have c6b1 : decide (3500 < a1.size) = false := decide_eq_false (by omega)
   clear c6
   (first | rw [c6b0] | (simp only [i64_w, i32_w]; rw [c6b0]) | skip)
   have H' := Aside0.mk H
   clear H
   go_wp2
   go_meet
   case rel => exact ⟨_, (decide ((a2.size : Int) > 4000)), (by first | rfl | (simp; done) | (simp [*]; done)), H', ⟨by first | omega | exact Nat.le_refl _⟩, ⟨by (with_reducible repeat (first | refine blk_drewN ?_ _ | refine blk_drew ?_ | refine blk_alloc ?_ _)); exact BK151.out⟩, ⟨by repeat (first | (with_reducible first | exact HB.out | apply below_alloc | apply pw_below_drewN | apply below_drew1 | refine below_set ?_ GE151.out) | exact HB.out)⟩⟩
 case rest =>
  clear HC4
  try clear p2
  try clear c6
  try clear c6b0
  try clear c6b1
  obtain ⟨kq, x21_3, rfl, HA, HJ3, BK151, HB⟩ := hcut
  cases kq with
  | zero => exact absurd HA.out (by simp [rampartlaw02_EthBack.j0])
  | succ kj3 =>
   have H := HA.out
   clear HA
   simp only [rampartlaw02_EthBack.j0] at H
   by_cases c7 : x21_3 = true
   ·
    subst c7
    have H1 : ((rampartlaw02_awake.f).bind fun t152 => (some t152)) = some r := by rw [if_pos rfl] at H; exact H
    clear H
    have H := H1
    clear H1
    replace H := Option.bind_eq_some_iff.mp H
    obtain ⟨t152, A80, H⟩ := H
    replace H : (some t152) = some r := H
    have A8 := Aside0.mk A80
    clear A80
    obtain rfl := Option.some.inj H
    go_wp2_with (first | ((with_reducible refine gate_callee (f := 14) rfl ?_); refine goesL_ (some 22) rfl rfl Try.func14 (by kernel_rfl) rfl #[] rfl (by (try simp only [List.map_toArray, List.map_cons, List.map_nil]); first | done | rfl | (simp only [List.length_drop, List.length_take]; rfl)) ?_; (with_reducible refine (rampartlaw02_awake.calls  t152 _ A8.out (by first | rfl | exact HR.out)).mono ?_); rintro e w9 ⟨rfl, hb⟩; refine ⟨_, rfl, ?_⟩; have n0_ := Aside0.mk (blk_below (g := gb151) (o := .cells #[.int .u8 a0_0, .int .u8 a0_1, .int .u8 a0_2, .int .u8 a0_3, .int .u8 a0_4, .int .u8 a0_5, .int .u8 a0_6, .int .u8 a0_7, .int .u8 a0_8, .int .u8 a0_9, .int .u8 a0_10, .int .u8 a0_11, .int .i64 a0_12] 26 (0, 0)) (by (with_reducible repeat (first | refine blk_drewN ?_ _ | refine blk_drew ?_ | refine blk_alloc ?_ _)); exact BK151.out) hb); have n1_ := Aside0.mk (below_step (by repeat (first | (with_reducible first | exact HB.out | apply below_alloc | apply pw_below_drewN | apply below_drew1 | refine below_set ?_ GE151.out) | exact HB.out)) hb); clear BK151; clear HB; have BK151 := n0_; have HB := n1_; clear n0_ n1_; (try clear hb); (try clear hb2); (try clear hk); (try clear hi)))
    go_ret
    exact ⟨by first | rfl | (simp [errW_none, errW_some] <;> rfl) | (simp [*, errW_none, errW_some] <;> rfl), by repeat (first | (with_reducible first | exact HB.out | apply below_alloc | apply pw_below_drewN | apply below_drew1 | refine below_set ?_ GE151.out) | exact HB.out)⟩
   ·
    replace c7 := Bool.eq_false_iff.mpr c7
    subst c7
    have H1 : ((eth_Put.f kj3 a0_0 a0_1 a0_2 a0_3 a0_4 a0_5 a0_6 a0_7 a0_8 a0_9 a0_10 a0_11 (Go.bits .and .i64 a0_12 65535) a1).bind fun t153 => ((eth_Get.f t153).bind fun bt154 => (if (t153.size : Int) = (wrap64 (14 + (a1.size : Int))) then (if ((bt154.2.2.2.2.2.2.2.2.2.2.2.2.2.2 == 0) != (decide ((t153.size : Int) ≤ 3000))) = true then (rampartlaw02_EthBack.j1 kj3 a1 a2 bt154.2.2.2.2.2.2.2.2.2.2.2.2.2.1 bt154.2.2.2.2.2.2.2.2.2.2.2.2.2.2 true a0_0 a0_1 a0_2 a0_3 a0_4 a0_5 a0_6 a0_7 a0_8 a0_9 a0_10 a0_11 (Go.bits .and .i64 a0_12 65535) bt154.1 bt154.2.1 bt154.2.2.1 bt154.2.2.2.1 bt154.2.2.2.2.1 bt154.2.2.2.2.2.1 bt154.2.2.2.2.2.2.1 bt154.2.2.2.2.2.2.2.1 bt154.2.2.2.2.2.2.2.2.1 bt154.2.2.2.2.2.2.2.2.2.1 bt154.2.2.2.2.2.2.2.2.2.2.1 bt154.2.2.2.2.2.2.2.2.2.2.2.1 bt154.2.2.2.2.2.2.2.2.2.2.2.2.1) else (if bt154.2.2.2.2.2.2.2.2.2.2.2.2.2.2 = 0 then (rampartlaw02_EthBack.j1 kj3 a1 a2 bt154.2.2.2.2.2.2.2.2.2.2.2.2.2.1 bt154.2.2.2.2.2.2.2.2.2.2.2.2.2.2 false a0_0 a0_1 a0_2 a0_3 a0_4 a0_5 a0_6 a0_7 a0_8 a0_9 a0_10 a0_11 (Go.bits .and .i64 a0_12 65535) bt154.1 bt154.2.1 bt154.2.2.1 bt154.2.2.2.1 bt154.2.2.2.2.1 bt154.2.2.2.2.2.1 bt154.2.2.2.2.2.2.1 bt154.2.2.2.2.2.2.2.1 bt154.2.2.2.2.2.2.2.2.1 bt154.2.2.2.2.2.2.2.2.2.1 bt154.2.2.2.2.2.2.2.2.2.2.1 bt154.2.2.2.2.2.2.2.2.2.2.2.1 bt154.2.2.2.2.2.2.2.2.2.2.2.2.1) else (rampartlaw02_EthBack.j1 kj3 a1 a2 bt154.2.2.2.2.2.2.2.2.2.2.2.2.2.1 bt154.2.2.2.2.2.2.2.2.2.2.2.2.2.2 (bt154.2.2.2.2.2.2.2.2.2.2.2.2.2.2 != 5) a0_0 a0_1 a0_2 a0_3 a0_4 a0_5 a0_6 a0_7 a0_8 a0_9 a0_10 a0_11 (Go.bits .and .i64 a0_12 65535) bt154.1 bt154.2.1 bt154.2.2.1 bt154.2.2.2.1 bt154.2.2.2.2.1 bt154.2.2.2.2.2.1 bt154.2.2.2.2.2.2.1 bt154.2.2.2.2.2.2.2.1 bt154.2.2.2.2.2.2.2.2.1 bt154.2.2.2.2.2.2.2.2.2.1 bt154.2.2.2.2.2.2.2.2.2.2.1 bt154.2.2.2.2.2.2.2.2.2.2.2.1 bt154.2.2.2.2.2.2.2.2.2.2.2.2.1))) else (rampartlaw02_EthBack.j1 kj3 a1 a2 bt154.2.2.2.2.2.2.2.2.2.2.2.2.2.1 bt154.2.2.2.2.2.2.2.2.2.2.2.2.2.2 true a0_0 a0_1 a0_2 a0_3 a0_4 a0_5 a0_6 a0_7 a0_8 a0_9 a0_10 a0_11 (Go.bits .and .i64 a0_12 65535) bt154.1 bt154.2.1 bt154.2.2.1 bt154.2.2.2.1 bt154.2.2.2.2.1 bt154.2.2.2.2.2.1 bt154.2.2.2.2.2.2.1 bt154.2.2.2.2.2.2.2.1 bt154.2.2.2.2.2.2.2.2.1 bt154.2.2.2.2.2.2.2.2.2.1 bt154.2.2.2.2.2.2.2.2.2.2.1 bt154.2.2.2.2.2.2.2.2.2.2.2.1 bt154.2.2.2.2.2.2.2.2.2.2.2.2.1)))) = some r := by rw [if_neg (show ¬ (false = true) by decide)] at H; exact H
    clear H
    have H := H1
    clear H1
    replace H := Option.bind_eq_some_iff.mp H
    obtain ⟨t153, A100, H⟩ := H
    replace H : ((eth_Get.f t153).bind fun bt154 => (if (t153.size : Int) = (wrap64 (14 + (a1.size : Int))) then (if ((bt154.2.2.2.2.2.2.2.2.2.2.2.2.2.2 == 0) != (decide ((t153.size : Int) ≤ 3000))) = true then (rampartlaw02_EthBack.j1 kj3 a1 a2 bt154.2.2.2.2.2.2.2.2.2.2.2.2.2.1 bt154.2.2.2.2.2.2.2.2.2.2.2.2.2.2 true a0_0 a0_1 a0_2 a0_3 a0_4 a0_5 a0_6 a0_7 a0_8 a0_9 a0_10 a0_11 (Go.bits .and .i64 a0_12 65535) bt154.1 bt154.2.1 bt154.2.2.1 bt154.2.2.2.1 bt154.2.2.2.2.1 bt154.2.2.2.2.2.1 bt154.2.2.2.2.2.2.1 bt154.2.2.2.2.2.2.2.1 bt154.2.2.2.2.2.2.2.2.1 bt154.2.2.2.2.2.2.2.2.2.1 bt154.2.2.2.2.2.2.2.2.2.2.1 bt154.2.2.2.2.2.2.2.2.2.2.2.1 bt154.2.2.2.2.2.2.2.2.2.2.2.2.1) else (if bt154.2.2.2.2.2.2.2.2.2.2.2.2.2.2 = 0 then (rampartlaw02_EthBack.j1 kj3 a1 a2 bt154.2.2.2.2.2.2.2.2.2.2.2.2.2.1 bt154.2.2.2.2.2.2.2.2.2.2.2.2.2.2 false a0_0 a0_1 a0_2 a0_3 a0_4 a0_5 a0_6 a0_7 a0_8 a0_9 a0_10 a0_11 (Go.bits .and .i64 a0_12 65535) bt154.1 bt154.2.1 bt154.2.2.1 bt154.2.2.2.1 bt154.2.2.2.2.1 bt154.2.2.2.2.2.1 bt154.2.2.2.2.2.2.1 bt154.2.2.2.2.2.2.2.1 bt154.2.2.2.2.2.2.2.2.1 bt154.2.2.2.2.2.2.2.2.2.1 bt154.2.2.2.2.2.2.2.2.2.2.1 bt154.2.2.2.2.2.2.2.2.2.2.2.1 bt154.2.2.2.2.2.2.2.2.2.2.2.2.1) else (rampartlaw02_EthBack.j1 kj3 a1 a2 bt154.2.2.2.2.2.2.2.2.2.2.2.2.2.1 bt154.2.2.2.2.2.2.2.2.2.2.2.2.2.2 (bt154.2.2.2.2.2.2.2.2.2.2.2.2.2.2 != 5) a0_0 a0_1 a0_2 a0_3 a0_4 a0_5 a0_6 a0_7 a0_8 a0_9 a0_10 a0_11 (Go.bits .and .i64 a0_12 65535) bt154.1 bt154.2.1 bt154.2.2.1 bt154.2.2.2.1 bt154.2.2.2.2.1 bt154.2.2.2.2.2.1 bt154.2.2.2.2.2.2.1 bt154.2.2.2.2.2.2.2.1 bt154.2.2.2.2.2.2.2.2.1 bt154.2.2.2.2.2.2.2.2.2.1 bt154.2.2.2.2.2.2.2.2.2.2.1 bt154.2.2.2.2.2.2.2.2.2.2.2.1 bt154.2.2.2.2.2.2.2.2.2.2.2.2.1))) else (rampartlaw02_EthBack.j1 kj3 a1 a2 bt154.2.2.2.2.2.2.2.2.2.2.2.2.2.1 bt154.2.2.2.2.2.2.2.2.2.2.2.2.2.2 true a0_0 a0_1 a0_2 a0_3 a0_4 a0_5 a0_6 a0_7 a0_8 a0_9 a0_10 a0_11 (Go.bits .and .i64 a0_12 65535) bt154.1 bt154.2.1 bt154.2.2.1 bt154.2.2.2.1 bt154.2.2.2.2.1 bt154.2.2.2.2.2.1 bt154.2.2.2.2.2.2.1 bt154.2.2.2.2.2.2.2.1 bt154.2.2.2.2.2.2.2.2.1 bt154.2.2.2.2.2.2.2.2.2.1 bt154.2.2.2.2.2.2.2.2.2.2.1 bt154.2.2.2.2.2.2.2.2.2.2.2.1 bt154.2.2.2.2.2.2.2.2.2.2.2.2.1))) = some r := H
    have A10 := Aside0.mk A100
    clear A100
    replace H := Option.bind_eq_some_iff.mp H
    obtain ⟨⟨t154, t155, t156, t157, t158, t159, t160, t161, t162, t163, t164, t165, t166, t167, t168⟩, A110, H⟩ := H
    replace H : (if (t153.size : Int) = (wrap64 (14 + (a1.size : Int))) then (if ((t168 == 0) != (decide ((t153.size : Int) ≤ 3000))) = true then (rampartlaw02_EthBack.j1 kj3 a1 a2 t167 t168 true a0_0 a0_1 a0_2 a0_3 a0_4 a0_5 a0_6 a0_7 a0_8 a0_9 a0_10 a0_11 (Go.bits .and .i64 a0_12 65535) t154 t155 t156 t157 t158 t159 t160 t161 t162 t163 t164 t165 t166) else (if t168 = 0 then (rampartlaw02_EthBack.j1 kj3 a1 a2 t167 t168 false a0_0 a0_1 a0_2 a0_3 a0_4 a0_5 a0_6 a0_7 a0_8 a0_9 a0_10 a0_11 (Go.bits .and .i64 a0_12 65535) t154 t155 t156 t157 t158 t159 t160 t161 t162 t163 t164 t165 t166) else (rampartlaw02_EthBack.j1 kj3 a1 a2 t167 t168 (t168 != 5) a0_0 a0_1 a0_2 a0_3 a0_4 a0_5 a0_6 a0_7 a0_8 a0_9 a0_10 a0_11 (Go.bits .and .i64 a0_12 65535) t154 t155 t156 t157 t158 t159 t160 t161 t162 t163 t164 t165 t166))) else (rampartlaw02_EthBack.j1 kj3 a1 a2 t167 t168 true a0_0 a0_1 a0_2 a0_3 a0_4 a0_5 a0_6 a0_7 a0_8 a0_9 a0_10 a0_11 (Go.bits .and .i64 a0_12 65535) t154 t155 t156 t157 t158 t159 t160 t161 t162 t163 t164 t165 t166)) = some r := H
    have A11 := Aside0.mk A110
    clear A110
    have HC12 := Aside0.mk H
    clear H
    have hcz13_0 : wc.cell? ⟨gb151, 0, none⟩ = some (.int .u8 a0_0) := (blk_cell BK151.out 0).trans rfl
    have hcz13_1 : wc.cell? ⟨gb151, 1, none⟩ = some (.int .u8 a0_1) := (blk_cell BK151.out 1).trans rfl
    have hcz13_2 : wc.cell? ⟨gb151, 2, none⟩ = some (.int .u8 a0_2) := (blk_cell BK151.out 2).trans rfl
    have hcz13_3 : wc.cell? ⟨gb151, 3, none⟩ = some (.int .u8 a0_3) := (blk_cell BK151.out 3).trans rfl
    have hcz13_4 : wc.cell? ⟨gb151, 4, none⟩ = some (.int .u8 a0_4) := (blk_cell BK151.out 4).trans rfl
    have hcz13_5 : wc.cell? ⟨gb151, 5, none⟩ = some (.int .u8 a0_5) := (blk_cell BK151.out 5).trans rfl
    have hcz13_6 : wc.cell? ⟨gb151, 6, none⟩ = some (.int .u8 a0_6) := (blk_cell BK151.out 6).trans rfl
    have hcz13_7 : wc.cell? ⟨gb151, 7, none⟩ = some (.int .u8 a0_7) := (blk_cell BK151.out 7).trans rfl
    have hcz13_8 : wc.cell? ⟨gb151, 8, none⟩ = some (.int .u8 a0_8) := (blk_cell BK151.out 8).trans rfl
    have hcz13_9 : wc.cell? ⟨gb151, 9, none⟩ = some (.int .u8 a0_9) := (blk_cell BK151.out 9).trans rfl
    have hcz13_10 : wc.cell? ⟨gb151, 10, none⟩ = some (.int .u8 a0_10) := (blk_cell BK151.out 10).trans rfl
    have hcz13_11 : wc.cell? ⟨gb151, 11, none⟩ = some (.int .u8 a0_11) := (blk_cell BK151.out 11).trans rfl
    have hcz13_12 : wc.cell? ⟨gb151, 12, none⟩ = some (.int .i64 a0_12) := (blk_cell BK151.out 12).trans rfl
    have hfz13_0 := blk_frozen BK151.out 0
    have hfz13_1 := blk_frozen BK151.out 1
    have hfz13_2 := blk_frozen BK151.out 2
    have hfz13_3 := blk_frozen BK151.out 3
    have hfz13_4 := blk_frozen BK151.out 4
    have hfz13_5 := blk_frozen BK151.out 5
    have hfz13_6 := blk_frozen BK151.out 6
    have hfz13_7 := blk_frozen BK151.out 7
    have hfz13_8 := blk_frozen BK151.out 8
    have hfz13_9 := blk_frozen BK151.out 9
    have hfz13_10 := blk_frozen BK151.out 10
    have hfz13_11 := blk_frozen BK151.out 11
    have hfz13_12 := blk_frozen BK151.out 12
    go_upto_region 6 with (first | ((with_reducible refine gate_callee (f := 21) rfl ?_); refine goesL_ (some 29) rfl rfl Try.func21 (by kernel_rfl) rfl #[.agg #[.int .u8 a0_0, .int .u8 a0_1, .int .u8 a0_2, .int .u8 a0_3, .int .u8 a0_4, .int .u8 a0_5, .int .u8 a0_6, .int .u8 a0_7, .int .u8 a0_8, .int .u8 a0_9, .int .u8 a0_10, .int .u8 a0_11, .int .i64 (Go.bits .and .i64 a0_12 65535)], .string a1] rfl (by (try simp only [List.map_toArray, List.map_cons, List.map_nil]); first | done | rfl | (simp only [List.length_drop, List.length_take]; rfl)) ?_; (with_reducible refine (eth_Put.calls kj3 a0_0 a0_1 a0_2 a0_3 a0_4 a0_5 a0_6 a0_7 a0_8 a0_9 a0_10 a0_11 (Go.bits .and .i64 a0_12 65535) a1 t153 _ A10.out).mono ?_); rintro e w14 ⟨rfl, hb⟩; refine ⟨_, rfl, ?_⟩; have n0_ := Aside0.mk (blk_below (g := gb151) (o := .cells #[.int .u8 a0_0, .int .u8 a0_1, .int .u8 a0_2, .int .u8 a0_3, .int .u8 a0_4, .int .u8 a0_5, .int .u8 a0_6, .int .u8 a0_7, .int .u8 a0_8, .int .u8 a0_9, .int .u8 a0_10, .int .u8 a0_11, .int .i64 (Go.bits .and .i64 a0_12 65535)] 26 (0, 0)) (by (with_reducible repeat (first | refine blk_drewN ?_ _ | refine blk_drew ?_ | refine blk_alloc ?_ _)); refine blk_put (cs := #[.int .u8 a0_0, .int .u8 a0_1, .int .u8 a0_2, .int .u8 a0_3, .int .u8 a0_4, .int .u8 a0_5, .int .u8 a0_6, .int .u8 a0_7, .int .u8 a0_8, .int .u8 a0_9, .int .u8 a0_10, .int .u8 a0_11, .int .i64 a0_12]) ?_ 12 _ rfl; (with_reducible repeat (first | refine blk_drewN ?_ _ | refine blk_drew ?_ | refine blk_alloc ?_ _)); exact BK151.out) hb); have n1_ := Aside0.mk (below_step (by repeat (first | (with_reducible first | exact HB.out | apply below_alloc | apply pw_below_drewN | apply below_drew1 | refine below_set ?_ GE151.out) | exact HB.out)) hb); clear BK151; clear HB; have BK151 := n0_; have HB := n1_; clear n0_ n1_; (try clear hb); (try clear hb2); (try clear hk); (try clear hi)) | ((with_reducible refine gate_callee (f := 13) rfl ?_); refine goesL_ (some 32) rfl rfl Try.func13 (by kernel_rfl) rfl #[.string t153] rfl (by (try simp only [List.map_toArray, List.map_cons, List.map_nil]); first | done | rfl | (simp only [List.length_drop, List.length_take]; rfl)) ?_; (with_reducible refine (eth_Get.calls t153 t154 t155 t156 t157 t158 t159 t160 t161 t162 t163 t164 t165 t166 t167 t168 _ A11.out).mono ?_); rintro e w15 ⟨rfl, hb⟩; refine ⟨_, rfl, ?_⟩; have n0_ := Aside0.mk (blk_below (g := gb151) (o := .cells #[.int .u8 a0_0, .int .u8 a0_1, .int .u8 a0_2, .int .u8 a0_3, .int .u8 a0_4, .int .u8 a0_5, .int .u8 a0_6, .int .u8 a0_7, .int .u8 a0_8, .int .u8 a0_9, .int .u8 a0_10, .int .u8 a0_11, .int .i64 (Go.bits .and .i64 a0_12 65535)] 26 (0, 0)) (by (with_reducible repeat (first | refine blk_drewN ?_ _ | refine blk_drew ?_ | refine blk_alloc ?_ _)); exact BK151.out) hb); have n1_ := Aside0.mk (below_step (by repeat (first | (with_reducible first | exact HB.out | apply below_alloc | apply pw_below_drewN | apply below_drew1 | refine below_set ?_ GE151.out) | exact HB.out)) hb); clear BK151; clear HB; have BK151 := n0_; have HB := n1_; clear n0_ n1_; (try clear hb); (try clear hb2); (try clear hk); (try clear hi)) | ((with_reducible refine gate_dst (N := 8) rfl ?_); (try (refine gate_guard (by rfl) ?_; dsimp only)); refine box_event ?hg (N := 8) ?hd (cs := #[.int .u8 0, .int .u8 0, .int .u8 0, .int .u8 0, .int .u8 0, .int .u8 0, .int .u8 0, .int .u8 0, .int .u8 0, .int .u8 0, .int .u8 0, .int .u8 0, .int .i64 0]) (t := 26) ?hr ?_; (case hd => rfl); (case hg => rfl); (case hr => first | (go_simp; done) | (go_simp; rfl)); intro gb169 hg w16 hbox hb; have n0_ := Aside0.mk (blk_below (g := gb151) (o := .cells #[.int .u8 a0_0, .int .u8 a0_1, .int .u8 a0_2, .int .u8 a0_3, .int .u8 a0_4, .int .u8 a0_5, .int .u8 a0_6, .int .u8 a0_7, .int .u8 a0_8, .int .u8 a0_9, .int .u8 a0_10, .int .u8 a0_11, .int .i64 (Go.bits .and .i64 a0_12 65535)] 26 (0, 0)) (by (with_reducible repeat (first | refine blk_drewN ?_ _ | refine blk_drew ?_ | refine blk_alloc ?_ _)); exact BK151.out) hb); have n1_ := Aside0.mk (below_step (by repeat (first | (with_reducible first | exact HB.out | apply below_alloc | apply pw_below_drewN | apply below_drew1 | refine below_set ?_ GE151.out) | exact HB.out)) hb); have n2_ := Aside0.mk (hbox); have n3_ := Aside0.mk ((by rw [hg]; exact (below_size (by repeat (first | (with_reducible first | exact HB.out | apply below_alloc | apply pw_below_drewN | apply below_drew1 | refine below_set ?_ GE151.out) | exact HB.out))) : w.heap.size ≤ gb169)); have n4_ := Aside0.mk ((by rw [hg]; exact (below_size (by repeat (first | (with_reducible first | exact HB.out | apply below_alloc | apply pw_below_drewN | apply below_drew1 | refine below_set ?_ GE151.out) | exact HB.out))) : w.heap.size ≤ gb169)); have n5_ := Aside0.mk ((by rw [hg]; exact Nat.ne_of_lt (blk_lt (g := gb151) (o := .cells #[.int .u8 a0_0, .int .u8 a0_1, .int .u8 a0_2, .int .u8 a0_3, .int .u8 a0_4, .int .u8 a0_5, .int .u8 a0_6, .int .u8 a0_7, .int .u8 a0_8, .int .u8 a0_9, .int .u8 a0_10, .int .u8 a0_11, .int .i64 (Go.bits .and .i64 a0_12 65535)] 26 (0, 0)) (by (with_reducible repeat (first | refine blk_drewN ?_ _ | refine blk_drew ?_ | refine blk_alloc ?_ _)); exact BK151.out)) : gb151 ≠ gb169)); have n6_ := Aside0.mk ((by rw [hg]; exact Nat.ne_of_gt (blk_lt (g := gb151) (o := .cells #[.int .u8 a0_0, .int .u8 a0_1, .int .u8 a0_2, .int .u8 a0_3, .int .u8 a0_4, .int .u8 a0_5, .int .u8 a0_6, .int .u8 a0_7, .int .u8 a0_8, .int .u8 a0_9, .int .u8 a0_10, .int .u8 a0_11, .int .i64 (Go.bits .and .i64 a0_12 65535)] 26 (0, 0)) (by (with_reducible repeat (first | refine blk_drewN ?_ _ | refine blk_drew ?_ | refine blk_alloc ?_ _)); exact BK151.out)) : gb169 ≠ gb151)); clear BK151; clear HB; have BK151 := n0_; have HB := n1_; have BK169 := n2_; have GW169 := n3_; have GE169 := n4_; have NB151_169 := n5_; have NB169_151 := n6_; clear n0_ n1_ n2_ n3_ n4_ n5_ n6_; clear hb hbox hg; have hnb17 := NB169_151.out; have hnc17 := NB151_169.out; have hcz18_0 : w16.cell? ⟨gb169, 0, none⟩ = some (.int .u8 0) := (blk_cell BK169.out 0).trans rfl; have hcz18_1 : w16.cell? ⟨gb169, 1, none⟩ = some (.int .u8 0) := (blk_cell BK169.out 1).trans rfl; have hcz18_2 : w16.cell? ⟨gb169, 2, none⟩ = some (.int .u8 0) := (blk_cell BK169.out 2).trans rfl; have hcz18_3 : w16.cell? ⟨gb169, 3, none⟩ = some (.int .u8 0) := (blk_cell BK169.out 3).trans rfl; have hcz18_4 : w16.cell? ⟨gb169, 4, none⟩ = some (.int .u8 0) := (blk_cell BK169.out 4).trans rfl; have hcz18_5 : w16.cell? ⟨gb169, 5, none⟩ = some (.int .u8 0) := (blk_cell BK169.out 5).trans rfl; have hcz18_6 : w16.cell? ⟨gb169, 6, none⟩ = some (.int .u8 0) := (blk_cell BK169.out 6).trans rfl; have hcz18_7 : w16.cell? ⟨gb169, 7, none⟩ = some (.int .u8 0) := (blk_cell BK169.out 7).trans rfl; have hcz18_8 : w16.cell? ⟨gb169, 8, none⟩ = some (.int .u8 0) := (blk_cell BK169.out 8).trans rfl; have hcz18_9 : w16.cell? ⟨gb169, 9, none⟩ = some (.int .u8 0) := (blk_cell BK169.out 9).trans rfl; have hcz18_10 : w16.cell? ⟨gb169, 10, none⟩ = some (.int .u8 0) := (blk_cell BK169.out 10).trans rfl; have hcz18_11 : w16.cell? ⟨gb169, 11, none⟩ = some (.int .u8 0) := (blk_cell BK169.out 11).trans rfl; have hcz18_12 : w16.cell? ⟨gb169, 12, none⟩ = some (.int .i64 0) := (blk_cell BK169.out 12).trans rfl; have hfz18_0 := blk_frozen BK169.out 0; have hfz18_1 := blk_frozen BK169.out 1; have hfz18_2 := blk_frozen BK169.out 2; have hfz18_3 := blk_frozen BK169.out 3; have hfz18_4 := blk_frozen BK169.out 4; have hfz18_5 := blk_frozen BK169.out 5; have hfz18_6 := blk_frozen BK169.out 6; have hfz18_7 := blk_frozen BK169.out 7; have hfz18_8 := blk_frozen BK169.out 8; have hfz18_9 := blk_frozen BK169.out 9; have hfz18_10 := blk_frozen BK169.out 10; have hfz18_11 := blk_frozen BK169.out 11; have hfz18_12 := blk_frozen BK169.out 12))
    (try simp only [Act.put, List.setIfInBounds_toArray, List.set_cons_zero, List.set_cons_succ])
    go_cut [57] (fun v57 wc => ∃ (kq : Nat) (x57_11 : Bool), v57 = .bool x57_11 ∧ Aside0 (rampartlaw02_EthBack.j1 kq a1 a2 t167 t168 x57_11 a0_0 a0_1 a0_2 a0_3 a0_4 a0_5 a0_6 a0_7 a0_8 a0_9 a0_10 a0_11 (Go.bits .and .i64 a0_12 65535) t154 t155 t156 t157 t158 t159 t160 t161 t162 t163 t164 t165 t166 = some r) ∧ Aside0 (kq ≤ kj3) ∧ Aside0 (wc.heap[gb151]? = some (.cells #[.int .u8 a0_0, .int .u8 a0_1, .int .u8 a0_2, .int .u8 a0_3, .int .u8 a0_4, .int .u8 a0_5, .int .u8 a0_6, .int .u8 a0_7, .int .u8 a0_8, .int .u8 a0_9, .int .u8 a0_10, .int .u8 a0_11, .int .i64 (Go.bits .and .i64 a0_12 65535)] 26 (0, 0))) ∧ Aside0 (wc.heap[gb169]? = some (.cells #[.int .u8 t154, .int .u8 t155, .int .u8 t156, .int .u8 t157, .int .u8 t158, .int .u8 t159, .int .u8 t160, .int .u8 t161, .int .u8 t162, .int .u8 t163, .int .u8 t164, .int .u8 t165, .int .i64 t166] 26 (0, 0))) ∧ Aside0 (Below w.heap.size w wc))
    case first =>
     have H := HC12.out
     clear HC12
     by_cases c19 : (t153.size : Int) = (wrap64 (14 + (a1.size : Int)))
     ·
      rw [if_pos c19] at H
      have c19b0 : ((t153.size : Int) == (wrap64 (14 + (a1.size : Int)))) = true := beq_iff_eq.mpr c19
      have c19b1 : ((t153.size : Int) != (wrap64 (14 + (a1.size : Int)))) = false := bne_eq_false_iff_eq.mpr c19
      clear c19
      (first | rw [c19b0] | (simp only [i64_w, i32_w]; rw [c19b0]) | skip)
      by_cases c20 : ((t168 == 0) != (decide ((t153.size : Int) ≤ 3000))) = true
      ·
       rw [if_pos c20] at H
       have c20b0 : ((t168 == 0) != (decide ((t153.size : Int) ≤ 3000))) = true := c20
       (try (have c20b1 : decide ((t168 == 0) = (decide ((t153.size : Int) ≤ 3000))) = false := by simpa using c20))
       (try (have c20b2 : ((t168 == 0) == (decide ((t153.size : Int) ≤ 3000))) = false := by simpa using c20))
       (try (have c20b3 : ¬ ((t168 == 0) = (decide ((t153.size : Int) ≤ 3000))) := by simpa using c20))
       clear c20
       have H' := Aside0.mk H
       clear H
       go_wp2
       go_meet
       case rel => exact ⟨_, (true), (by first | rfl | (simp; done) | (simp [*]; done)), H', ⟨by have := HJ3.out; first | omega | exact Nat.le_refl _⟩, ⟨by (with_reducible repeat (first | refine blk_drewN ?_ _ | refine blk_drew ?_ | refine blk_alloc ?_ _)); refine blk_far ?_ NB151_169.out _; (with_reducible repeat (first | refine blk_drewN ?_ _ | refine blk_drew ?_ | refine blk_alloc ?_ _)); refine blk_far ?_ NB151_169.out _; (with_reducible repeat (first | refine blk_drewN ?_ _ | refine blk_drew ?_ | refine blk_alloc ?_ _)); refine blk_far ?_ NB151_169.out _; (with_reducible repeat (first | refine blk_drewN ?_ _ | refine blk_drew ?_ | refine blk_alloc ?_ _)); refine blk_far ?_ NB151_169.out _; (with_reducible repeat (first | refine blk_drewN ?_ _ | refine blk_drew ?_ | refine blk_alloc ?_ _)); refine blk_far ?_ NB151_169.out _; (with_reducible repeat (first | refine blk_drewN ?_ _ | refine blk_drew ?_ | refine blk_alloc ?_ _)); refine blk_far ?_ NB151_169.out _; (with_reducible repeat (first | refine blk_drewN ?_ _ | refine blk_drew ?_ | refine blk_alloc ?_ _)); refine blk_far ?_ NB151_169.out _; (with_reducible repeat (first | refine blk_drewN ?_ _ | refine blk_drew ?_ | refine blk_alloc ?_ _)); refine blk_far ?_ NB151_169.out _; (with_reducible repeat (first | refine blk_drewN ?_ _ | refine blk_drew ?_ | refine blk_alloc ?_ _)); refine blk_far ?_ NB151_169.out _; (with_reducible repeat (first | refine blk_drewN ?_ _ | refine blk_drew ?_ | refine blk_alloc ?_ _)); refine blk_far ?_ NB151_169.out _; (with_reducible repeat (first | refine blk_drewN ?_ _ | refine blk_drew ?_ | refine blk_alloc ?_ _)); refine blk_far ?_ NB151_169.out _; (with_reducible repeat (first | refine blk_drewN ?_ _ | refine blk_drew ?_ | refine blk_alloc ?_ _)); refine blk_far ?_ NB151_169.out _; (with_reducible repeat (first | refine blk_drewN ?_ _ | refine blk_drew ?_ | refine blk_alloc ?_ _)); refine blk_far ?_ NB151_169.out _; (with_reducible repeat (first | refine blk_drewN ?_ _ | refine blk_drew ?_ | refine blk_alloc ?_ _)); exact BK151.out⟩, ⟨by (with_reducible repeat (first | refine blk_drewN ?_ _ | refine blk_drew ?_ | refine blk_alloc ?_ _)); refine blk_put (cs := #[.int .u8 t154, .int .u8 t155, .int .u8 t156, .int .u8 t157, .int .u8 t158, .int .u8 t159, .int .u8 t160, .int .u8 t161, .int .u8 t162, .int .u8 t163, .int .u8 t164, .int .u8 t165, .int .i64 0]) ?_ 12 _ rfl; (with_reducible repeat (first | refine blk_drewN ?_ _ | refine blk_drew ?_ | refine blk_alloc ?_ _)); refine blk_put (cs := #[.int .u8 t154, .int .u8 t155, .int .u8 t156, .int .u8 t157, .int .u8 t158, .int .u8 t159, .int .u8 t160, .int .u8 t161, .int .u8 t162, .int .u8 t163, .int .u8 t164, .int .u8 0, .int .i64 0]) ?_ 11 _ rfl; (with_reducible repeat (first | refine blk_drewN ?_ _ | refine blk_drew ?_ | refine blk_alloc ?_ _)); refine blk_put (cs := #[.int .u8 t154, .int .u8 t155, .int .u8 t156, .int .u8 t157, .int .u8 t158, .int .u8 t159, .int .u8 t160, .int .u8 t161, .int .u8 t162, .int .u8 t163, .int .u8 0, .int .u8 0, .int .i64 0]) ?_ 10 _ rfl; (with_reducible repeat (first | refine blk_drewN ?_ _ | refine blk_drew ?_ | refine blk_alloc ?_ _)); refine blk_put (cs := #[.int .u8 t154, .int .u8 t155, .int .u8 t156, .int .u8 t157, .int .u8 t158, .int .u8 t159, .int .u8 t160, .int .u8 t161, .int .u8 t162, .int .u8 0, .int .u8 0, .int .u8 0, .int .i64 0]) ?_ 9 _ rfl; (with_reducible repeat (first | refine blk_drewN ?_ _ | refine blk_drew ?_ | refine blk_alloc ?_ _)); refine blk_put (cs := #[.int .u8 t154, .int .u8 t155, .int .u8 t156, .int .u8 t157, .int .u8 t158, .int .u8 t159, .int .u8 t160, .int .u8 t161, .int .u8 0, .int .u8 0, .int .u8 0, .int .u8 0, .int .i64 0]) ?_ 8 _ rfl; (with_reducible repeat (first | refine blk_drewN ?_ _ | refine blk_drew ?_ | refine blk_alloc ?_ _)); refine blk_put (cs := #[.int .u8 t154, .int .u8 t155, .int .u8 t156, .int .u8 t157, .int .u8 t158, .int .u8 t159, .int .u8 t160, .int .u8 0, .int .u8 0, .int .u8 0, .int .u8 0, .int .u8 0, .int .i64 0]) ?_ 7 _ rfl; (with_reducible repeat (first | refine blk_drewN ?_ _ | refine blk_drew ?_ | refine blk_alloc ?_ _)); refine blk_put (cs := #[.int .u8 t154, .int .u8 t155, .int .u8 t156, .int .u8 t157, .int .u8 t158, .int .u8 t159, .int .u8 0, .int .u8 0, .int .u8 0, .int .u8 0, .int .u8 0, .int .u8 0, .int .i64 0]) ?_ 6 _ rfl; (with_reducible repeat (first | refine blk_drewN ?_ _ | refine blk_drew ?_ | refine blk_alloc ?_ _)); refine blk_put (cs := #[.int .u8 t154, .int .u8 t155, .int .u8 t156, .int .u8 t157, .int .u8 t158, .int .u8 0, .int .u8 0, .int .u8 0, .int .u8 0, .int .u8 0, .int .u8 0, .int .u8 0, .int .i64 0]) ?_ 5 _ rfl; (with_reducible repeat (first | refine blk_drewN ?_ _ | refine blk_drew ?_ | refine blk_alloc ?_ _)); refine blk_put (cs := #[.int .u8 t154, .int .u8 t155, .int .u8 t156, .int .u8 t157, .int .u8 0, .int .u8 0, .int .u8 0, .int .u8 0, .int .u8 0, .int .u8 0, .int .u8 0, .int .u8 0, .int .i64 0]) ?_ 4 _ rfl; (with_reducible repeat (first | refine blk_drewN ?_ _ | refine blk_drew ?_ | refine blk_alloc ?_ _)); refine blk_put (cs := #[.int .u8 t154, .int .u8 t155, .int .u8 t156, .int .u8 0, .int .u8 0, .int .u8 0, .int .u8 0, .int .u8 0, .int .u8 0, .int .u8 0, .int .u8 0, .int .u8 0, .int .i64 0]) ?_ 3 _ rfl; (with_reducible repeat (first | refine blk_drewN ?_ _ | refine blk_drew ?_ | refine blk_alloc ?_ _)); refine blk_put (cs := #[.int .u8 t154, .int .u8 t155, .int .u8 0, .int .u8 0, .int .u8 0, .int .u8 0, .int .u8 0, .int .u8 0, .int .u8 0, .int .u8 0, .int .u8 0, .int .u8 0, .int .i64 0]) ?_ 2 _ rfl; (with_reducible repeat (first | refine blk_drewN ?_ _ | refine blk_drew ?_ | refine blk_alloc ?_ _)); refine blk_put (cs := #[.int .u8 t154, .int .u8 0, .int .u8 0, .int .u8 0, .int .u8 0, .int .u8 0, .int .u8 0, .int .u8 0, .int .u8 0, .int .u8 0, .int .u8 0, .int .u8 0, .int .i64 0]) ?_ 1 _ rfl; (with_reducible repeat (first | refine blk_drewN ?_ _ | refine blk_drew ?_ | refine blk_alloc ?_ _)); refine blk_put (cs := #[.int .u8 0, .int .u8 0, .int .u8 0, .int .u8 0, .int .u8 0, .int .u8 0, .int .u8 0, .int .u8 0, .int .u8 0, .int .u8 0, .int .u8 0, .int .u8 0, .int .i64 0]) ?_ 0 _ rfl; (with_reducible repeat (first | refine blk_drewN ?_ _ | refine blk_drew ?_ | refine blk_alloc ?_ _)); exact BK169.out⟩, ⟨by repeat (first | (with_reducible first | exact HB.out | apply below_alloc | apply pw_below_drewN | apply below_drew1 | refine below_set ?_ GE151.out | refine below_set ?_ GE169.out) | exact HB.out)⟩⟩
      ·
       rw [if_neg c20] at H
       have c20b0 : ((t168 == 0) != (decide ((t153.size : Int) ≤ 3000))) = false := by simpa using c20
       (try (have c20b1 : decide ((t168 == 0) = (decide ((t153.size : Int) ≤ 3000))) = true := by simpa using c20))
       (try (have c20b2 : ((t168 == 0) == (decide ((t153.size : Int) ≤ 3000))) = true := by simpa using c20))
       clear c20
       by_cases c21 : t168 = 0
       ·
        rw [if_pos c21] at H
        have c21b0 : (t168 == 0) = true := beq_iff_eq.mpr c21
        have c21b1 : (t168 != 0) = false := bne_eq_false_iff_eq.mpr c21
        have c21p_ : ((t153.size : Int) ≤ 3000) = True := eq_true (by have h_ := c20b0; rw [c21b0] at h_; simpa using h_)
        have c21q_ : (t153.size ≤ 3000) = True := eq_true (by have h_ := of_eq_true c21p_; omega)
        clear c21
        have H' := Aside0.mk H
        clear H
        go_wp2
        go_meet
        case rel => exact ⟨_, (false), (by first | rfl | (simp; done) | (simp [*]; done)), H', ⟨by have := HJ3.out; first | omega | exact Nat.le_refl _⟩, ⟨by (with_reducible repeat (first | refine blk_drewN ?_ _ | refine blk_drew ?_ | refine blk_alloc ?_ _)); refine blk_far ?_ NB151_169.out _; (with_reducible repeat (first | refine blk_drewN ?_ _ | refine blk_drew ?_ | refine blk_alloc ?_ _)); refine blk_far ?_ NB151_169.out _; (with_reducible repeat (first | refine blk_drewN ?_ _ | refine blk_drew ?_ | refine blk_alloc ?_ _)); refine blk_far ?_ NB151_169.out _; (with_reducible repeat (first | refine blk_drewN ?_ _ | refine blk_drew ?_ | refine blk_alloc ?_ _)); refine blk_far ?_ NB151_169.out _; (with_reducible repeat (first | refine blk_drewN ?_ _ | refine blk_drew ?_ | refine blk_alloc ?_ _)); refine blk_far ?_ NB151_169.out _; (with_reducible repeat (first | refine blk_drewN ?_ _ | refine blk_drew ?_ | refine blk_alloc ?_ _)); refine blk_far ?_ NB151_169.out _; (with_reducible repeat (first | refine blk_drewN ?_ _ | refine blk_drew ?_ | refine blk_alloc ?_ _)); refine blk_far ?_ NB151_169.out _; (with_reducible repeat (first | refine blk_drewN ?_ _ | refine blk_drew ?_ | refine blk_alloc ?_ _)); refine blk_far ?_ NB151_169.out _; (with_reducible repeat (first | refine blk_drewN ?_ _ | refine blk_drew ?_ | refine blk_alloc ?_ _)); refine blk_far ?_ NB151_169.out _; (with_reducible repeat (first | refine blk_drewN ?_ _ | refine blk_drew ?_ | refine blk_alloc ?_ _)); refine blk_far ?_ NB151_169.out _; (with_reducible repeat (first | refine blk_drewN ?_ _ | refine blk_drew ?_ | refine blk_alloc ?_ _)); refine blk_far ?_ NB151_169.out _; (with_reducible repeat (first | refine blk_drewN ?_ _ | refine blk_drew ?_ | refine blk_alloc ?_ _)); refine blk_far ?_ NB151_169.out _; (with_reducible repeat (first | refine blk_drewN ?_ _ | refine blk_drew ?_ | refine blk_alloc ?_ _)); refine blk_far ?_ NB151_169.out _; (with_reducible repeat (first | refine blk_drewN ?_ _ | refine blk_drew ?_ | refine blk_alloc ?_ _)); exact BK151.out⟩, ⟨by (with_reducible repeat (first | refine blk_drewN ?_ _ | refine blk_drew ?_ | refine blk_alloc ?_ _)); refine blk_put (cs := #[.int .u8 t154, .int .u8 t155, .int .u8 t156, .int .u8 t157, .int .u8 t158, .int .u8 t159, .int .u8 t160, .int .u8 t161, .int .u8 t162, .int .u8 t163, .int .u8 t164, .int .u8 t165, .int .i64 0]) ?_ 12 _ rfl; (with_reducible repeat (first | refine blk_drewN ?_ _ | refine blk_drew ?_ | refine blk_alloc ?_ _)); refine blk_put (cs := #[.int .u8 t154, .int .u8 t155, .int .u8 t156, .int .u8 t157, .int .u8 t158, .int .u8 t159, .int .u8 t160, .int .u8 t161, .int .u8 t162, .int .u8 t163, .int .u8 t164, .int .u8 0, .int .i64 0]) ?_ 11 _ rfl; (with_reducible repeat (first | refine blk_drewN ?_ _ | refine blk_drew ?_ | refine blk_alloc ?_ _)); refine blk_put (cs := #[.int .u8 t154, .int .u8 t155, .int .u8 t156, .int .u8 t157, .int .u8 t158, .int .u8 t159, .int .u8 t160, .int .u8 t161, .int .u8 t162, .int .u8 t163, .int .u8 0, .int .u8 0, .int .i64 0]) ?_ 10 _ rfl; (with_reducible repeat (first | refine blk_drewN ?_ _ | refine blk_drew ?_ | refine blk_alloc ?_ _)); refine blk_put (cs := #[.int .u8 t154, .int .u8 t155, .int .u8 t156, .int .u8 t157, .int .u8 t158, .int .u8 t159, .int .u8 t160, .int .u8 t161, .int .u8 t162, .int .u8 0, .int .u8 0, .int .u8 0, .int .i64 0]) ?_ 9 _ rfl; (with_reducible repeat (first | refine blk_drewN ?_ _ | refine blk_drew ?_ | refine blk_alloc ?_ _)); refine blk_put (cs := #[.int .u8 t154, .int .u8 t155, .int .u8 t156, .int .u8 t157, .int .u8 t158, .int .u8 t159, .int .u8 t160, .int .u8 t161, .int .u8 0, .int .u8 0, .int .u8 0, .int .u8 0, .int .i64 0]) ?_ 8 _ rfl; (with_reducible repeat (first | refine blk_drewN ?_ _ | refine blk_drew ?_ | refine blk_alloc ?_ _)); refine blk_put (cs := #[.int .u8 t154, .int .u8 t155, .int .u8 t156, .int .u8 t157, .int .u8 t158, .int .u8 t159, .int .u8 t160, .int .u8 0, .int .u8 0, .int .u8 0, .int .u8 0, .int .u8 0, .int .i64 0]) ?_ 7 _ rfl; (with_reducible repeat (first | refine blk_drewN ?_ _ | refine blk_drew ?_ | refine blk_alloc ?_ _)); refine blk_put (cs := #[.int .u8 t154, .int .u8 t155, .int .u8 t156, .int .u8 t157, .int .u8 t158, .int .u8 t159, .int .u8 0, .int .u8 0, .int .u8 0, .int .u8 0, .int .u8 0, .int .u8 0, .int .i64 0]) ?_ 6 _ rfl; (with_reducible repeat (first | refine blk_drewN ?_ _ | refine blk_drew ?_ | refine blk_alloc ?_ _)); refine blk_put (cs := #[.int .u8 t154, .int .u8 t155, .int .u8 t156, .int .u8 t157, .int .u8 t158, .int .u8 0, .int .u8 0, .int .u8 0, .int .u8 0, .int .u8 0, .int .u8 0, .int .u8 0, .int .i64 0]) ?_ 5 _ rfl; (with_reducible repeat (first | refine blk_drewN ?_ _ | refine blk_drew ?_ | refine blk_alloc ?_ _)); refine blk_put (cs := #[.int .u8 t154, .int .u8 t155, .int .u8 t156, .int .u8 t157, .int .u8 0, .int .u8 0, .int .u8 0, .int .u8 0, .int .u8 0, .int .u8 0, .int .u8 0, .int .u8 0, .int .i64 0]) ?_ 4 _ rfl; (with_reducible repeat (first | refine blk_drewN ?_ _ | refine blk_drew ?_ | refine blk_alloc ?_ _)); refine blk_put (cs := #[.int .u8 t154, .int .u8 t155, .int .u8 t156, .int .u8 0, .int .u8 0, .int .u8 0, .int .u8 0, .int .u8 0, .int .u8 0, .int .u8 0, .int .u8 0, .int .u8 0, .int .i64 0]) ?_ 3 _ rfl; (with_reducible repeat (first | refine blk_drewN ?_ _ | refine blk_drew ?_ | refine blk_alloc ?_ _)); refine blk_put (cs := #[.int .u8 t154, .int .u8 t155, .int .u8 0, .int .u8 0, .int .u8 0, .int .u8 0, .int .u8 0, .int .u8 0, .int .u8 0, .int .u8 0, .int .u8 0, .int .u8 0, .int .i64 0]) ?_ 2 _ rfl; (with_reducible repeat (first | refine blk_drewN ?_ _ | refine blk_drew ?_ | refine blk_alloc ?_ _)); refine blk_put (cs := #[.int .u8 t154, .int .u8 0, .int .u8 0, .int .u8 0, .int .u8 0, .int .u8 0, .int .u8 0, .int .u8 0, .int .u8 0, .int .u8 0, .int .u8 0, .int .u8 0, .int .i64 0]) ?_ 1 _ rfl; (with_reducible repeat (first | refine blk_drewN ?_ _ | refine blk_drew ?_ | refine blk_alloc ?_ _)); refine blk_put (cs := #[.int .u8 0, .int .u8 0, .int .u8 0, .int .u8 0, .int .u8 0, .int .u8 0, .int .u8 0, .int .u8 0, .int .u8 0, .int .u8 0, .int .u8 0, .int .u8 0, .int .i64 0]) ?_ 0 _ rfl; (with_reducible repeat (first | refine blk_drewN ?_ _ | refine blk_drew ?_ | refine blk_alloc ?_ _)); exact BK169.out⟩, ⟨by repeat (first | (with_reducible first | exact HB.out | apply below_alloc | apply pw_below_drewN | apply below_drew1 | refine below_set ?_ GE151.out | refine below_set ?_ GE169.out) | exact HB.out)⟩⟩
       ·
        rw [if_neg c21] at H
        have c21b0 : (t168 == 0) = false := beq_eq_false_iff_ne.mpr c21
        have c21b1 : (t168 != 0) = true := bne_iff_ne.mpr c21
        have c21p_ : ((t153.size : Int) ≤ 3000) = False := eq_false (by have h_ := c20b0; rw [c21b0] at h_; simpa using h_)
        have c21q_ : (t153.size ≤ 3000) = False := eq_false (by have h_ := of_eq_false c21p_; omega)
        have H' := Aside0.mk H
        clear H
        go_wp2
        go_meet
        case rel => exact ⟨_, ((t168 != 5)), (by first | rfl | (simp; done) | (simp [*]; done)), H', ⟨by have := HJ3.out; first | omega | exact Nat.le_refl _⟩, ⟨by (with_reducible repeat (first | refine blk_drewN ?_ _ | refine blk_drew ?_ | refine blk_alloc ?_ _)); refine blk_far ?_ NB151_169.out _; (with_reducible repeat (first | refine blk_drewN ?_ _ | refine blk_drew ?_ | refine blk_alloc ?_ _)); refine blk_far ?_ NB151_169.out _; (with_reducible repeat (first | refine blk_drewN ?_ _ | refine blk_drew ?_ | refine blk_alloc ?_ _)); refine blk_far ?_ NB151_169.out _; (with_reducible repeat (first | refine blk_drewN ?_ _ | refine blk_drew ?_ | refine blk_alloc ?_ _)); refine blk_far ?_ NB151_169.out _; (with_reducible repeat (first | refine blk_drewN ?_ _ | refine blk_drew ?_ | refine blk_alloc ?_ _)); refine blk_far ?_ NB151_169.out _; (with_reducible repeat (first | refine blk_drewN ?_ _ | refine blk_drew ?_ | refine blk_alloc ?_ _)); refine blk_far ?_ NB151_169.out _; (with_reducible repeat (first | refine blk_drewN ?_ _ | refine blk_drew ?_ | refine blk_alloc ?_ _)); refine blk_far ?_ NB151_169.out _; (with_reducible repeat (first | refine blk_drewN ?_ _ | refine blk_drew ?_ | refine blk_alloc ?_ _)); refine blk_far ?_ NB151_169.out _; (with_reducible repeat (first | refine blk_drewN ?_ _ | refine blk_drew ?_ | refine blk_alloc ?_ _)); refine blk_far ?_ NB151_169.out _; (with_reducible repeat (first | refine blk_drewN ?_ _ | refine blk_drew ?_ | refine blk_alloc ?_ _)); refine blk_far ?_ NB151_169.out _; (with_reducible repeat (first | refine blk_drewN ?_ _ | refine blk_drew ?_ | refine blk_alloc ?_ _)); refine blk_far ?_ NB151_169.out _; (with_reducible repeat (first | refine blk_drewN ?_ _ | refine blk_drew ?_ | refine blk_alloc ?_ _)); refine blk_far ?_ NB151_169.out _; (with_reducible repeat (first | refine blk_drewN ?_ _ | refine blk_drew ?_ | refine blk_alloc ?_ _)); refine blk_far ?_ NB151_169.out _; (with_reducible repeat (first | refine blk_drewN ?_ _ | refine blk_drew ?_ | refine blk_alloc ?_ _)); exact BK151.out⟩, ⟨by (with_reducible repeat (first | refine blk_drewN ?_ _ | refine blk_drew ?_ | refine blk_alloc ?_ _)); refine blk_put (cs := #[.int .u8 t154, .int .u8 t155, .int .u8 t156, .int .u8 t157, .int .u8 t158, .int .u8 t159, .int .u8 t160, .int .u8 t161, .int .u8 t162, .int .u8 t163, .int .u8 t164, .int .u8 t165, .int .i64 0]) ?_ 12 _ rfl; (with_reducible repeat (first | refine blk_drewN ?_ _ | refine blk_drew ?_ | refine blk_alloc ?_ _)); refine blk_put (cs := #[.int .u8 t154, .int .u8 t155, .int .u8 t156, .int .u8 t157, .int .u8 t158, .int .u8 t159, .int .u8 t160, .int .u8 t161, .int .u8 t162, .int .u8 t163, .int .u8 t164, .int .u8 0, .int .i64 0]) ?_ 11 _ rfl; (with_reducible repeat (first | refine blk_drewN ?_ _ | refine blk_drew ?_ | refine blk_alloc ?_ _)); refine blk_put (cs := #[.int .u8 t154, .int .u8 t155, .int .u8 t156, .int .u8 t157, .int .u8 t158, .int .u8 t159, .int .u8 t160, .int .u8 t161, .int .u8 t162, .int .u8 t163, .int .u8 0, .int .u8 0, .int .i64 0]) ?_ 10 _ rfl; (with_reducible repeat (first | refine blk_drewN ?_ _ | refine blk_drew ?_ | refine blk_alloc ?_ _)); refine blk_put (cs := #[.int .u8 t154, .int .u8 t155, .int .u8 t156, .int .u8 t157, .int .u8 t158, .int .u8 t159, .int .u8 t160, .int .u8 t161, .int .u8 t162, .int .u8 0, .int .u8 0, .int .u8 0, .int .i64 0]) ?_ 9 _ rfl; (with_reducible repeat (first | refine blk_drewN ?_ _ | refine blk_drew ?_ | refine blk_alloc ?_ _)); refine blk_put (cs := #[.int .u8 t154, .int .u8 t155, .int .u8 t156, .int .u8 t157, .int .u8 t158, .int .u8 t159, .int .u8 t160, .int .u8 t161, .int .u8 0, .int .u8 0, .int .u8 0, .int .u8 0, .int .i64 0]) ?_ 8 _ rfl; (with_reducible repeat (first | refine blk_drewN ?_ _ | refine blk_drew ?_ | refine blk_alloc ?_ _)); refine blk_put (cs := #[.int .u8 t154, .int .u8 t155, .int .u8 t156, .int .u8 t157, .int .u8 t158, .int .u8 t159, .int .u8 t160, .int .u8 0, .int .u8 0, .int .u8 0, .int .u8 0, .int .u8 0, .int .i64 0]) ?_ 7 _ rfl; (with_reducible repeat (first | refine blk_drewN ?_ _ | refine blk_drew ?_ | refine blk_alloc ?_ _)); refine blk_put (cs := #[.int .u8 t154, .int .u8 t155, .int .u8 t156, .int .u8 t157, .int .u8 t158, .int .u8 t159, .int .u8 0, .int .u8 0, .int .u8 0, .int .u8 0, .int .u8 0, .int .u8 0, .int .i64 0]) ?_ 6 _ rfl; (with_reducible repeat (first | refine blk_drewN ?_ _ | refine blk_drew ?_ | refine blk_alloc ?_ _)); refine blk_put (cs := #[.int .u8 t154, .int .u8 t155, .int .u8 t156, .int .u8 t157, .int .u8 t158, .int .u8 0, .int .u8 0, .int .u8 0, .int .u8 0, .int .u8 0, .int .u8 0, .int .u8 0, .int .i64 0]) ?_ 5 _ rfl; (with_reducible repeat (first | refine blk_drewN ?_ _ | refine blk_drew ?_ | refine blk_alloc ?_ _)); refine blk_put (cs := #[.int .u8 t154, .int .u8 t155, .int .u8 t156, .int .u8 t157, .int .u8 0, .int .u8 0, .int .u8 0, .int .u8 0, .int .u8 0, .int .u8 0, .int .u8 0, .int .u8 0, .int .i64 0]) ?_ 4 _ rfl; (with_reducible repeat (first | refine blk_drewN ?_ _ | refine blk_drew ?_ | refine blk_alloc ?_ _)); refine blk_put (cs := #[.int .u8 t154, .int .u8 t155, .int .u8 t156, .int .u8 0, .int .u8 0, .int .u8 0, .int .u8 0, .int .u8 0, .int .u8 0, .int .u8 0, .int .u8 0, .int .u8 0, .int .i64 0]) ?_ 3 _ rfl; (with_reducible repeat (first | refine blk_drewN ?_ _ | refine blk_drew ?_ | refine blk_alloc ?_ _)); refine blk_put (cs := #[.int .u8 t154, .int .u8 t155, .int .u8 0, .int .u8 0, .int .u8 0, .int .u8 0, .int .u8 0, .int .u8 0, .int .u8 0, .int .u8 0, .int .u8 0, .int .u8 0, .int .i64 0]) ?_ 2 _ rfl; (with_reducible repeat (first | refine blk_drewN ?_ _ | refine blk_drew ?_ | refine blk_alloc ?_ _)); refine blk_put (cs := #[.int .u8 t154, .int .u8 0, .int .u8 0, .int .u8 0, .int .u8 0, .int .u8 0, .int .u8 0, .int .u8 0, .int .u8 0, .int .u8 0, .int .u8 0, .int .u8 0, .int .i64 0]) ?_ 1 _ rfl; (with_reducible repeat (first | refine blk_drewN ?_ _ | refine blk_drew ?_ | refine blk_alloc ?_ _)); refine blk_put (cs := #[.int .u8 0, .int .u8 0, .int .u8 0, .int .u8 0, .int .u8 0, .int .u8 0, .int .u8 0, .int .u8 0, .int .u8 0, .int .u8 0, .int .u8 0, .int .u8 0, .int .i64 0]) ?_ 0 _ rfl; (with_reducible repeat (first | refine blk_drewN ?_ _ | refine blk_drew ?_ | refine blk_alloc ?_ _)); exact BK169.out⟩, ⟨by repeat (first | (with_reducible first | exact HB.out | apply below_alloc | apply pw_below_drewN | apply below_drew1 | refine below_set ?_ GE151.out | refine below_set ?_ GE169.out) | exact HB.out)⟩⟩
     ·
      rw [if_neg c19] at H
      exact absurd H (rampartlaw02_EthBack.j1_no HR.out)
    case rest =>
     clear HC12
     try clear c1
     try clear c2
     try clear p2
     try clear c6
     try clear c6b0
     try clear c6b1
     try clear p6
     try clear c7
     try clear c8
     try clear c13
     try clear c14
     try clear c17
     try clear c19
     try clear c19b0
     try clear c19b1
     try clear c20
     try clear c20b0
     try clear c20b1
     try clear c20b2
     try clear c21
     try clear c21b0
     try clear c21b1
     try clear hcz13_0
     try clear hcz13_1
     try clear hcz13_10
     try clear hcz13_11
     try clear hcz13_12
     try clear hcz13_2
     try clear hcz13_3
     try clear hcz13_4
     try clear hcz13_5
     try clear hcz13_6
     try clear hcz13_7
     try clear hcz13_8
     try clear hcz13_9
     try clear hcz18_0
     try clear hcz18_1
     try clear hcz18_10
     try clear hcz18_11
     try clear hcz18_12
     try clear hcz18_2
     try clear hcz18_3
     try clear hcz18_4
     try clear hcz18_5
     try clear hcz18_6
     try clear hcz18_7
     try clear hcz18_8
     try clear hcz18_9
     try clear hfz13_0
     try clear hfz13_1
     try clear hfz13_10
     try clear hfz13_11
     try clear hfz13_12
     try clear hfz13_2
     try clear hfz13_3
     try clear hfz13_4
     try clear hfz13_5
     try clear hfz13_6
     try clear hfz13_7
     try clear hfz13_8
     try clear hfz13_9
     try clear hfz18_0
     try clear hfz18_1
     try clear hfz18_10
     try clear hfz18_11
     try clear hfz18_12
     try clear hfz18_2
     try clear hfz18_3
     try clear hfz18_4
     try clear hfz18_5
     try clear hfz18_6
     try clear hfz18_7
     try clear hfz18_8
     try clear hfz18_9
     try clear p2
     obtain ⟨kq, x57_11, rfl, HA, HJ11, BK151, BK169, HB⟩ := hcut
     cases kq with
     | zero => exact absurd HA.out (by simp [rampartlaw02_EthBack.j1])
     | succ kj11 =>
      have H := HA.out
      clear HA
      simp only [rampartlaw02_EthBack.j1] at H
      by_cases c22 : x57_11 = true
      ·
       subst c22
       have H1 : (some false) = some r := by rw [if_pos rfl] at H; exact H
       clear H
       have H := H1
       clear H1
       exact absurd ((Option.some.inj H).trans HR.out) (by decide)
      ·
       replace c22 := Bool.eq_false_iff.mpr c22
       subst c22
       have H1 : (if t168 = 0 then ((rampartref02_Same.f kj11 t154 t155 t156 t157 t158 t159 t160 t161 t162 t163 t164 t165 t166 a0_0 a0_1 a0_2 a0_3 a0_4 a0_5 a0_6 a0_7 a0_8 a0_9 a0_10 a0_11 (Go.bits .and .i64 a0_12 65535)).bind fun t170 => (if t170 = true then (rampartlaw02_EthBack.j2 kj11 a2 (t167.toList != a1.toList)) else (rampartlaw02_EthBack.j2 kj11 a2 true))) else (rampartlaw02_EthBack.j2 kj11 a2 false)) = some r := by rw [if_neg (show ¬ (false = true) by decide)] at H; exact H
       clear H
       have H := H1
       clear H1
       have HC23 := Aside0.mk H
       clear H
       go_upto_region 8 with (fail)
       go_cut [70] (fun v70 wc => ∃ (kq : Nat) (x70_22 : Bool), v70 = .bool x70_22 ∧ Aside0 (rampartlaw02_EthBack.j2 kq a2 x70_22 = some r) ∧ Aside0 (kq ≤ kj11) ∧ Aside0 (wc.heap[gb151]? = some (.cells #[.int .u8 a0_0, .int .u8 a0_1, .int .u8 a0_2, .int .u8 a0_3, .int .u8 a0_4, .int .u8 a0_5, .int .u8 a0_6, .int .u8 a0_7, .int .u8 a0_8, .int .u8 a0_9, .int .u8 a0_10, .int .u8 a0_11, .int .i64 (Go.bits .and .i64 a0_12 65535)] 26 (0, 0))) ∧ Aside0 (wc.heap[gb169]? = some (.cells #[.int .u8 t154, .int .u8 t155, .int .u8 t156, .int .u8 t157, .int .u8 t158, .int .u8 t159, .int .u8 t160, .int .u8 t161, .int .u8 t162, .int .u8 t163, .int .u8 t164, .int .u8 t165, .int .i64 t166] 26 (0, 0))) ∧ Aside0 (Below w.heap.size w wc))
       case first =>
        have H := HC23.out
        clear HC23
        by_cases c24 : t168 = 0
        ·
         rw [if_pos c24] at H
         have c24b0 : (t168 == 0) = true := beq_iff_eq.mpr c24
         have c24b1 : (t168 != 0) = false := bne_eq_false_iff_eq.mpr c24
         clear c24
         (first | rw [c24b0] | (simp only [i64_w, i32_w]; rw [c24b0]) | skip)
         replace H := Option.bind_eq_some_iff.mp H
         obtain ⟨t170, A250, H⟩ := H
         replace H : (if t170 = true then (rampartlaw02_EthBack.j2 kj11 a2 (t167.toList != a1.toList)) else (rampartlaw02_EthBack.j2 kj11 a2 true)) = some r := H
         have A25 := Aside0.mk A250
         clear A250
         by_cases c26 : t170 = true
         ·
          subst c26
          have H1 : (rampartlaw02_EthBack.j2 kj11 a2 (t167.toList != a1.toList)) = some r := by rw [if_pos rfl] at H; exact H
          clear H
          have H := H1
          clear H1
          have H' := Aside0.mk H
          clear H
          have hnb27 := NB169_151.out
          have hnc27 := NB151_169.out
          have hcz28_0 : wc.cell? ⟨gb169, 0, none⟩ = some (.int .u8 t154) := (blk_cell BK169.out 0).trans rfl
          have hcz28_1 : wc.cell? ⟨gb169, 1, none⟩ = some (.int .u8 t155) := (blk_cell BK169.out 1).trans rfl
          have hcz28_2 : wc.cell? ⟨gb169, 2, none⟩ = some (.int .u8 t156) := (blk_cell BK169.out 2).trans rfl
          have hcz28_3 : wc.cell? ⟨gb169, 3, none⟩ = some (.int .u8 t157) := (blk_cell BK169.out 3).trans rfl
          have hcz28_4 : wc.cell? ⟨gb169, 4, none⟩ = some (.int .u8 t158) := (blk_cell BK169.out 4).trans rfl
          have hcz28_5 : wc.cell? ⟨gb169, 5, none⟩ = some (.int .u8 t159) := (blk_cell BK169.out 5).trans rfl
          have hcz28_6 : wc.cell? ⟨gb169, 6, none⟩ = some (.int .u8 t160) := (blk_cell BK169.out 6).trans rfl
          have hcz28_7 : wc.cell? ⟨gb169, 7, none⟩ = some (.int .u8 t161) := (blk_cell BK169.out 7).trans rfl
          have hcz28_8 : wc.cell? ⟨gb169, 8, none⟩ = some (.int .u8 t162) := (blk_cell BK169.out 8).trans rfl
          have hcz28_9 : wc.cell? ⟨gb169, 9, none⟩ = some (.int .u8 t163) := (blk_cell BK169.out 9).trans rfl
          have hcz28_10 : wc.cell? ⟨gb169, 10, none⟩ = some (.int .u8 t164) := (blk_cell BK169.out 10).trans rfl
          have hcz28_11 : wc.cell? ⟨gb169, 11, none⟩ = some (.int .u8 t165) := (blk_cell BK169.out 11).trans rfl
          have hcz28_12 : wc.cell? ⟨gb169, 12, none⟩ = some (.int .i64 t166) := (blk_cell BK169.out 12).trans rfl
          have hfz28_0 := blk_frozen BK169.out 0
          have hfz28_1 := blk_frozen BK169.out 1
          have hfz28_2 := blk_frozen BK169.out 2
          have hfz28_3 := blk_frozen BK169.out 3
          have hfz28_4 := blk_frozen BK169.out 4
          have hfz28_5 := blk_frozen BK169.out 5
          have hfz28_6 := blk_frozen BK169.out 6
          have hfz28_7 := blk_frozen BK169.out 7
          have hfz28_8 := blk_frozen BK169.out 8
          have hfz28_9 := blk_frozen BK169.out 9
          have hfz28_10 := blk_frozen BK169.out 10
          have hfz28_11 := blk_frozen BK169.out 11
          have hfz28_12 := blk_frozen BK169.out 12
          have hcz29_0 : wc.cell? ⟨gb151, 0, none⟩ = some (.int .u8 a0_0) := (blk_cell BK151.out 0).trans rfl
          have hcz29_1 : wc.cell? ⟨gb151, 1, none⟩ = some (.int .u8 a0_1) := (blk_cell BK151.out 1).trans rfl
          have hcz29_2 : wc.cell? ⟨gb151, 2, none⟩ = some (.int .u8 a0_2) := (blk_cell BK151.out 2).trans rfl
          have hcz29_3 : wc.cell? ⟨gb151, 3, none⟩ = some (.int .u8 a0_3) := (blk_cell BK151.out 3).trans rfl
          have hcz29_4 : wc.cell? ⟨gb151, 4, none⟩ = some (.int .u8 a0_4) := (blk_cell BK151.out 4).trans rfl
          have hcz29_5 : wc.cell? ⟨gb151, 5, none⟩ = some (.int .u8 a0_5) := (blk_cell BK151.out 5).trans rfl
          have hcz29_6 : wc.cell? ⟨gb151, 6, none⟩ = some (.int .u8 a0_6) := (blk_cell BK151.out 6).trans rfl
          have hcz29_7 : wc.cell? ⟨gb151, 7, none⟩ = some (.int .u8 a0_7) := (blk_cell BK151.out 7).trans rfl
          have hcz29_8 : wc.cell? ⟨gb151, 8, none⟩ = some (.int .u8 a0_8) := (blk_cell BK151.out 8).trans rfl
          have hcz29_9 : wc.cell? ⟨gb151, 9, none⟩ = some (.int .u8 a0_9) := (blk_cell BK151.out 9).trans rfl
          have hcz29_10 : wc.cell? ⟨gb151, 10, none⟩ = some (.int .u8 a0_10) := (blk_cell BK151.out 10).trans rfl
          have hcz29_11 : wc.cell? ⟨gb151, 11, none⟩ = some (.int .u8 a0_11) := (blk_cell BK151.out 11).trans rfl
          have hcz29_12 : wc.cell? ⟨gb151, 12, none⟩ = some (.int .i64 (Go.bits .and .i64 a0_12 65535)) := (blk_cell BK151.out 12).trans rfl
          have hfz29_0 := blk_frozen BK151.out 0
          have hfz29_1 := blk_frozen BK151.out 1
          have hfz29_2 := blk_frozen BK151.out 2
          have hfz29_3 := blk_frozen BK151.out 3
          have hfz29_4 := blk_frozen BK151.out 4
          have hfz29_5 := blk_frozen BK151.out 5
          have hfz29_6 := blk_frozen BK151.out 6
          have hfz29_7 := blk_frozen BK151.out 7
          have hfz29_8 := blk_frozen BK151.out 8
          have hfz29_9 := blk_frozen BK151.out 9
          have hfz29_10 := blk_frozen BK151.out 10
          have hfz29_11 := blk_frozen BK151.out 11
          have hfz29_12 := blk_frozen BK151.out 12
          go_wp2_with (first | (go_at_call 20; (with_reducible refine (rampartref02_Same.calls kj11 t154 t155 t156 t157 t158 t159 t160 t161 t162 t163 t164 t165 t166 a0_0 a0_1 a0_2 a0_3 a0_4 a0_5 a0_6 a0_7 a0_8 a0_9 a0_10 a0_11 (Go.bits .and .i64 a0_12 65535) true _ A25.out).mono ?_); rintro e w30 ⟨rfl, hb⟩; have n0_ := Aside0.mk (blk_below (g := gb151) (o := .cells #[.int .u8 a0_0, .int .u8 a0_1, .int .u8 a0_2, .int .u8 a0_3, .int .u8 a0_4, .int .u8 a0_5, .int .u8 a0_6, .int .u8 a0_7, .int .u8 a0_8, .int .u8 a0_9, .int .u8 a0_10, .int .u8 a0_11, .int .i64 (Go.bits .and .i64 a0_12 65535)] 26 (0, 0)) (by (with_reducible repeat (first | refine blk_drewN ?_ _ | refine blk_drew ?_ | refine blk_alloc ?_ _)); exact BK151.out) hb); have n1_ := Aside0.mk (blk_below (g := gb169) (o := .cells #[.int .u8 t154, .int .u8 t155, .int .u8 t156, .int .u8 t157, .int .u8 t158, .int .u8 t159, .int .u8 t160, .int .u8 t161, .int .u8 t162, .int .u8 t163, .int .u8 t164, .int .u8 t165, .int .i64 t166] 26 (0, 0)) (by (with_reducible repeat (first | refine blk_drewN ?_ _ | refine blk_drew ?_ | refine blk_alloc ?_ _)); exact BK169.out) hb); have n2_ := Aside0.mk (below_step (by repeat (first | (with_reducible first | exact HB.out | apply below_alloc | apply pw_below_drewN | apply below_drew1 | refine below_set ?_ GE151.out | refine below_set ?_ GE169.out) | exact HB.out)) hb); clear BK151; clear BK169; clear HB; have BK151 := n0_; have BK169 := n1_; have HB := n2_; clear n0_ n1_ n2_; (try clear hb); (try clear hb2); (try clear hk); (try clear hi)))
          go_meet
          case rel => exact ⟨_, ((t167.toList != a1.toList)), (by first | rfl | (simp; done) | (simp [*]; done)), H', ⟨by have := HJ3.out; have := HJ11.out; first | omega | exact Nat.le_refl _⟩, ⟨by (with_reducible repeat (first | refine blk_drewN ?_ _ | refine blk_drew ?_ | refine blk_alloc ?_ _)); exact BK151.out⟩, ⟨by (with_reducible repeat (first | refine blk_drewN ?_ _ | refine blk_drew ?_ | refine blk_alloc ?_ _)); exact BK169.out⟩, ⟨by repeat (first | (with_reducible first | exact HB.out | apply below_alloc | apply pw_below_drewN | apply below_drew1 | refine below_set ?_ GE151.out | refine below_set ?_ GE169.out) | exact HB.out)⟩⟩
         ·
          replace c26 := Bool.eq_false_iff.mpr c26
          subst c26
          have H1 : (rampartlaw02_EthBack.j2 kj11 a2 true) = some r := by rw [if_neg (show ¬ (false = true) by decide)] at H; exact H
          clear H
          have H := H1
          clear H1
          have H' := Aside0.mk H
          clear H
          have hnb31 := NB169_151.out
          have hnc31 := NB151_169.out
          have hcz32_0 : wc.cell? ⟨gb169, 0, none⟩ = some (.int .u8 t154) := (blk_cell BK169.out 0).trans rfl
          have hcz32_1 : wc.cell? ⟨gb169, 1, none⟩ = some (.int .u8 t155) := (blk_cell BK169.out 1).trans rfl
          have hcz32_2 : wc.cell? ⟨gb169, 2, none⟩ = some (.int .u8 t156) := (blk_cell BK169.out 2).trans rfl
          have hcz32_3 : wc.cell? ⟨gb169, 3, none⟩ = some (.int .u8 t157) := (blk_cell BK169.out 3).trans rfl
          have hcz32_4 : wc.cell? ⟨gb169, 4, none⟩ = some (.int .u8 t158) := (blk_cell BK169.out 4).trans rfl
          have hcz32_5 : wc.cell? ⟨gb169, 5, none⟩ = some (.int .u8 t159) := (blk_cell BK169.out 5).trans rfl
          have hcz32_6 : wc.cell? ⟨gb169, 6, none⟩ = some (.int .u8 t160) := (blk_cell BK169.out 6).trans rfl
          have hcz32_7 : wc.cell? ⟨gb169, 7, none⟩ = some (.int .u8 t161) := (blk_cell BK169.out 7).trans rfl
          have hcz32_8 : wc.cell? ⟨gb169, 8, none⟩ = some (.int .u8 t162) := (blk_cell BK169.out 8).trans rfl
          have hcz32_9 : wc.cell? ⟨gb169, 9, none⟩ = some (.int .u8 t163) := (blk_cell BK169.out 9).trans rfl
          have hcz32_10 : wc.cell? ⟨gb169, 10, none⟩ = some (.int .u8 t164) := (blk_cell BK169.out 10).trans rfl
          have hcz32_11 : wc.cell? ⟨gb169, 11, none⟩ = some (.int .u8 t165) := (blk_cell BK169.out 11).trans rfl
          have hcz32_12 : wc.cell? ⟨gb169, 12, none⟩ = some (.int .i64 t166) := (blk_cell BK169.out 12).trans rfl
          have hfz32_0 := blk_frozen BK169.out 0
          have hfz32_1 := blk_frozen BK169.out 1
          have hfz32_2 := blk_frozen BK169.out 2
          have hfz32_3 := blk_frozen BK169.out 3
          have hfz32_4 := blk_frozen BK169.out 4
          have hfz32_5 := blk_frozen BK169.out 5
          have hfz32_6 := blk_frozen BK169.out 6
          have hfz32_7 := blk_frozen BK169.out 7
          have hfz32_8 := blk_frozen BK169.out 8
          have hfz32_9 := blk_frozen BK169.out 9
          have hfz32_10 := blk_frozen BK169.out 10
          have hfz32_11 := blk_frozen BK169.out 11
          have hfz32_12 := blk_frozen BK169.out 12
          have hcz33_0 : wc.cell? ⟨gb151, 0, none⟩ = some (.int .u8 a0_0) := (blk_cell BK151.out 0).trans rfl
          have hcz33_1 : wc.cell? ⟨gb151, 1, none⟩ = some (.int .u8 a0_1) := (blk_cell BK151.out 1).trans rfl
          have hcz33_2 : wc.cell? ⟨gb151, 2, none⟩ = some (.int .u8 a0_2) := (blk_cell BK151.out 2).trans rfl
          have hcz33_3 : wc.cell? ⟨gb151, 3, none⟩ = some (.int .u8 a0_3) := (blk_cell BK151.out 3).trans rfl
          have hcz33_4 : wc.cell? ⟨gb151, 4, none⟩ = some (.int .u8 a0_4) := (blk_cell BK151.out 4).trans rfl
          have hcz33_5 : wc.cell? ⟨gb151, 5, none⟩ = some (.int .u8 a0_5) := (blk_cell BK151.out 5).trans rfl
          have hcz33_6 : wc.cell? ⟨gb151, 6, none⟩ = some (.int .u8 a0_6) := (blk_cell BK151.out 6).trans rfl
          have hcz33_7 : wc.cell? ⟨gb151, 7, none⟩ = some (.int .u8 a0_7) := (blk_cell BK151.out 7).trans rfl
          have hcz33_8 : wc.cell? ⟨gb151, 8, none⟩ = some (.int .u8 a0_8) := (blk_cell BK151.out 8).trans rfl
          have hcz33_9 : wc.cell? ⟨gb151, 9, none⟩ = some (.int .u8 a0_9) := (blk_cell BK151.out 9).trans rfl
          have hcz33_10 : wc.cell? ⟨gb151, 10, none⟩ = some (.int .u8 a0_10) := (blk_cell BK151.out 10).trans rfl
          have hcz33_11 : wc.cell? ⟨gb151, 11, none⟩ = some (.int .u8 a0_11) := (blk_cell BK151.out 11).trans rfl
          have hcz33_12 : wc.cell? ⟨gb151, 12, none⟩ = some (.int .i64 (Go.bits .and .i64 a0_12 65535)) := (blk_cell BK151.out 12).trans rfl
          have hfz33_0 := blk_frozen BK151.out 0
          have hfz33_1 := blk_frozen BK151.out 1
          have hfz33_2 := blk_frozen BK151.out 2
          have hfz33_3 := blk_frozen BK151.out 3
          have hfz33_4 := blk_frozen BK151.out 4
          have hfz33_5 := blk_frozen BK151.out 5
          have hfz33_6 := blk_frozen BK151.out 6
          have hfz33_7 := blk_frozen BK151.out 7
          have hfz33_8 := blk_frozen BK151.out 8
          have hfz33_9 := blk_frozen BK151.out 9
          have hfz33_10 := blk_frozen BK151.out 10
          have hfz33_11 := blk_frozen BK151.out 11
          have hfz33_12 := blk_frozen BK151.out 12
          go_wp2_with (first | (go_at_call 20; (with_reducible refine (rampartref02_Same.calls kj11 t154 t155 t156 t157 t158 t159 t160 t161 t162 t163 t164 t165 t166 a0_0 a0_1 a0_2 a0_3 a0_4 a0_5 a0_6 a0_7 a0_8 a0_9 a0_10 a0_11 (Go.bits .and .i64 a0_12 65535) false _ A25.out).mono ?_); rintro e w34 ⟨rfl, hb⟩; have n0_ := Aside0.mk (blk_below (g := gb151) (o := .cells #[.int .u8 a0_0, .int .u8 a0_1, .int .u8 a0_2, .int .u8 a0_3, .int .u8 a0_4, .int .u8 a0_5, .int .u8 a0_6, .int .u8 a0_7, .int .u8 a0_8, .int .u8 a0_9, .int .u8 a0_10, .int .u8 a0_11, .int .i64 (Go.bits .and .i64 a0_12 65535)] 26 (0, 0)) (by (with_reducible repeat (first | refine blk_drewN ?_ _ | refine blk_drew ?_ | refine blk_alloc ?_ _)); exact BK151.out) hb); have n1_ := Aside0.mk (blk_below (g := gb169) (o := .cells #[.int .u8 t154, .int .u8 t155, .int .u8 t156, .int .u8 t157, .int .u8 t158, .int .u8 t159, .int .u8 t160, .int .u8 t161, .int .u8 t162, .int .u8 t163, .int .u8 t164, .int .u8 t165, .int .i64 t166] 26 (0, 0)) (by (with_reducible repeat (first | refine blk_drewN ?_ _ | refine blk_drew ?_ | refine blk_alloc ?_ _)); exact BK169.out) hb); have n2_ := Aside0.mk (below_step (by repeat (first | (with_reducible first | exact HB.out | apply below_alloc | apply pw_below_drewN | apply below_drew1 | refine below_set ?_ GE151.out | refine below_set ?_ GE169.out) | exact HB.out)) hb); clear BK151; clear BK169; clear HB; have BK151 := n0_; have BK169 := n1_; have HB := n2_; clear n0_ n1_ n2_; (try clear hb); (try clear hb2); (try clear hk); (try clear hi)))
          go_meet
          case rel => exact ⟨_, (true), (by first | rfl | (simp; done) | (simp [*]; done)), H', ⟨by have := HJ3.out; have := HJ11.out; first | omega | exact Nat.le_refl _⟩, ⟨by (with_reducible repeat (first | refine blk_drewN ?_ _ | refine blk_drew ?_ | refine blk_alloc ?_ _)); exact BK151.out⟩, ⟨by (with_reducible repeat (first | refine blk_drewN ?_ _ | refine blk_drew ?_ | refine blk_alloc ?_ _)); exact BK169.out⟩, ⟨by repeat (first | (with_reducible first | exact HB.out | apply below_alloc | apply pw_below_drewN | apply below_drew1 | refine below_set ?_ GE151.out | refine below_set ?_ GE169.out) | exact HB.out)⟩⟩
        ·
         rw [if_neg c24] at H
         have c24b0 : (t168 == 0) = false := beq_eq_false_iff_ne.mpr c24
         have c24b1 : (t168 != 0) = true := bne_iff_ne.mpr c24
         (first | rw [c24b0] | (simp only [i64_w, i32_w]; rw [c24b0]) | skip)
         have H' := Aside0.mk H
         clear H
         go_wp2
         go_meet
         case rel => exact ⟨_, (false), (by first | rfl | (simp; done) | (simp [*]; done)), H', ⟨by have := HJ3.out; have := HJ11.out; first | omega | exact Nat.le_refl _⟩, ⟨by (with_reducible repeat (first | refine blk_drewN ?_ _ | refine blk_drew ?_ | refine blk_alloc ?_ _)); exact BK151.out⟩, ⟨by (with_reducible repeat (first | refine blk_drewN ?_ _ | refine blk_drew ?_ | refine blk_alloc ?_ _)); exact BK169.out⟩, ⟨by repeat (first | (with_reducible first | exact HB.out | apply below_alloc | apply pw_below_drewN | apply below_drew1 | refine below_set ?_ GE151.out | refine below_set ?_ GE169.out) | exact HB.out)⟩⟩
       case rest =>
        clear HC23
        try clear c1
        try clear c2
        try clear p2
        try clear c3
        try clear c6
        try clear c6b0
        try clear c6b1
        try clear p6
        try clear c7
        try clear c8
        try clear c13
        try clear c14
        try clear c17
        try clear c19
        try clear c19b0
        try clear c19b1
        try clear c20
        try clear c20b0
        try clear c20b1
        try clear c20b2
        try clear c21
        try clear c21b0
        try clear c21b1
        try clear c22
        try clear c24
        try clear c24b0
        try clear c24b1
        try clear c26
        try clear c27
        try clear c31
        try clear hcz13_0
        try clear hcz13_1
        try clear hcz13_10
        try clear hcz13_11
        try clear hcz13_12
        try clear hcz13_2
        try clear hcz13_3
        try clear hcz13_4
        try clear hcz13_5
        try clear hcz13_6
        try clear hcz13_7
        try clear hcz13_8
        try clear hcz13_9
        try clear hcz18_0
        try clear hcz18_1
        try clear hcz18_10
        try clear hcz18_11
        try clear hcz18_12
        try clear hcz18_2
        try clear hcz18_3
        try clear hcz18_4
        try clear hcz18_5
        try clear hcz18_6
        try clear hcz18_7
        try clear hcz18_8
        try clear hcz18_9
        try clear hcz28_0
        try clear hcz28_1
        try clear hcz28_10
        try clear hcz28_11
        try clear hcz28_12
        try clear hcz28_2
        try clear hcz28_3
        try clear hcz28_4
        try clear hcz28_5
        try clear hcz28_6
        try clear hcz28_7
        try clear hcz28_8
        try clear hcz28_9
        try clear hcz29_0
        try clear hcz29_1
        try clear hcz29_10
        try clear hcz29_11
        try clear hcz29_12
        try clear hcz29_2
        try clear hcz29_3
        try clear hcz29_4
        try clear hcz29_5
        try clear hcz29_6
        try clear hcz29_7
        try clear hcz29_8
        try clear hcz29_9
        try clear hcz32_0
        try clear hcz32_1
        try clear hcz32_10
        try clear hcz32_11
        try clear hcz32_12
        try clear hcz32_2
        try clear hcz32_3
        try clear hcz32_4
        try clear hcz32_5
        try clear hcz32_6
        try clear hcz32_7
        try clear hcz32_8
        try clear hcz32_9
        try clear hcz33_0
        try clear hcz33_1
        try clear hcz33_10
        try clear hcz33_11
        try clear hcz33_12
        try clear hcz33_2
        try clear hcz33_3
        try clear hcz33_4
        try clear hcz33_5
        try clear hcz33_6
        try clear hcz33_7
        try clear hcz33_8
        try clear hcz33_9
        try clear hfz13_0
        try clear hfz13_1
        try clear hfz13_10
        try clear hfz13_11
        try clear hfz13_12
        try clear hfz13_2
        try clear hfz13_3
        try clear hfz13_4
        try clear hfz13_5
        try clear hfz13_6
        try clear hfz13_7
        try clear hfz13_8
        try clear hfz13_9
        try clear hfz18_0
        try clear hfz18_1
        try clear hfz18_10
        try clear hfz18_11
        try clear hfz18_12
        try clear hfz18_2
        try clear hfz18_3
        try clear hfz18_4
        try clear hfz18_5
        try clear hfz18_6
        try clear hfz18_7
        try clear hfz18_8
        try clear hfz18_9
        try clear hfz28_0
        try clear hfz28_1
        try clear hfz28_10
        try clear hfz28_11
        try clear hfz28_12
        try clear hfz28_2
        try clear hfz28_3
        try clear hfz28_4
        try clear hfz28_5
        try clear hfz28_6
        try clear hfz28_7
        try clear hfz28_8
        try clear hfz28_9
        try clear hfz29_0
        try clear hfz29_1
        try clear hfz29_10
        try clear hfz29_11
        try clear hfz29_12
        try clear hfz29_2
        try clear hfz29_3
        try clear hfz29_4
        try clear hfz29_5
        try clear hfz29_6
        try clear hfz29_7
        try clear hfz29_8
        try clear hfz29_9
        try clear hfz32_0
        try clear hfz32_1
        try clear hfz32_10
        try clear hfz32_11
        try clear hfz32_12
        try clear hfz32_2
        try clear hfz32_3
        try clear hfz32_4
        try clear hfz32_5
        try clear hfz32_6
        try clear hfz32_7
        try clear hfz32_8
        try clear hfz32_9
        try clear hfz33_0
        try clear hfz33_1
        try clear hfz33_10
        try clear hfz33_11
        try clear hfz33_12
        try clear hfz33_2
        try clear hfz33_3
        try clear hfz33_4
        try clear hfz33_5
        try clear hfz33_6
        try clear hfz33_7
        try clear hfz33_8
        try clear hfz33_9
        try clear p2
        try clear p6
        obtain ⟨kq, x70_22, rfl, HA, HJ22, BK151, BK169, HB⟩ := hcut
        cases kq with
        | zero => exact absurd HA.out (by simp [rampartlaw02_EthBack.j2])
        | succ kj22 =>
         have H := HA.out
         clear HA
         simp only [rampartlaw02_EthBack.j2] at H
         by_cases c35 : x70_22 = true
         ·
          subst c35
          have H1 : (some false) = some r := by rw [if_pos rfl] at H; exact H
          clear H
          have H := H1
          clear H1
          exact absurd ((Option.some.inj H).trans HR.out) (by decide)
         ·
          replace c35 := Bool.eq_false_iff.mpr c35
          subst c35
          have H1 : ((eth_Get.f a2).bind fun bt171 => (if bt171.2.2.2.2.2.2.2.2.2.2.2.2.2.2 = 0 then ((eth_Put.f kj22 bt171.1 bt171.2.1 bt171.2.2.1 bt171.2.2.2.1 bt171.2.2.2.2.1 bt171.2.2.2.2.2.1 bt171.2.2.2.2.2.2.1 bt171.2.2.2.2.2.2.2.1 bt171.2.2.2.2.2.2.2.2.1 bt171.2.2.2.2.2.2.2.2.2.1 bt171.2.2.2.2.2.2.2.2.2.2.1 bt171.2.2.2.2.2.2.2.2.2.2.2.1 bt171.2.2.2.2.2.2.2.2.2.2.2.2.1 bt171.2.2.2.2.2.2.2.2.2.2.2.2.2.1).bind fun t187 => (if t187.toList = a2.toList then ((rampartlaw02_awake.f).bind fun t188 => (some t188)) else (some false))) else (if bt171.2.2.2.2.2.2.2.2.2.2.2.2.2.1.toList = ([] : List UInt8) then (if bt171.2.2.2.2.2.2.2.2.2.2.2.2.1 = 0 then ((rampartlaw02_awake.f).bind fun t189 => (some t189)) else (some false)) else (some false)))) = some r := by rw [if_neg (show ¬ (false = true) by decide)] at H; exact H
          clear H
          have H := H1
          clear H1
          replace H := Option.bind_eq_some_iff.mp H
          obtain ⟨⟨t171, t172, t173, t174, t175, t176, t177, t178, t179, t180, t181, t182, t183, t184, t185⟩, A360, H⟩ := H
          replace H : (if t185 = 0 then ((eth_Put.f kj22 t171 t172 t173 t174 t175 t176 t177 t178 t179 t180 t181 t182 t183 t184).bind fun t187 => (if t187.toList = a2.toList then ((rampartlaw02_awake.f).bind fun t188 => (some t188)) else (some false))) else (if t184.toList = ([] : List UInt8) then (if t183 = 0 then ((rampartlaw02_awake.f).bind fun t189 => (some t189)) else (some false)) else (some false))) = some r := H
          have A36 := Aside0.mk A360
          clear A360
          by_cases c37 : t185 = 0
          ·
           rw [if_pos c37] at H
           have c37b0 : (t185 == 0) = true := beq_iff_eq.mpr c37
           have c37b1 : (t185 != 0) = false := bne_eq_false_iff_eq.mpr c37
           clear c37
           replace H := Option.bind_eq_some_iff.mp H
           obtain ⟨t187, A380, H⟩ := H
           replace H : (if t187.toList = a2.toList then ((rampartlaw02_awake.f).bind fun t188 => (some t188)) else (some false)) = some r := H
           have A38 := Aside0.mk A380
           clear A380
           by_cases c39 : t187.toList = a2.toList
           ·
            rw [if_pos c39] at H
            have c39b0 : (t187.toList == a2.toList) = true := beq_iff_eq.mpr c39
            have c39b1 : (t187.toList != a2.toList) = false := bne_eq_false_iff_eq.mpr c39
            clear c39
            replace H := Option.bind_eq_some_iff.mp H
            obtain ⟨t188, A400, H⟩ := H
            replace H : (some t188) = some r := H
            have A40 := Aside0.mk A400
            clear A400
            obtain rfl := Option.some.inj H
            go_wp2_with (first | ((with_reducible refine gate_callee (f := 13) rfl ?_); refine goesL_ (some 73) rfl rfl Try.func13 (by kernel_rfl) rfl #[.string a2] rfl (by (try simp only [List.map_toArray, List.map_cons, List.map_nil]); first | done | rfl | (simp only [List.length_drop, List.length_take]; rfl)) ?_; (with_reducible refine (eth_Get.calls a2 t171 t172 t173 t174 t175 t176 t177 t178 t179 t180 t181 t182 t183 t184 t185 _ A36.out).mono ?_); rintro e w41 ⟨rfl, hb⟩; refine ⟨_, rfl, ?_⟩; have n0_ := Aside0.mk (blk_below (g := gb151) (o := .cells #[.int .u8 a0_0, .int .u8 a0_1, .int .u8 a0_2, .int .u8 a0_3, .int .u8 a0_4, .int .u8 a0_5, .int .u8 a0_6, .int .u8 a0_7, .int .u8 a0_8, .int .u8 a0_9, .int .u8 a0_10, .int .u8 a0_11, .int .i64 (Go.bits .and .i64 a0_12 65535)] 26 (0, 0)) (by (with_reducible repeat (first | refine blk_drewN ?_ _ | refine blk_drew ?_ | refine blk_alloc ?_ _)); exact BK151.out) hb); have n1_ := Aside0.mk (blk_below (g := gb169) (o := .cells #[.int .u8 t154, .int .u8 t155, .int .u8 t156, .int .u8 t157, .int .u8 t158, .int .u8 t159, .int .u8 t160, .int .u8 t161, .int .u8 t162, .int .u8 t163, .int .u8 t164, .int .u8 t165, .int .i64 t166] 26 (0, 0)) (by (with_reducible repeat (first | refine blk_drewN ?_ _ | refine blk_drew ?_ | refine blk_alloc ?_ _)); exact BK169.out) hb); have n2_ := Aside0.mk (below_step (by repeat (first | (with_reducible first | exact HB.out | apply below_alloc | apply pw_below_drewN | apply below_drew1 | refine below_set ?_ GE151.out | refine below_set ?_ GE169.out) | exact HB.out)) hb); clear BK151; clear BK169; clear HB; have BK151 := n0_; have BK169 := n1_; have HB := n2_; clear n0_ n1_ n2_; (try clear hb); (try clear hb2); (try clear hk); (try clear hi)) | ((with_reducible refine gate_dst (N := 11) rfl ?_); (try (refine gate_guard (by rfl) ?_; dsimp only)); refine box_event ?hg (N := 11) ?hd (cs := #[.int .u8 0, .int .u8 0, .int .u8 0, .int .u8 0, .int .u8 0, .int .u8 0, .int .u8 0, .int .u8 0, .int .u8 0, .int .u8 0, .int .u8 0, .int .u8 0, .int .i64 0]) (t := 26) ?hr ?_; (case hd => rfl); (case hg => rfl); (case hr => first | (go_simp; done) | (go_simp; rfl)); intro gb186 hg w42 hbox hb; have n0_ := Aside0.mk (blk_below (g := gb151) (o := .cells #[.int .u8 a0_0, .int .u8 a0_1, .int .u8 a0_2, .int .u8 a0_3, .int .u8 a0_4, .int .u8 a0_5, .int .u8 a0_6, .int .u8 a0_7, .int .u8 a0_8, .int .u8 a0_9, .int .u8 a0_10, .int .u8 a0_11, .int .i64 (Go.bits .and .i64 a0_12 65535)] 26 (0, 0)) (by (with_reducible repeat (first | refine blk_drewN ?_ _ | refine blk_drew ?_ | refine blk_alloc ?_ _)); exact BK151.out) hb); have n1_ := Aside0.mk (blk_below (g := gb169) (o := .cells #[.int .u8 t154, .int .u8 t155, .int .u8 t156, .int .u8 t157, .int .u8 t158, .int .u8 t159, .int .u8 t160, .int .u8 t161, .int .u8 t162, .int .u8 t163, .int .u8 t164, .int .u8 t165, .int .i64 t166] 26 (0, 0)) (by (with_reducible repeat (first | refine blk_drewN ?_ _ | refine blk_drew ?_ | refine blk_alloc ?_ _)); exact BK169.out) hb); have n2_ := Aside0.mk (below_step (by repeat (first | (with_reducible first | exact HB.out | apply below_alloc | apply pw_below_drewN | apply below_drew1 | refine below_set ?_ GE151.out | refine below_set ?_ GE169.out) | exact HB.out)) hb); have n3_ := Aside0.mk (hbox); have n4_ := Aside0.mk ((by rw [hg]; exact (below_size (by repeat (first | (with_reducible first | exact HB.out | apply below_alloc | apply pw_below_drewN | apply below_drew1 | refine below_set ?_ GE151.out | refine below_set ?_ GE169.out) | exact HB.out))) : w.heap.size ≤ gb186)); have n5_ := Aside0.mk ((by rw [hg]; exact (below_size (by repeat (first | (with_reducible first | exact HB.out | apply below_alloc | apply pw_below_drewN | apply below_drew1 | refine below_set ?_ GE151.out | refine below_set ?_ GE169.out) | exact HB.out))) : w.heap.size ≤ gb186)); have n6_ := Aside0.mk ((by rw [hg]; exact Nat.ne_of_lt (blk_lt (g := gb151) (o := .cells #[.int .u8 a0_0, .int .u8 a0_1, .int .u8 a0_2, .int .u8 a0_3, .int .u8 a0_4, .int .u8 a0_5, .int .u8 a0_6, .int .u8 a0_7, .int .u8 a0_8, .int .u8 a0_9, .int .u8 a0_10, .int .u8 a0_11, .int .i64 (Go.bits .and .i64 a0_12 65535)] 26 (0, 0)) (by (with_reducible repeat (first | refine blk_drewN ?_ _ | refine blk_drew ?_ | refine blk_alloc ?_ _)); exact BK151.out)) : gb151 ≠ gb186)); have n7_ := Aside0.mk ((by rw [hg]; exact Nat.ne_of_gt (blk_lt (g := gb151) (o := .cells #[.int .u8 a0_0, .int .u8 a0_1, .int .u8 a0_2, .int .u8 a0_3, .int .u8 a0_4, .int .u8 a0_5, .int .u8 a0_6, .int .u8 a0_7, .int .u8 a0_8, .int .u8 a0_9, .int .u8 a0_10, .int .u8 a0_11, .int .i64 (Go.bits .and .i64 a0_12 65535)] 26 (0, 0)) (by (with_reducible repeat (first | refine blk_drewN ?_ _ | refine blk_drew ?_ | refine blk_alloc ?_ _)); exact BK151.out)) : gb186 ≠ gb151)); have n8_ := Aside0.mk ((by rw [hg]; exact Nat.ne_of_lt (blk_lt (g := gb169) (o := .cells #[.int .u8 t154, .int .u8 t155, .int .u8 t156, .int .u8 t157, .int .u8 t158, .int .u8 t159, .int .u8 t160, .int .u8 t161, .int .u8 t162, .int .u8 t163, .int .u8 t164, .int .u8 t165, .int .i64 t166] 26 (0, 0)) (by (with_reducible repeat (first | refine blk_drewN ?_ _ | refine blk_drew ?_ | refine blk_alloc ?_ _)); exact BK169.out)) : gb169 ≠ gb186)); have n9_ := Aside0.mk ((by rw [hg]; exact Nat.ne_of_gt (blk_lt (g := gb169) (o := .cells #[.int .u8 t154, .int .u8 t155, .int .u8 t156, .int .u8 t157, .int .u8 t158, .int .u8 t159, .int .u8 t160, .int .u8 t161, .int .u8 t162, .int .u8 t163, .int .u8 t164, .int .u8 t165, .int .i64 t166] 26 (0, 0)) (by (with_reducible repeat (first | refine blk_drewN ?_ _ | refine blk_drew ?_ | refine blk_alloc ?_ _)); exact BK169.out)) : gb186 ≠ gb169)); clear BK151; clear BK169; clear HB; have BK151 := n0_; have BK169 := n1_; have HB := n2_; have BK186 := n3_; have GW186 := n4_; have GE186 := n5_; have NB151_186 := n6_; have NB186_151 := n7_; have NB169_186 := n8_; have NB186_169 := n9_; clear n0_ n1_ n2_ n3_ n4_ n5_ n6_ n7_ n8_ n9_; clear hb hbox hg; have hnb43 := NB186_151.out; have hnc43 := NB151_186.out; have hnb44 := NB186_169.out; have hnc44 := NB169_186.out; have hcz45_0 : w42.cell? ⟨gb186, 0, none⟩ = some (.int .u8 0) := (blk_cell BK186.out 0).trans rfl; have hcz45_1 : w42.cell? ⟨gb186, 1, none⟩ = some (.int .u8 0) := (blk_cell BK186.out 1).trans rfl; have hcz45_2 : w42.cell? ⟨gb186, 2, none⟩ = some (.int .u8 0) := (blk_cell BK186.out 2).trans rfl; have hcz45_3 : w42.cell? ⟨gb186, 3, none⟩ = some (.int .u8 0) := (blk_cell BK186.out 3).trans rfl; have hcz45_4 : w42.cell? ⟨gb186, 4, none⟩ = some (.int .u8 0) := (blk_cell BK186.out 4).trans rfl; have hcz45_5 : w42.cell? ⟨gb186, 5, none⟩ = some (.int .u8 0) := (blk_cell BK186.out 5).trans rfl; have hcz45_6 : w42.cell? ⟨gb186, 6, none⟩ = some (.int .u8 0) := (blk_cell BK186.out 6).trans rfl; have hcz45_7 : w42.cell? ⟨gb186, 7, none⟩ = some (.int .u8 0) := (blk_cell BK186.out 7).trans rfl; have hcz45_8 : w42.cell? ⟨gb186, 8, none⟩ = some (.int .u8 0) := (blk_cell BK186.out 8).trans rfl; have hcz45_9 : w42.cell? ⟨gb186, 9, none⟩ = some (.int .u8 0) := (blk_cell BK186.out 9).trans rfl; have hcz45_10 : w42.cell? ⟨gb186, 10, none⟩ = some (.int .u8 0) := (blk_cell BK186.out 10).trans rfl; have hcz45_11 : w42.cell? ⟨gb186, 11, none⟩ = some (.int .u8 0) := (blk_cell BK186.out 11).trans rfl; have hcz45_12 : w42.cell? ⟨gb186, 12, none⟩ = some (.int .i64 0) := (blk_cell BK186.out 12).trans rfl; have hfz45_0 := blk_frozen BK186.out 0; have hfz45_1 := blk_frozen BK186.out 1; have hfz45_2 := blk_frozen BK186.out 2; have hfz45_3 := blk_frozen BK186.out 3; have hfz45_4 := blk_frozen BK186.out 4; have hfz45_5 := blk_frozen BK186.out 5; have hfz45_6 := blk_frozen BK186.out 6; have hfz45_7 := blk_frozen BK186.out 7; have hfz45_8 := blk_frozen BK186.out 8; have hfz45_9 := blk_frozen BK186.out 9; have hfz45_10 := blk_frozen BK186.out 10; have hfz45_11 := blk_frozen BK186.out 11; have hfz45_12 := blk_frozen BK186.out 12) | ((with_reducible refine gate_callee (f := 21) rfl ?_); refine goesL_ (some 91) rfl rfl Try.func21 (by kernel_rfl) rfl #[.agg #[.int .u8 t171, .int .u8 t172, .int .u8 t173, .int .u8 t174, .int .u8 t175, .int .u8 t176, .int .u8 t177, .int .u8 t178, .int .u8 t179, .int .u8 t180, .int .u8 t181, .int .u8 t182, .int .i64 t183], .string t184] rfl (by (try simp only [List.map_toArray, List.map_cons, List.map_nil]); first | done | rfl | (simp only [List.length_drop, List.length_take]; rfl)) ?_; (with_reducible refine (eth_Put.calls kj22 t171 t172 t173 t174 t175 t176 t177 t178 t179 t180 t181 t182 t183 t184 t187 _ A38.out).mono ?_); rintro e w46 ⟨rfl, hb⟩; refine ⟨_, rfl, ?_⟩; have n0_ := Aside0.mk (blk_below (g := gb151) (o := .cells #[.int .u8 a0_0, .int .u8 a0_1, .int .u8 a0_2, .int .u8 a0_3, .int .u8 a0_4, .int .u8 a0_5, .int .u8 a0_6, .int .u8 a0_7, .int .u8 a0_8, .int .u8 a0_9, .int .u8 a0_10, .int .u8 a0_11, .int .i64 (Go.bits .and .i64 a0_12 65535)] 26 (0, 0)) (by (with_reducible repeat (first | refine blk_drewN ?_ _ | refine blk_drew ?_ | refine blk_alloc ?_ _)); refine blk_far ?_ NB151_186.out _; (with_reducible repeat (first | refine blk_drewN ?_ _ | refine blk_drew ?_ | refine blk_alloc ?_ _)); refine blk_far ?_ NB151_186.out _; (with_reducible repeat (first | refine blk_drewN ?_ _ | refine blk_drew ?_ | refine blk_alloc ?_ _)); refine blk_far ?_ NB151_186.out _; (with_reducible repeat (first | refine blk_drewN ?_ _ | refine blk_drew ?_ | refine blk_alloc ?_ _)); refine blk_far ?_ NB151_186.out _; (with_reducible repeat (first | refine blk_drewN ?_ _ | refine blk_drew ?_ | refine blk_alloc ?_ _)); refine blk_far ?_ NB151_186.out _; (with_reducible repeat (first | refine blk_drewN ?_ _ | refine blk_drew ?_ | refine blk_alloc ?_ _)); refine blk_far ?_ NB151_186.out _; (with_reducible repeat (first | refine blk_drewN ?_ _ | refine blk_drew ?_ | refine blk_alloc ?_ _)); refine blk_far ?_ NB151_186.out _; (with_reducible repeat (first | refine blk_drewN ?_ _ | refine blk_drew ?_ | refine blk_alloc ?_ _)); refine blk_far ?_ NB151_186.out _; (with_reducible repeat (first | refine blk_drewN ?_ _ | refine blk_drew ?_ | refine blk_alloc ?_ _)); refine blk_far ?_ NB151_186.out _; (with_reducible repeat (first | refine blk_drewN ?_ _ | refine blk_drew ?_ | refine blk_alloc ?_ _)); refine blk_far ?_ NB151_186.out _; (with_reducible repeat (first | refine blk_drewN ?_ _ | refine blk_drew ?_ | refine blk_alloc ?_ _)); refine blk_far ?_ NB151_186.out _; (with_reducible repeat (first | refine blk_drewN ?_ _ | refine blk_drew ?_ | refine blk_alloc ?_ _)); refine blk_far ?_ NB151_186.out _; (with_reducible repeat (first | refine blk_drewN ?_ _ | refine blk_drew ?_ | refine blk_alloc ?_ _)); refine blk_far ?_ NB151_186.out _; (with_reducible repeat (first | refine blk_drewN ?_ _ | refine blk_drew ?_ | refine blk_alloc ?_ _)); exact BK151.out) hb); have n1_ := Aside0.mk (blk_below (g := gb169) (o := .cells #[.int .u8 t154, .int .u8 t155, .int .u8 t156, .int .u8 t157, .int .u8 t158, .int .u8 t159, .int .u8 t160, .int .u8 t161, .int .u8 t162, .int .u8 t163, .int .u8 t164, .int .u8 t165, .int .i64 t166] 26 (0, 0)) (by (with_reducible repeat (first | refine blk_drewN ?_ _ | refine blk_drew ?_ | refine blk_alloc ?_ _)); refine blk_far ?_ NB169_186.out _; (with_reducible repeat (first | refine blk_drewN ?_ _ | refine blk_drew ?_ | refine blk_alloc ?_ _)); refine blk_far ?_ NB169_186.out _; (with_reducible repeat (first | refine blk_drewN ?_ _ | refine blk_drew ?_ | refine blk_alloc ?_ _)); refine blk_far ?_ NB169_186.out _; (with_reducible repeat (first | refine blk_drewN ?_ _ | refine blk_drew ?_ | refine blk_alloc ?_ _)); refine blk_far ?_ NB169_186.out _; (with_reducible repeat (first | refine blk_drewN ?_ _ | refine blk_drew ?_ | refine blk_alloc ?_ _)); refine blk_far ?_ NB169_186.out _; (with_reducible repeat (first | refine blk_drewN ?_ _ | refine blk_drew ?_ | refine blk_alloc ?_ _)); refine blk_far ?_ NB169_186.out _; (with_reducible repeat (first | refine blk_drewN ?_ _ | refine blk_drew ?_ | refine blk_alloc ?_ _)); refine blk_far ?_ NB169_186.out _; (with_reducible repeat (first | refine blk_drewN ?_ _ | refine blk_drew ?_ | refine blk_alloc ?_ _)); refine blk_far ?_ NB169_186.out _; (with_reducible repeat (first | refine blk_drewN ?_ _ | refine blk_drew ?_ | refine blk_alloc ?_ _)); refine blk_far ?_ NB169_186.out _; (with_reducible repeat (first | refine blk_drewN ?_ _ | refine blk_drew ?_ | refine blk_alloc ?_ _)); refine blk_far ?_ NB169_186.out _; (with_reducible repeat (first | refine blk_drewN ?_ _ | refine blk_drew ?_ | refine blk_alloc ?_ _)); refine blk_far ?_ NB169_186.out _; (with_reducible repeat (first | refine blk_drewN ?_ _ | refine blk_drew ?_ | refine blk_alloc ?_ _)); refine blk_far ?_ NB169_186.out _; (with_reducible repeat (first | refine blk_drewN ?_ _ | refine blk_drew ?_ | refine blk_alloc ?_ _)); refine blk_far ?_ NB169_186.out _; (with_reducible repeat (first | refine blk_drewN ?_ _ | refine blk_drew ?_ | refine blk_alloc ?_ _)); exact BK169.out) hb); have n2_ := Aside0.mk (blk_below (g := gb186) (o := .cells #[.int .u8 t171, .int .u8 t172, .int .u8 t173, .int .u8 t174, .int .u8 t175, .int .u8 t176, .int .u8 t177, .int .u8 t178, .int .u8 t179, .int .u8 t180, .int .u8 t181, .int .u8 t182, .int .i64 t183] 26 (0, 0)) (by (with_reducible repeat (first | refine blk_drewN ?_ _ | refine blk_drew ?_ | refine blk_alloc ?_ _)); refine blk_put (cs := #[.int .u8 t171, .int .u8 t172, .int .u8 t173, .int .u8 t174, .int .u8 t175, .int .u8 t176, .int .u8 t177, .int .u8 t178, .int .u8 t179, .int .u8 t180, .int .u8 t181, .int .u8 t182, .int .i64 0]) ?_ 12 _ rfl; (with_reducible repeat (first | refine blk_drewN ?_ _ | refine blk_drew ?_ | refine blk_alloc ?_ _)); refine blk_put (cs := #[.int .u8 t171, .int .u8 t172, .int .u8 t173, .int .u8 t174, .int .u8 t175, .int .u8 t176, .int .u8 t177, .int .u8 t178, .int .u8 t179, .int .u8 t180, .int .u8 t181, .int .u8 0, .int .i64 0]) ?_ 11 _ rfl; (with_reducible repeat (first | refine blk_drewN ?_ _ | refine blk_drew ?_ | refine blk_alloc ?_ _)); refine blk_put (cs := #[.int .u8 t171, .int .u8 t172, .int .u8 t173, .int .u8 t174, .int .u8 t175, .int .u8 t176, .int .u8 t177, .int .u8 t178, .int .u8 t179, .int .u8 t180, .int .u8 0, .int .u8 0, .int .i64 0]) ?_ 10 _ rfl; (with_reducible repeat (first | refine blk_drewN ?_ _ | refine blk_drew ?_ | refine blk_alloc ?_ _)); refine blk_put (cs := #[.int .u8 t171, .int .u8 t172, .int .u8 t173, .int .u8 t174, .int .u8 t175, .int .u8 t176, .int .u8 t177, .int .u8 t178, .int .u8 t179, .int .u8 0, .int .u8 0, .int .u8 0, .int .i64 0]) ?_ 9 _ rfl; (with_reducible repeat (first | refine blk_drewN ?_ _ | refine blk_drew ?_ | refine blk_alloc ?_ _)); refine blk_put (cs := #[.int .u8 t171, .int .u8 t172, .int .u8 t173, .int .u8 t174, .int .u8 t175, .int .u8 t176, .int .u8 t177, .int .u8 t178, .int .u8 0, .int .u8 0, .int .u8 0, .int .u8 0, .int .i64 0]) ?_ 8 _ rfl; (with_reducible repeat (first | refine blk_drewN ?_ _ | refine blk_drew ?_ | refine blk_alloc ?_ _)); refine blk_put (cs := #[.int .u8 t171, .int .u8 t172, .int .u8 t173, .int .u8 t174, .int .u8 t175, .int .u8 t176, .int .u8 t177, .int .u8 0, .int .u8 0, .int .u8 0, .int .u8 0, .int .u8 0, .int .i64 0]) ?_ 7 _ rfl; (with_reducible repeat (first | refine blk_drewN ?_ _ | refine blk_drew ?_ | refine blk_alloc ?_ _)); refine blk_put (cs := #[.int .u8 t171, .int .u8 t172, .int .u8 t173, .int .u8 t174, .int .u8 t175, .int .u8 t176, .int .u8 0, .int .u8 0, .int .u8 0, .int .u8 0, .int .u8 0, .int .u8 0, .int .i64 0]) ?_ 6 _ rfl; (with_reducible repeat (first | refine blk_drewN ?_ _ | refine blk_drew ?_ | refine blk_alloc ?_ _)); refine blk_put (cs := #[.int .u8 t171, .int .u8 t172, .int .u8 t173, .int .u8 t174, .int .u8 t175, .int .u8 0, .int .u8 0, .int .u8 0, .int .u8 0, .int .u8 0, .int .u8 0, .int .u8 0, .int .i64 0]) ?_ 5 _ rfl; (with_reducible repeat (first | refine blk_drewN ?_ _ | refine blk_drew ?_ | refine blk_alloc ?_ _)); refine blk_put (cs := #[.int .u8 t171, .int .u8 t172, .int .u8 t173, .int .u8 t174, .int .u8 0, .int .u8 0, .int .u8 0, .int .u8 0, .int .u8 0, .int .u8 0, .int .u8 0, .int .u8 0, .int .i64 0]) ?_ 4 _ rfl; (with_reducible repeat (first | refine blk_drewN ?_ _ | refine blk_drew ?_ | refine blk_alloc ?_ _)); refine blk_put (cs := #[.int .u8 t171, .int .u8 t172, .int .u8 t173, .int .u8 0, .int .u8 0, .int .u8 0, .int .u8 0, .int .u8 0, .int .u8 0, .int .u8 0, .int .u8 0, .int .u8 0, .int .i64 0]) ?_ 3 _ rfl; (with_reducible repeat (first | refine blk_drewN ?_ _ | refine blk_drew ?_ | refine blk_alloc ?_ _)); refine blk_put (cs := #[.int .u8 t171, .int .u8 t172, .int .u8 0, .int .u8 0, .int .u8 0, .int .u8 0, .int .u8 0, .int .u8 0, .int .u8 0, .int .u8 0, .int .u8 0, .int .u8 0, .int .i64 0]) ?_ 2 _ rfl; (with_reducible repeat (first | refine blk_drewN ?_ _ | refine blk_drew ?_ | refine blk_alloc ?_ _)); refine blk_put (cs := #[.int .u8 t171, .int .u8 0, .int .u8 0, .int .u8 0, .int .u8 0, .int .u8 0, .int .u8 0, .int .u8 0, .int .u8 0, .int .u8 0, .int .u8 0, .int .u8 0, .int .i64 0]) ?_ 1 _ rfl; (with_reducible repeat (first | refine blk_drewN ?_ _ | refine blk_drew ?_ | refine blk_alloc ?_ _)); refine blk_put (cs := #[.int .u8 0, .int .u8 0, .int .u8 0, .int .u8 0, .int .u8 0, .int .u8 0, .int .u8 0, .int .u8 0, .int .u8 0, .int .u8 0, .int .u8 0, .int .u8 0, .int .i64 0]) ?_ 0 _ rfl; (with_reducible repeat (first | refine blk_drewN ?_ _ | refine blk_drew ?_ | refine blk_alloc ?_ _)); exact BK186.out) hb); have n3_ := Aside0.mk (below_step (by repeat (first | (with_reducible first | exact HB.out | apply below_alloc | apply pw_below_drewN | apply below_drew1 | refine below_set ?_ GE151.out | refine below_set ?_ GE169.out | refine below_set ?_ GE186.out) | exact HB.out)) hb); clear BK151; clear BK169; clear BK186; clear HB; have BK151 := n0_; have BK169 := n1_; have BK186 := n2_; have HB := n3_; clear n0_ n1_ n2_ n3_; (try clear hb); (try clear hb2); (try clear hk); (try clear hi)) | (go_at_call 14; (with_reducible refine (rampartlaw02_awake.calls  t188 _ A40.out (by first | rfl | exact HR.out)).mono ?_); rintro e w47 ⟨rfl, hb⟩; have n0_ := Aside0.mk (blk_below (g := gb151) (o := .cells #[.int .u8 a0_0, .int .u8 a0_1, .int .u8 a0_2, .int .u8 a0_3, .int .u8 a0_4, .int .u8 a0_5, .int .u8 a0_6, .int .u8 a0_7, .int .u8 a0_8, .int .u8 a0_9, .int .u8 a0_10, .int .u8 a0_11, .int .i64 (Go.bits .and .i64 a0_12 65535)] 26 (0, 0)) (by (with_reducible repeat (first | refine blk_drewN ?_ _ | refine blk_drew ?_ | refine blk_alloc ?_ _)); exact BK151.out) hb); have n1_ := Aside0.mk (blk_below (g := gb169) (o := .cells #[.int .u8 t154, .int .u8 t155, .int .u8 t156, .int .u8 t157, .int .u8 t158, .int .u8 t159, .int .u8 t160, .int .u8 t161, .int .u8 t162, .int .u8 t163, .int .u8 t164, .int .u8 t165, .int .i64 t166] 26 (0, 0)) (by (with_reducible repeat (first | refine blk_drewN ?_ _ | refine blk_drew ?_ | refine blk_alloc ?_ _)); exact BK169.out) hb); have n2_ := Aside0.mk (blk_below (g := gb186) (o := .cells #[.int .u8 t171, .int .u8 t172, .int .u8 t173, .int .u8 t174, .int .u8 t175, .int .u8 t176, .int .u8 t177, .int .u8 t178, .int .u8 t179, .int .u8 t180, .int .u8 t181, .int .u8 t182, .int .i64 t183] 26 (0, 0)) (by (with_reducible repeat (first | refine blk_drewN ?_ _ | refine blk_drew ?_ | refine blk_alloc ?_ _)); exact BK186.out) hb); have n3_ := Aside0.mk (below_step (by repeat (first | (with_reducible first | exact HB.out | apply below_alloc | apply pw_below_drewN | apply below_drew1 | refine below_set ?_ GE151.out | refine below_set ?_ GE169.out | refine below_set ?_ GE186.out) | exact HB.out)) hb); clear BK151; clear BK169; clear BK186; clear HB; have BK151 := n0_; have BK169 := n1_; have BK186 := n2_; have HB := n3_; clear n0_ n1_ n2_ n3_; (try clear hb); (try clear hb2); (try clear hk); (try clear hi)))
            go_ret
            exact ⟨by first | rfl | (simp [errW_none, errW_some] <;> rfl) | (simp [*, errW_none, errW_some] <;> rfl), by repeat (first | (with_reducible first | exact HB.out | apply below_alloc | apply pw_below_drewN | apply below_drew1 | refine below_set ?_ GE151.out | refine below_set ?_ GE169.out | refine below_set ?_ GE186.out) | exact HB.out)⟩
           ·
            rw [if_neg c39] at H
            have c39b0 : (t187.toList == a2.toList) = false := beq_eq_false_iff_ne.mpr c39
            have c39b1 : (t187.toList != a2.toList) = true := bne_iff_ne.mpr c39
            exact absurd ((Option.some.inj H).trans HR.out) (by decide)
          ·
           rw [if_neg c37] at H
           have c37b0 : (t185 == 0) = false := beq_eq_false_iff_ne.mpr c37
           have c37b1 : (t185 != 0) = true := bne_iff_ne.mpr c37
           by_cases c48 : t184.toList = ([] : List UInt8)
           ·
            rw [if_pos c48] at H
            have c48b0 : (t184.toList == ([] : List UInt8)) = true := beq_iff_eq.mpr c48
            have c48b1 : (t184.toList != ([] : List UInt8)) = false := bne_eq_false_iff_eq.mpr c48
            clear c48
            by_cases c49 : t183 = 0
            ·
             rw [if_pos c49] at H
             have c49b0 : (t183 == 0) = true := beq_iff_eq.mpr c49
             have c49b1 : (t183 != 0) = false := bne_eq_false_iff_eq.mpr c49
             clear c49
             replace H := Option.bind_eq_some_iff.mp H
             obtain ⟨t189, A500, H⟩ := H
             replace H : (some t189) = some r := H
             have A50 := Aside0.mk A500
             clear A500
             obtain rfl := Option.some.inj H
             go_wp2_with (first | ((with_reducible refine gate_callee (f := 13) rfl ?_); refine goesL_ (some 73) rfl rfl Try.func13 (by kernel_rfl) rfl #[.string a2] rfl (by (try simp only [List.map_toArray, List.map_cons, List.map_nil]); first | done | rfl | (simp only [List.length_drop, List.length_take]; rfl)) ?_; (with_reducible refine (eth_Get.calls a2 t171 t172 t173 t174 t175 t176 t177 t178 t179 t180 t181 t182 t183 t184 t185 _ A36.out).mono ?_); rintro e w51 ⟨rfl, hb⟩; refine ⟨_, rfl, ?_⟩; have n0_ := Aside0.mk (blk_below (g := gb151) (o := .cells #[.int .u8 a0_0, .int .u8 a0_1, .int .u8 a0_2, .int .u8 a0_3, .int .u8 a0_4, .int .u8 a0_5, .int .u8 a0_6, .int .u8 a0_7, .int .u8 a0_8, .int .u8 a0_9, .int .u8 a0_10, .int .u8 a0_11, .int .i64 (Go.bits .and .i64 a0_12 65535)] 26 (0, 0)) (by (with_reducible repeat (first | refine blk_drewN ?_ _ | refine blk_drew ?_ | refine blk_alloc ?_ _)); exact BK151.out) hb); have n1_ := Aside0.mk (blk_below (g := gb169) (o := .cells #[.int .u8 t154, .int .u8 t155, .int .u8 t156, .int .u8 t157, .int .u8 t158, .int .u8 t159, .int .u8 t160, .int .u8 t161, .int .u8 t162, .int .u8 t163, .int .u8 t164, .int .u8 t165, .int .i64 t166] 26 (0, 0)) (by (with_reducible repeat (first | refine blk_drewN ?_ _ | refine blk_drew ?_ | refine blk_alloc ?_ _)); exact BK169.out) hb); have n2_ := Aside0.mk (below_step (by repeat (first | (with_reducible first | exact HB.out | apply below_alloc | apply pw_below_drewN | apply below_drew1 | refine below_set ?_ GE151.out | refine below_set ?_ GE169.out) | exact HB.out)) hb); clear BK151; clear BK169; clear HB; have BK151 := n0_; have BK169 := n1_; have HB := n2_; clear n0_ n1_ n2_; (try clear hb); (try clear hb2); (try clear hk); (try clear hi)) | ((with_reducible refine gate_dst (N := 11) rfl ?_); (try (refine gate_guard (by rfl) ?_; dsimp only)); refine box_event ?hg (N := 11) ?hd (cs := #[.int .u8 0, .int .u8 0, .int .u8 0, .int .u8 0, .int .u8 0, .int .u8 0, .int .u8 0, .int .u8 0, .int .u8 0, .int .u8 0, .int .u8 0, .int .u8 0, .int .i64 0]) (t := 26) ?hr ?_; (case hd => rfl); (case hg => rfl); (case hr => first | (go_simp; done) | (go_simp; rfl)); intro gb186 hg w52 hbox hb; have n0_ := Aside0.mk (blk_below (g := gb151) (o := .cells #[.int .u8 a0_0, .int .u8 a0_1, .int .u8 a0_2, .int .u8 a0_3, .int .u8 a0_4, .int .u8 a0_5, .int .u8 a0_6, .int .u8 a0_7, .int .u8 a0_8, .int .u8 a0_9, .int .u8 a0_10, .int .u8 a0_11, .int .i64 (Go.bits .and .i64 a0_12 65535)] 26 (0, 0)) (by (with_reducible repeat (first | refine blk_drewN ?_ _ | refine blk_drew ?_ | refine blk_alloc ?_ _)); exact BK151.out) hb); have n1_ := Aside0.mk (blk_below (g := gb169) (o := .cells #[.int .u8 t154, .int .u8 t155, .int .u8 t156, .int .u8 t157, .int .u8 t158, .int .u8 t159, .int .u8 t160, .int .u8 t161, .int .u8 t162, .int .u8 t163, .int .u8 t164, .int .u8 t165, .int .i64 t166] 26 (0, 0)) (by (with_reducible repeat (first | refine blk_drewN ?_ _ | refine blk_drew ?_ | refine blk_alloc ?_ _)); exact BK169.out) hb); have n2_ := Aside0.mk (below_step (by repeat (first | (with_reducible first | exact HB.out | apply below_alloc | apply pw_below_drewN | apply below_drew1 | refine below_set ?_ GE151.out | refine below_set ?_ GE169.out) | exact HB.out)) hb); have n3_ := Aside0.mk (hbox); have n4_ := Aside0.mk ((by rw [hg]; exact (below_size (by repeat (first | (with_reducible first | exact HB.out | apply below_alloc | apply pw_below_drewN | apply below_drew1 | refine below_set ?_ GE151.out | refine below_set ?_ GE169.out) | exact HB.out))) : w.heap.size ≤ gb186)); have n5_ := Aside0.mk ((by rw [hg]; exact (below_size (by repeat (first | (with_reducible first | exact HB.out | apply below_alloc | apply pw_below_drewN | apply below_drew1 | refine below_set ?_ GE151.out | refine below_set ?_ GE169.out) | exact HB.out))) : w.heap.size ≤ gb186)); have n6_ := Aside0.mk ((by rw [hg]; exact Nat.ne_of_lt (blk_lt (g := gb151) (o := .cells #[.int .u8 a0_0, .int .u8 a0_1, .int .u8 a0_2, .int .u8 a0_3, .int .u8 a0_4, .int .u8 a0_5, .int .u8 a0_6, .int .u8 a0_7, .int .u8 a0_8, .int .u8 a0_9, .int .u8 a0_10, .int .u8 a0_11, .int .i64 (Go.bits .and .i64 a0_12 65535)] 26 (0, 0)) (by (with_reducible repeat (first | refine blk_drewN ?_ _ | refine blk_drew ?_ | refine blk_alloc ?_ _)); exact BK151.out)) : gb151 ≠ gb186)); have n7_ := Aside0.mk ((by rw [hg]; exact Nat.ne_of_gt (blk_lt (g := gb151) (o := .cells #[.int .u8 a0_0, .int .u8 a0_1, .int .u8 a0_2, .int .u8 a0_3, .int .u8 a0_4, .int .u8 a0_5, .int .u8 a0_6, .int .u8 a0_7, .int .u8 a0_8, .int .u8 a0_9, .int .u8 a0_10, .int .u8 a0_11, .int .i64 (Go.bits .and .i64 a0_12 65535)] 26 (0, 0)) (by (with_reducible repeat (first | refine blk_drewN ?_ _ | refine blk_drew ?_ | refine blk_alloc ?_ _)); exact BK151.out)) : gb186 ≠ gb151)); have n8_ := Aside0.mk ((by rw [hg]; exact Nat.ne_of_lt (blk_lt (g := gb169) (o := .cells #[.int .u8 t154, .int .u8 t155, .int .u8 t156, .int .u8 t157, .int .u8 t158, .int .u8 t159, .int .u8 t160, .int .u8 t161, .int .u8 t162, .int .u8 t163, .int .u8 t164, .int .u8 t165, .int .i64 t166] 26 (0, 0)) (by (with_reducible repeat (first | refine blk_drewN ?_ _ | refine blk_drew ?_ | refine blk_alloc ?_ _)); exact BK169.out)) : gb169 ≠ gb186)); have n9_ := Aside0.mk ((by rw [hg]; exact Nat.ne_of_gt (blk_lt (g := gb169) (o := .cells #[.int .u8 t154, .int .u8 t155, .int .u8 t156, .int .u8 t157, .int .u8 t158, .int .u8 t159, .int .u8 t160, .int .u8 t161, .int .u8 t162, .int .u8 t163, .int .u8 t164, .int .u8 t165, .int .i64 t166] 26 (0, 0)) (by (with_reducible repeat (first | refine blk_drewN ?_ _ | refine blk_drew ?_ | refine blk_alloc ?_ _)); exact BK169.out)) : gb186 ≠ gb169)); clear BK151; clear BK169; clear HB; have BK151 := n0_; have BK169 := n1_; have HB := n2_; have BK186 := n3_; have GW186 := n4_; have GE186 := n5_; have NB151_186 := n6_; have NB186_151 := n7_; have NB169_186 := n8_; have NB186_169 := n9_; clear n0_ n1_ n2_ n3_ n4_ n5_ n6_ n7_ n8_ n9_; clear hb hbox hg; have hnb53 := NB186_151.out; have hnc53 := NB151_186.out; have hnb54 := NB186_169.out; have hnc54 := NB169_186.out; have hcz55_0 : w52.cell? ⟨gb186, 0, none⟩ = some (.int .u8 0) := (blk_cell BK186.out 0).trans rfl; have hcz55_1 : w52.cell? ⟨gb186, 1, none⟩ = some (.int .u8 0) := (blk_cell BK186.out 1).trans rfl; have hcz55_2 : w52.cell? ⟨gb186, 2, none⟩ = some (.int .u8 0) := (blk_cell BK186.out 2).trans rfl; have hcz55_3 : w52.cell? ⟨gb186, 3, none⟩ = some (.int .u8 0) := (blk_cell BK186.out 3).trans rfl; have hcz55_4 : w52.cell? ⟨gb186, 4, none⟩ = some (.int .u8 0) := (blk_cell BK186.out 4).trans rfl; have hcz55_5 : w52.cell? ⟨gb186, 5, none⟩ = some (.int .u8 0) := (blk_cell BK186.out 5).trans rfl; have hcz55_6 : w52.cell? ⟨gb186, 6, none⟩ = some (.int .u8 0) := (blk_cell BK186.out 6).trans rfl; have hcz55_7 : w52.cell? ⟨gb186, 7, none⟩ = some (.int .u8 0) := (blk_cell BK186.out 7).trans rfl; have hcz55_8 : w52.cell? ⟨gb186, 8, none⟩ = some (.int .u8 0) := (blk_cell BK186.out 8).trans rfl; have hcz55_9 : w52.cell? ⟨gb186, 9, none⟩ = some (.int .u8 0) := (blk_cell BK186.out 9).trans rfl; have hcz55_10 : w52.cell? ⟨gb186, 10, none⟩ = some (.int .u8 0) := (blk_cell BK186.out 10).trans rfl; have hcz55_11 : w52.cell? ⟨gb186, 11, none⟩ = some (.int .u8 0) := (blk_cell BK186.out 11).trans rfl; have hcz55_12 : w52.cell? ⟨gb186, 12, none⟩ = some (.int .i64 0) := (blk_cell BK186.out 12).trans rfl; have hfz55_0 := blk_frozen BK186.out 0; have hfz55_1 := blk_frozen BK186.out 1; have hfz55_2 := blk_frozen BK186.out 2; have hfz55_3 := blk_frozen BK186.out 3; have hfz55_4 := blk_frozen BK186.out 4; have hfz55_5 := blk_frozen BK186.out 5; have hfz55_6 := blk_frozen BK186.out 6; have hfz55_7 := blk_frozen BK186.out 7; have hfz55_8 := blk_frozen BK186.out 8; have hfz55_9 := blk_frozen BK186.out 9; have hfz55_10 := blk_frozen BK186.out 10; have hfz55_11 := blk_frozen BK186.out 11; have hfz55_12 := blk_frozen BK186.out 12) | (go_at_call 14; (with_reducible refine (rampartlaw02_awake.calls  t189 _ A50.out (by first | rfl | exact HR.out)).mono ?_); rintro e w56 ⟨rfl, hb⟩; have n0_ := Aside0.mk (blk_below (g := gb151) (o := .cells #[.int .u8 a0_0, .int .u8 a0_1, .int .u8 a0_2, .int .u8 a0_3, .int .u8 a0_4, .int .u8 a0_5, .int .u8 a0_6, .int .u8 a0_7, .int .u8 a0_8, .int .u8 a0_9, .int .u8 a0_10, .int .u8 a0_11, .int .i64 (Go.bits .and .i64 a0_12 65535)] 26 (0, 0)) (by (with_reducible repeat (first | refine blk_drewN ?_ _ | refine blk_drew ?_ | refine blk_alloc ?_ _)); refine blk_far ?_ NB151_186.out _; (with_reducible repeat (first | refine blk_drewN ?_ _ | refine blk_drew ?_ | refine blk_alloc ?_ _)); refine blk_far ?_ NB151_186.out _; (with_reducible repeat (first | refine blk_drewN ?_ _ | refine blk_drew ?_ | refine blk_alloc ?_ _)); refine blk_far ?_ NB151_186.out _; (with_reducible repeat (first | refine blk_drewN ?_ _ | refine blk_drew ?_ | refine blk_alloc ?_ _)); refine blk_far ?_ NB151_186.out _; (with_reducible repeat (first | refine blk_drewN ?_ _ | refine blk_drew ?_ | refine blk_alloc ?_ _)); refine blk_far ?_ NB151_186.out _; (with_reducible repeat (first | refine blk_drewN ?_ _ | refine blk_drew ?_ | refine blk_alloc ?_ _)); refine blk_far ?_ NB151_186.out _; (with_reducible repeat (first | refine blk_drewN ?_ _ | refine blk_drew ?_ | refine blk_alloc ?_ _)); refine blk_far ?_ NB151_186.out _; (with_reducible repeat (first | refine blk_drewN ?_ _ | refine blk_drew ?_ | refine blk_alloc ?_ _)); refine blk_far ?_ NB151_186.out _; (with_reducible repeat (first | refine blk_drewN ?_ _ | refine blk_drew ?_ | refine blk_alloc ?_ _)); refine blk_far ?_ NB151_186.out _; (with_reducible repeat (first | refine blk_drewN ?_ _ | refine blk_drew ?_ | refine blk_alloc ?_ _)); refine blk_far ?_ NB151_186.out _; (with_reducible repeat (first | refine blk_drewN ?_ _ | refine blk_drew ?_ | refine blk_alloc ?_ _)); refine blk_far ?_ NB151_186.out _; (with_reducible repeat (first | refine blk_drewN ?_ _ | refine blk_drew ?_ | refine blk_alloc ?_ _)); refine blk_far ?_ NB151_186.out _; (with_reducible repeat (first | refine blk_drewN ?_ _ | refine blk_drew ?_ | refine blk_alloc ?_ _)); refine blk_far ?_ NB151_186.out _; (with_reducible repeat (first | refine blk_drewN ?_ _ | refine blk_drew ?_ | refine blk_alloc ?_ _)); exact BK151.out) hb); have n1_ := Aside0.mk (blk_below (g := gb169) (o := .cells #[.int .u8 t154, .int .u8 t155, .int .u8 t156, .int .u8 t157, .int .u8 t158, .int .u8 t159, .int .u8 t160, .int .u8 t161, .int .u8 t162, .int .u8 t163, .int .u8 t164, .int .u8 t165, .int .i64 t166] 26 (0, 0)) (by (with_reducible repeat (first | refine blk_drewN ?_ _ | refine blk_drew ?_ | refine blk_alloc ?_ _)); refine blk_far ?_ NB169_186.out _; (with_reducible repeat (first | refine blk_drewN ?_ _ | refine blk_drew ?_ | refine blk_alloc ?_ _)); refine blk_far ?_ NB169_186.out _; (with_reducible repeat (first | refine blk_drewN ?_ _ | refine blk_drew ?_ | refine blk_alloc ?_ _)); refine blk_far ?_ NB169_186.out _; (with_reducible repeat (first | refine blk_drewN ?_ _ | refine blk_drew ?_ | refine blk_alloc ?_ _)); refine blk_far ?_ NB169_186.out _; (with_reducible repeat (first | refine blk_drewN ?_ _ | refine blk_drew ?_ | refine blk_alloc ?_ _)); refine blk_far ?_ NB169_186.out _; (with_reducible repeat (first | refine blk_drewN ?_ _ | refine blk_drew ?_ | refine blk_alloc ?_ _)); refine blk_far ?_ NB169_186.out _; (with_reducible repeat (first | refine blk_drewN ?_ _ | refine blk_drew ?_ | refine blk_alloc ?_ _)); refine blk_far ?_ NB169_186.out _; (with_reducible repeat (first | refine blk_drewN ?_ _ | refine blk_drew ?_ | refine blk_alloc ?_ _)); refine blk_far ?_ NB169_186.out _; (with_reducible repeat (first | refine blk_drewN ?_ _ | refine blk_drew ?_ | refine blk_alloc ?_ _)); refine blk_far ?_ NB169_186.out _; (with_reducible repeat (first | refine blk_drewN ?_ _ | refine blk_drew ?_ | refine blk_alloc ?_ _)); refine blk_far ?_ NB169_186.out _; (with_reducible repeat (first | refine blk_drewN ?_ _ | refine blk_drew ?_ | refine blk_alloc ?_ _)); refine blk_far ?_ NB169_186.out _; (with_reducible repeat (first | refine blk_drewN ?_ _ | refine blk_drew ?_ | refine blk_alloc ?_ _)); refine blk_far ?_ NB169_186.out _; (with_reducible repeat (first | refine blk_drewN ?_ _ | refine blk_drew ?_ | refine blk_alloc ?_ _)); refine blk_far ?_ NB169_186.out _; (with_reducible repeat (first | refine blk_drewN ?_ _ | refine blk_drew ?_ | refine blk_alloc ?_ _)); exact BK169.out) hb); have n2_ := Aside0.mk (blk_below (g := gb186) (o := .cells #[.int .u8 t171, .int .u8 t172, .int .u8 t173, .int .u8 t174, .int .u8 t175, .int .u8 t176, .int .u8 t177, .int .u8 t178, .int .u8 t179, .int .u8 t180, .int .u8 t181, .int .u8 t182, .int .i64 t183] 26 (0, 0)) (by (with_reducible repeat (first | refine blk_drewN ?_ _ | refine blk_drew ?_ | refine blk_alloc ?_ _)); refine blk_put (cs := #[.int .u8 t171, .int .u8 t172, .int .u8 t173, .int .u8 t174, .int .u8 t175, .int .u8 t176, .int .u8 t177, .int .u8 t178, .int .u8 t179, .int .u8 t180, .int .u8 t181, .int .u8 t182, .int .i64 0]) ?_ 12 _ rfl; (with_reducible repeat (first | refine blk_drewN ?_ _ | refine blk_drew ?_ | refine blk_alloc ?_ _)); refine blk_put (cs := #[.int .u8 t171, .int .u8 t172, .int .u8 t173, .int .u8 t174, .int .u8 t175, .int .u8 t176, .int .u8 t177, .int .u8 t178, .int .u8 t179, .int .u8 t180, .int .u8 t181, .int .u8 0, .int .i64 0]) ?_ 11 _ rfl; (with_reducible repeat (first | refine blk_drewN ?_ _ | refine blk_drew ?_ | refine blk_alloc ?_ _)); refine blk_put (cs := #[.int .u8 t171, .int .u8 t172, .int .u8 t173, .int .u8 t174, .int .u8 t175, .int .u8 t176, .int .u8 t177, .int .u8 t178, .int .u8 t179, .int .u8 t180, .int .u8 0, .int .u8 0, .int .i64 0]) ?_ 10 _ rfl; (with_reducible repeat (first | refine blk_drewN ?_ _ | refine blk_drew ?_ | refine blk_alloc ?_ _)); refine blk_put (cs := #[.int .u8 t171, .int .u8 t172, .int .u8 t173, .int .u8 t174, .int .u8 t175, .int .u8 t176, .int .u8 t177, .int .u8 t178, .int .u8 t179, .int .u8 0, .int .u8 0, .int .u8 0, .int .i64 0]) ?_ 9 _ rfl; (with_reducible repeat (first | refine blk_drewN ?_ _ | refine blk_drew ?_ | refine blk_alloc ?_ _)); refine blk_put (cs := #[.int .u8 t171, .int .u8 t172, .int .u8 t173, .int .u8 t174, .int .u8 t175, .int .u8 t176, .int .u8 t177, .int .u8 t178, .int .u8 0, .int .u8 0, .int .u8 0, .int .u8 0, .int .i64 0]) ?_ 8 _ rfl; (with_reducible repeat (first | refine blk_drewN ?_ _ | refine blk_drew ?_ | refine blk_alloc ?_ _)); refine blk_put (cs := #[.int .u8 t171, .int .u8 t172, .int .u8 t173, .int .u8 t174, .int .u8 t175, .int .u8 t176, .int .u8 t177, .int .u8 0, .int .u8 0, .int .u8 0, .int .u8 0, .int .u8 0, .int .i64 0]) ?_ 7 _ rfl; (with_reducible repeat (first | refine blk_drewN ?_ _ | refine blk_drew ?_ | refine blk_alloc ?_ _)); refine blk_put (cs := #[.int .u8 t171, .int .u8 t172, .int .u8 t173, .int .u8 t174, .int .u8 t175, .int .u8 t176, .int .u8 0, .int .u8 0, .int .u8 0, .int .u8 0, .int .u8 0, .int .u8 0, .int .i64 0]) ?_ 6 _ rfl; (with_reducible repeat (first | refine blk_drewN ?_ _ | refine blk_drew ?_ | refine blk_alloc ?_ _)); refine blk_put (cs := #[.int .u8 t171, .int .u8 t172, .int .u8 t173, .int .u8 t174, .int .u8 t175, .int .u8 0, .int .u8 0, .int .u8 0, .int .u8 0, .int .u8 0, .int .u8 0, .int .u8 0, .int .i64 0]) ?_ 5 _ rfl; (with_reducible repeat (first | refine blk_drewN ?_ _ | refine blk_drew ?_ | refine blk_alloc ?_ _)); refine blk_put (cs := #[.int .u8 t171, .int .u8 t172, .int .u8 t173, .int .u8 t174, .int .u8 0, .int .u8 0, .int .u8 0, .int .u8 0, .int .u8 0, .int .u8 0, .int .u8 0, .int .u8 0, .int .i64 0]) ?_ 4 _ rfl; (with_reducible repeat (first | refine blk_drewN ?_ _ | refine blk_drew ?_ | refine blk_alloc ?_ _)); refine blk_put (cs := #[.int .u8 t171, .int .u8 t172, .int .u8 t173, .int .u8 0, .int .u8 0, .int .u8 0, .int .u8 0, .int .u8 0, .int .u8 0, .int .u8 0, .int .u8 0, .int .u8 0, .int .i64 0]) ?_ 3 _ rfl; (with_reducible repeat (first | refine blk_drewN ?_ _ | refine blk_drew ?_ | refine blk_alloc ?_ _)); refine blk_put (cs := #[.int .u8 t171, .int .u8 t172, .int .u8 0, .int .u8 0, .int .u8 0, .int .u8 0, .int .u8 0, .int .u8 0, .int .u8 0, .int .u8 0, .int .u8 0, .int .u8 0, .int .i64 0]) ?_ 2 _ rfl; (with_reducible repeat (first | refine blk_drewN ?_ _ | refine blk_drew ?_ | refine blk_alloc ?_ _)); refine blk_put (cs := #[.int .u8 t171, .int .u8 0, .int .u8 0, .int .u8 0, .int .u8 0, .int .u8 0, .int .u8 0, .int .u8 0, .int .u8 0, .int .u8 0, .int .u8 0, .int .u8 0, .int .i64 0]) ?_ 1 _ rfl; (with_reducible repeat (first | refine blk_drewN ?_ _ | refine blk_drew ?_ | refine blk_alloc ?_ _)); refine blk_put (cs := #[.int .u8 0, .int .u8 0, .int .u8 0, .int .u8 0, .int .u8 0, .int .u8 0, .int .u8 0, .int .u8 0, .int .u8 0, .int .u8 0, .int .u8 0, .int .u8 0, .int .i64 0]) ?_ 0 _ rfl; (with_reducible repeat (first | refine blk_drewN ?_ _ | refine blk_drew ?_ | refine blk_alloc ?_ _)); exact BK186.out) hb); have n3_ := Aside0.mk (below_step (by repeat (first | (with_reducible first | exact HB.out | apply below_alloc | apply pw_below_drewN | apply below_drew1 | refine below_set ?_ GE151.out | refine below_set ?_ GE169.out | refine below_set ?_ GE186.out) | exact HB.out)) hb); clear BK151; clear BK169; clear BK186; clear HB; have BK151 := n0_; have BK169 := n1_; have BK186 := n2_; have HB := n3_; clear n0_ n1_ n2_ n3_; (try clear hb); (try clear hb2); (try clear hk); (try clear hi)))
             go_ret
             exact ⟨by first | rfl | (simp [errW_none, errW_some] <;> rfl) | (simp [*, errW_none, errW_some] <;> rfl), by repeat (first | (with_reducible first | exact HB.out | apply below_alloc | apply pw_below_drewN | apply below_drew1 | refine below_set ?_ GE151.out | refine below_set ?_ GE169.out | refine below_set ?_ GE186.out) | exact HB.out)⟩
            ·
             rw [if_neg c49] at H
             have c49b0 : (t183 == 0) = false := beq_eq_false_iff_ne.mpr c49
             have c49b1 : (t183 != 0) = true := bne_iff_ne.mpr c49
             exact absurd ((Option.some.inj H).trans HR.out) (by decide)
           ·
            rw [if_neg c48] at H
            have c48b0 : (t184.toList == ([] : List UInt8)) = false := beq_eq_false_iff_ne.mpr c48
            have c48b1 : (t184.toList != ([] : List UInt8)) = true := bne_iff_ne.mpr c48
            exact absurd ((Option.some.inj H).trans HR.out) (by decide)


end Go.Proofs.Ytchjfgdcldaacaa.HG
