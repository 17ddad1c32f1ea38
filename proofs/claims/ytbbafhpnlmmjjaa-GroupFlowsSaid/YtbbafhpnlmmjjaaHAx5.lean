/- What is proved: each Go function of this text answers as the plain Lean function beside it (a law: its given row, out of the plain statement). Conditions: those that stand in each theorem. Written by my drive.py, which calls the printer of the kit for what that covers. -/
import Derived.Test.YtbbafhpnlmmjjaaHAx0
import Derived.Test.YtbbafhpnlmmjjaaHAx4
namespace Go.Proofs.Ytbbafhpnlmmjjaa.HA
open Go.RowKit Go.Proofs.YtbbafhpnlmmjjaaW.PrintWords Go.Proofs.YtbbafhpnlmmjjaaW.PrintLast Go.Proofs.YtbbafhpnlmmjjaaW.PrintMore
attribute [local go_sem] max2_int min2_int max_two min_two max_three min_three max_four min_four   -- for this text's walks alone
set_option linter.unusedVariables false
set_option linter.unusedSimpArgs false

/-! ### group_Fits: function 9 -/
/-! ### group_Fits: function 9 -/
mutual
def group_Fits.j0 : Nat → Int → Bool → Int → Int → Bool → List (S48) → Bool → List (S50) → Bool → List (S48) → Bool → List (S50) → Bool → Int → List (S54) → Int → Int → Int → Int → Int → Int → Int → Option (Bool)
 | 0, _, _, _, _, _, _, _, _, _, _, _, _, _, _, _, _, _, _, _, _, _, _ => none
 | k + 1, x2, x29, x125000, x125001, x125002, x125003, x125004, x125005, x125006, x125007, x125008, x125009, x125010, x125011, x125012, x125013, x125014, x126000, x126001, x126002, x126003, x126004 => if x29 = true then (some false) else (if x2 = 1 then (group_Fits.j1 k x2 x125000 x125001 x125002 x125003 x125004 x125005 x125006 x125007 x125008 x125009 x125010 x125011 x125012 x125013 x125014 x126002 x126004 x126001 x126003) else (group_Fits.j1 k x2 x125000 x125001 x125002 x125003 x125004 x125005 x125006 x125007 x125008 x125009 x125010 x125011 x125012 x125013 x125014 x126001 x126003 x126002 x126004))
def group_Fits.j1 : Nat → Int → Int → Int → Bool → List (S48) → Bool → List (S50) → Bool → List (S48) → Bool → List (S50) → Bool → Int → List (S54) → Int → Int → Int → Int → Int → Int → Option (Bool)
 | 0, _, _, _, _, _, _, _, _, _, _, _, _, _, _, _, _, _, _, _, _ => none
 | k + 1, x2, x125000, x125001, x125002, x125003, x125004, x125005, x125006, x125007, x125008, x125009, x125010, x125011, x125012, x125013, x125014, x127000, x127001, x128000, x128001 => (group_ends_sender.f k x125000 x125001 x125002 x125003 x125004 x125005 x125006 x125007 x125008 x125009 x125010 x125011 x125012 x125013 x125014 x127000 x127001).bind fun t128 => (if t128 = true then ((group_ends_receiver.f k x125000 x125001 x125002 x125003 x125004 x125005 x125006 x125007 x125008 x125009 x125010 x125011 x125012 x125013 x125014 x128000 x128001).bind fun t129 => (if t129 = true then (group_Fits.j2 k x2 true x125000 x125001 x125002 x125003 x125004 x125005 x125006 x125007 x125008 x125009 x125010 x125011 x125012 x125013 x125014) else (if x125010 = true then ((group_ends_sender.f k x125000 x125001 x125002 x125003 x125004 x125005 x125006 x125007 x125008 x125009 x125010 x125011 x125012 x125013 x125014 x128000 x128001).bind fun t130 => (if t130 = true then ((group_ends_receiver.f k x125000 x125001 x125002 x125003 x125004 x125005 x125006 x125007 x125008 x125009 x125010 x125011 x125012 x125013 x125014 x127000 x127001).bind fun t131 => (group_Fits.j2 k x2 t131 x125000 x125001 x125002 x125003 x125004 x125005 x125006 x125007 x125008 x125009 x125010 x125011 x125012 x125013 x125014)) else (group_Fits.j2 k x2 false x125000 x125001 x125002 x125003 x125004 x125005 x125006 x125007 x125008 x125009 x125010 x125011 x125012 x125013 x125014))) else (group_Fits.j2 k x2 false x125000 x125001 x125002 x125003 x125004 x125005 x125006 x125007 x125008 x125009 x125010 x125011 x125012 x125013 x125014)))) else (if x125010 = true then ((group_ends_sender.f k x125000 x125001 x125002 x125003 x125004 x125005 x125006 x125007 x125008 x125009 x125010 x125011 x125012 x125013 x125014 x128000 x128001).bind fun t132 => (if t132 = true then ((group_ends_receiver.f k x125000 x125001 x125002 x125003 x125004 x125005 x125006 x125007 x125008 x125009 x125010 x125011 x125012 x125013 x125014 x127000 x127001).bind fun t133 => (group_Fits.j2 k x2 t133 x125000 x125001 x125002 x125003 x125004 x125005 x125006 x125007 x125008 x125009 x125010 x125011 x125012 x125013 x125014)) else (group_Fits.j2 k x2 false x125000 x125001 x125002 x125003 x125004 x125005 x125006 x125007 x125008 x125009 x125010 x125011 x125012 x125013 x125014))) else (group_Fits.j2 k x2 false x125000 x125001 x125002 x125003 x125004 x125005 x125006 x125007 x125008 x125009 x125010 x125011 x125012 x125013 x125014)))
def group_Fits.j2 : Nat → Int → Bool → Int → Int → Bool → List (S48) → Bool → List (S50) → Bool → List (S48) → Bool → List (S50) → Bool → Int → List (S54) → Int → Int → Option (Bool)
 | 0, _, _, _, _, _, _, _, _, _, _, _, _, _, _, _, _, _ => none
 | k + 1, x2, x11, x125000, x125001, x125002, x125003, x125004, x125005, x125006, x125007, x125008, x125009, x125010, x125011, x125012, x125013, x125014 => if x11 = true then (if x125011 = 0 then (some true) else (if x125011 = 1 then (if x2 = 0 then (some true) else (if x125011 = 2 then (some (x2 == 1)) else (some false))) else (if x125011 = 2 then (some (x2 == 1)) else (some false)))) else (some false)
end
def group_Fits.f (k : Nat) (a0_0 : Int) (a0_1 : Int) (a0_2 : Bool) (l0_3 : List (S48)) (a0_4 : Bool) (l0_5 : List (S50)) (a0_6 : Bool) (l0_7 : List (S48)) (a0_8 : Bool) (l0_9 : List (S50)) (a0_10 : Bool) (a0_11 : Int) (l0_12 : List (S54)) (a0_13 : Int) (a0_14 : Int) (a1_0 : Int) (a1_1 : Int) (a1_2 : Int) (a1_3 : Int) (a1_4 : Int) (a2 : Int) : Option (Bool) := if a2 < 0 then (group_Fits.j0 k a2 true a0_0 a0_1 a0_2 l0_3 a0_4 l0_5 a0_6 l0_7 a0_8 l0_9 a0_10 a0_11 l0_12 a0_13 a0_14 a1_0 a1_1 a1_2 a1_3 a1_4) else (if a2 > 1 then (group_Fits.j0 k a2 true a0_0 a0_1 a0_2 l0_3 a0_4 l0_5 a0_6 l0_7 a0_8 l0_9 a0_10 a0_11 l0_12 a0_13 a0_14 a1_0 a1_1 a1_2 a1_3 a1_4) else (if a0_1 = 0 then (group_Fits.j0 k a2 false a0_0 a0_1 a0_2 l0_3 a0_4 l0_5 a0_6 l0_7 a0_8 l0_9 a0_10 a0_11 l0_12 a0_13 a0_14 a1_0 a1_1 a1_2 a1_3 a1_4) else (group_Fits.j0 k a2 (a0_1 != a1_0) a0_0 a0_1 a0_2 l0_3 a0_4 l0_5 a0_6 l0_7 a0_8 l0_9 a0_10 a0_11 l0_12 a0_13 a0_14 a1_0 a1_1 a1_2 a1_3 a1_4)))
theorem group_Fits.mono_l : ∀ k, (∀ y0 y1 y2 y3 y4 y5 y6 y7 y8 y9 y10 y11 y12 y13 y14 y15 y16 y17 y18 y19 y20 y21, LeO (group_Fits.j0 k y0 y1 y2 y3 y4 y5 y6 y7 y8 y9 y10 y11 y12 y13 y14 y15 y16 y17 y18 y19 y20 y21) (group_Fits.j0 (k + 1) y0 y1 y2 y3 y4 y5 y6 y7 y8 y9 y10 y11 y12 y13 y14 y15 y16 y17 y18 y19 y20 y21)) ∧ (∀ y0 y1 y2 y3 y4 y5 y6 y7 y8 y9 y10 y11 y12 y13 y14 y15 y16 y17 y18 y19, LeO (group_Fits.j1 k y0 y1 y2 y3 y4 y5 y6 y7 y8 y9 y10 y11 y12 y13 y14 y15 y16 y17 y18 y19) (group_Fits.j1 (k + 1) y0 y1 y2 y3 y4 y5 y6 y7 y8 y9 y10 y11 y12 y13 y14 y15 y16 y17 y18 y19)) ∧ (∀ y0 y1 y2 y3 y4 y5 y6 y7 y8 y9 y10 y11 y12 y13 y14 y15 y16, LeO (group_Fits.j2 k y0 y1 y2 y3 y4 y5 y6 y7 y8 y9 y10 y11 y12 y13 y14 y15 y16) (group_Fits.j2 (k + 1) y0 y1 y2 y3 y4 y5 y6 y7 y8 y9 y10 y11 y12 y13 y14 y15 y16))
 | 0 => ⟨fun _ _ _ _ _ _ _ _ _ _ _ _ _ _ _ _ _ _ _ _ _ _ r h => by simp [group_Fits.j0] at h, fun _ _ _ _ _ _ _ _ _ _ _ _ _ _ _ _ _ _ _ _ r h => by simp [group_Fits.j1] at h, fun _ _ _ _ _ _ _ _ _ _ _ _ _ _ _ _ _ r h => by simp [group_Fits.j2] at h⟩
 | k + 1 => by
  obtain ⟨ih0, ih1, ih2⟩ := group_Fits.mono_l k
  refine ⟨?_, ?_, ?_⟩
  ·
   intro y0 y1 y2 y3 y4 y5 y6 y7 y8 y9 y10 y11 y12 y13 y14 y15 y16 y17 y18 y19 y20 y21
   unfold group_Fits.j0
   repeat' first
   | (with_reducible exact ih0 _ _ _ _ _ _ _ _ _ _ _ _ _ _ _ _ _ _ _ _ _ _)
   | (with_reducible exact ih1 _ _ _ _ _ _ _ _ _ _ _ _ _ _ _ _ _ _ _ _)
   | (with_reducible exact ih2 _ _ _ _ _ _ _ _ _ _ _ _ _ _ _ _ _)
   | (with_reducible exact group_ends_receiver.mono _ _ _ _ _ _ _ _ _ _ _ _ _ _ _ _ _ _)
   | (with_reducible exact group_ends_sender.mono _ _ _ _ _ _ _ _ _ _ _ _ _ _ _ _ _ _)
   | (with_reducible exact LeO.refl _)
   | (with_reducible exact LeO.none _)
   | (with_reducible refine LeO.ite ?_ ?_)
   | (with_reducible refine LeO.bind ?_ (fun _ => ?_))
   | exact ih0 _ _ _ _ _ _ _ _ _ _ _ _ _ _ _ _ _ _ _ _ _ _
   | exact ih1 _ _ _ _ _ _ _ _ _ _ _ _ _ _ _ _ _ _ _ _
   | exact ih2 _ _ _ _ _ _ _ _ _ _ _ _ _ _ _ _ _
   | exact group_ends_receiver.mono _ _ _ _ _ _ _ _ _ _ _ _ _ _ _ _ _ _
   | exact group_ends_sender.mono _ _ _ _ _ _ _ _ _ _ _ _ _ _ _ _ _ _
   | exact LeO.none _
   | refine LeO.ite ?_ ?_
   | refine LeO.bind ?_ (fun _ => ?_)
  ·
   intro y0 y1 y2 y3 y4 y5 y6 y7 y8 y9 y10 y11 y12 y13 y14 y15 y16 y17 y18 y19
   unfold group_Fits.j1
   repeat' first
   | (with_reducible exact ih0 _ _ _ _ _ _ _ _ _ _ _ _ _ _ _ _ _ _ _ _ _ _)
   | (with_reducible exact ih1 _ _ _ _ _ _ _ _ _ _ _ _ _ _ _ _ _ _ _ _)
   | (with_reducible exact ih2 _ _ _ _ _ _ _ _ _ _ _ _ _ _ _ _ _)
   | (with_reducible exact group_ends_receiver.mono _ _ _ _ _ _ _ _ _ _ _ _ _ _ _ _ _ _)
   | (with_reducible exact group_ends_sender.mono _ _ _ _ _ _ _ _ _ _ _ _ _ _ _ _ _ _)
   | (with_reducible exact LeO.refl _)
   | (with_reducible exact LeO.none _)
   | (with_reducible refine LeO.ite ?_ ?_)
   | (with_reducible refine LeO.bind ?_ (fun _ => ?_))
   | exact ih0 _ _ _ _ _ _ _ _ _ _ _ _ _ _ _ _ _ _ _ _ _ _
   | exact ih1 _ _ _ _ _ _ _ _ _ _ _ _ _ _ _ _ _ _ _ _
   | exact ih2 _ _ _ _ _ _ _ _ _ _ _ _ _ _ _ _ _
   | exact group_ends_receiver.mono _ _ _ _ _ _ _ _ _ _ _ _ _ _ _ _ _ _
   | exact group_ends_sender.mono _ _ _ _ _ _ _ _ _ _ _ _ _ _ _ _ _ _
   | exact LeO.none _
   | refine LeO.ite ?_ ?_
   | refine LeO.bind ?_ (fun _ => ?_)
  ·
   intro y0 y1 y2 y3 y4 y5 y6 y7 y8 y9 y10 y11 y12 y13 y14 y15 y16
   unfold group_Fits.j2
   repeat' first
   | (with_reducible exact ih0 _ _ _ _ _ _ _ _ _ _ _ _ _ _ _ _ _ _ _ _ _ _)
   | (with_reducible exact ih1 _ _ _ _ _ _ _ _ _ _ _ _ _ _ _ _ _ _ _ _)
   | (with_reducible exact ih2 _ _ _ _ _ _ _ _ _ _ _ _ _ _ _ _ _)
   | (with_reducible exact group_ends_receiver.mono _ _ _ _ _ _ _ _ _ _ _ _ _ _ _ _ _ _)
   | (with_reducible exact group_ends_sender.mono _ _ _ _ _ _ _ _ _ _ _ _ _ _ _ _ _ _)
   | (with_reducible exact LeO.refl _)
   | (with_reducible exact LeO.none _)
   | (with_reducible refine LeO.ite ?_ ?_)
   | (with_reducible refine LeO.bind ?_ (fun _ => ?_))
   | exact ih0 _ _ _ _ _ _ _ _ _ _ _ _ _ _ _ _ _ _ _ _ _ _
   | exact ih1 _ _ _ _ _ _ _ _ _ _ _ _ _ _ _ _ _ _ _ _
   | exact ih2 _ _ _ _ _ _ _ _ _ _ _ _ _ _ _ _ _
   | exact group_ends_receiver.mono _ _ _ _ _ _ _ _ _ _ _ _ _ _ _ _ _ _
   | exact group_ends_sender.mono _ _ _ _ _ _ _ _ _ _ _ _ _ _ _ _ _ _
   | exact LeO.none _
   | refine LeO.ite ?_ ?_
   | refine LeO.bind ?_ (fun _ => ?_)
theorem group_Fits.mono : ∀ a0 a1 a2 a3 a4 a5 a6 a7 a8 a9 a10 a11 a12 a13 a14 a15 a16 a17 a18 a19 a20 k, LeO (group_Fits.f k a0 a1 a2 a3 a4 a5 a6 a7 a8 a9 a10 a11 a12 a13 a14 a15 a16 a17 a18 a19 a20) (group_Fits.f (k + 1) a0 a1 a2 a3 a4 a5 a6 a7 a8 a9 a10 a11 a12 a13 a14 a15 a16 a17 a18 a19 a20) := by
 intro a0 a1 a2 a3 a4 a5 a6 a7 a8 a9 a10 a11 a12 a13 a14 a15 a16 a17 a18 a19 a20 k
 obtain ⟨ih0, ih1, ih2⟩ := group_Fits.mono_l k
 unfold group_Fits.f
 repeat' first
   | (with_reducible exact ih0 _ _ _ _ _ _ _ _ _ _ _ _ _ _ _ _ _ _ _ _ _ _)
   | (with_reducible exact ih1 _ _ _ _ _ _ _ _ _ _ _ _ _ _ _ _ _ _ _ _)
   | (with_reducible exact ih2 _ _ _ _ _ _ _ _ _ _ _ _ _ _ _ _ _)
   | (with_reducible exact group_ends_receiver.mono _ _ _ _ _ _ _ _ _ _ _ _ _ _ _ _ _ _)
   | (with_reducible exact group_ends_sender.mono _ _ _ _ _ _ _ _ _ _ _ _ _ _ _ _ _ _)
   | (with_reducible exact LeO.refl _)
   | (with_reducible exact LeO.none _)
   | (with_reducible refine LeO.ite ?_ ?_)
   | (with_reducible refine LeO.bind ?_ (fun _ => ?_))
   | exact ih0 _ _ _ _ _ _ _ _ _ _ _ _ _ _ _ _ _ _ _ _ _ _
   | exact ih1 _ _ _ _ _ _ _ _ _ _ _ _ _ _ _ _ _ _ _ _
   | exact ih2 _ _ _ _ _ _ _ _ _ _ _ _ _ _ _ _ _
   | exact group_ends_receiver.mono _ _ _ _ _ _ _ _ _ _ _ _ _ _ _ _ _ _
   | exact group_ends_sender.mono _ _ _ _ _ _ _ _ _ _ _ _ _ _ _ _ _ _
   | exact LeO.none _
   | refine LeO.ite ?_ ?_
   | refine LeO.bind ?_ (fun _ => ?_)
def group_Fits.T3 : Bool × List (List Nat × List Nat) := (true, [([], []), ([0], [0]), ([], []), ([2], [2]), ([1, 3], [1, 3]), ([], []), ([5], [5]), ([], []), ([7], [7]), ([6, 8], [6, 8]), ([], []), ([], []), ([10, 4, 0, 1, 2, 3, 4, 10, 11], [4, 10]), ([11, 9, 12, 0, 1, 2, 3, 4, 5, 6, 7, 8, 9, 10, 11, 12], [9, 11])])
def group_Fits.B3 : List Nat := [0, 1, 0, 4, 15, 0, 32, 0, 128, 480, 0, 0, 3103, 8191]
theorem group_Fits.tab3 : rtab .any (opsOf Try.f9 3) = group_Fits.T3 := by kernel_rfl
theorem group_Fits.bits3 : waitsOk group_Fits.T3.2 group_Fits.B3 = true := by kernel_rfl
set_option maxHeartbeats 8000000 in
set_option maxRecDepth 100000 in
theorem group_Fits.calls (k : Nat) (a0_0 : Int) (a0_1 : Int) (a0_2 : Bool) (A0_3 : Option Addr) (c0_3 : Nat) (l0_3 : List (S48)) (a0_4 : Bool) (A0_5 : Option Addr) (c0_5 : Nat) (l0_5 : List (S50)) (a0_6 : Bool) (A0_7 : Option Addr) (c0_7 : Nat) (l0_7 : List (S48)) (a0_8 : Bool) (A0_9 : Option Addr) (c0_9 : Nat) (l0_9 : List (S50)) (a0_10 : Bool) (a0_11 : Int) (A0_12 : Option Addr) (c0_12 : Nat) (l0_12 : List (S54)) (a0_13 : Int) (a0_14 : Int) (a1_0 : Int) (a1_1 : Int) (a1_2 : Int) (a1_3 : Int) (a1_4 : Int) (a2 : Int) (r : Bool) (w : World) (hr0_3 : Kd.C k48 w A0_3 l0_3.length l0_3) (hc0_3 : l0_3.length ≤ c0_3) (hr0_5 : Kd.C k50 w A0_5 l0_5.length l0_5) (hc0_5 : l0_5.length ≤ c0_5) (hr0_7 : Kd.C k48 w A0_7 l0_7.length l0_7) (hc0_7 : l0_7.length ≤ c0_7) (hr0_9 : Kd.C k50 w A0_9 l0_9.length l0_9) (hc0_9 : l0_9.length ≤ c0_9) (hr0_12 : Kd.C k54 w A0_12 l0_12.length l0_12) (hc0_12 : l0_12.length ≤ c0_12) (h : group_Fits.f k a0_0 a0_1 a0_2 l0_3 a0_4 l0_5 a0_6 l0_7 a0_8 l0_9 a0_10 a0_11 l0_12 a0_13 a0_14 a1_0 a1_1 a1_2 a1_3 a1_4 a2 = some r) :
  Calls Try.prog 9 #[.agg #[.int .i64 a0_0, .int .i64 a0_1, .bool a0_2, .slice A0_3 l0_3.length c0_3, .bool a0_4, .slice A0_5 l0_5.length c0_5, .bool a0_6, .slice A0_7 l0_7.length c0_7, .bool a0_8, .slice A0_9 l0_9.length c0_9, .bool a0_10, .int .i64 a0_11, .slice A0_12 l0_12.length c0_12, .int .i64 a0_13, .int .i64 a0_14], .agg #[.int .i64 a1_0, .int .u32 a1_1, .int .u32 a1_2, .int .i64 a1_3, .int .i64 a1_4], .int .i64 a2] w fun e w' => e = .returned (.bool r) ∧ Below w.heap.size w w' := by
 have hu37 := Try.underlying37
 have hu25 := Try.underlying25
 have hu56 := Try.underlying56
 have HR0_3 := Aside0.mk hr0_3
 have HC0_3 := Aside0.mk hc0_3
 clear hr0_3 hc0_3
 have HR0_5 := Aside0.mk hr0_5
 have HC0_5 := Aside0.mk hc0_5
 clear hr0_5 hc0_5
 have HR0_7 := Aside0.mk hr0_7
 have HC0_7 := Aside0.mk hc0_7
 clear hr0_7 hc0_7
 have HR0_9 := Aside0.mk hr0_9
 have HC0_9 := Aside0.mk hc0_9
 clear hr0_9 hc0_9
 have HR0_12 := Aside0.mk hr0_12
 have HC0_12 := Aside0.mk hc0_12
 clear hr0_12 hc0_12
 have HB := Aside0.mk (Below.refl w.heap.size w)
 have H : (if a2 < 0 then (group_Fits.j0 k a2 true a0_0 a0_1 a0_2 l0_3 a0_4 l0_5 a0_6 l0_7 a0_8 l0_9 a0_10 a0_11 l0_12 a0_13 a0_14 a1_0 a1_1 a1_2 a1_3 a1_4) else (if a2 > 1 then (group_Fits.j0 k a2 true a0_0 a0_1 a0_2 l0_3 a0_4 l0_5 a0_6 l0_7 a0_8 l0_9 a0_10 a0_11 l0_12 a0_13 a0_14 a1_0 a1_1 a1_2 a1_3 a1_4) else (if a0_1 = 0 then (group_Fits.j0 k a2 false a0_0 a0_1 a0_2 l0_3 a0_4 l0_5 a0_6 l0_7 a0_8 l0_9 a0_10 a0_11 l0_12 a0_13 a0_14 a1_0 a1_1 a1_2 a1_3 a1_4) else (group_Fits.j0 k a2 (a0_1 != a1_0) a0_0 a0_1 a0_2 l0_3 a0_4 l0_5 a0_6 l0_7 a0_8 l0_9 a0_10 a0_11 l0_12 a0_13 a0_14 a1_0 a1_1 a1_2 a1_3 a1_4)))) = some r := h
 clear h
 have HC4 := Aside0.mk H
 clear H
 go_enter Try.func9, Try.ntmps9
 go_upto_region 1 with (first | ((with_reducible refine gate_dst (N := 3) rfl ?_); refine box_event ?hg (N := 3) ?hd (cs := #[.int .i64 a0_0, .int .i64 a0_1, .bool a0_2, .slice A0_3 l0_3.length c0_3, .bool a0_4, .slice A0_5 l0_5.length c0_5, .bool a0_6, .slice A0_7 l0_7.length c0_7, .bool a0_8, .slice A0_9 l0_9.length c0_9, .bool a0_10, .int .i64 a0_11, .slice A0_12 l0_12.length c0_12, .int .i64 a0_13, .int .i64 a0_14]) (t := 37) ?hr ?_; (case hd => rfl); (case hg => rfl); (case hr => first | (go_simp; done) | (go_simp; rfl)); intro gb124 hg w5 hbox hb; have n0_ := Aside0.mk (below_step (by repeat (first | (with_reducible first | exact HB.out | apply below_alloc | apply pw_below_drewN | apply below_drew1) | exact HB.out)) hb); have n1_ := Aside0.mk (hbox); have n2_ := Aside0.mk ((by rw [hg]; exact (below_size (by repeat (first | (with_reducible first | exact HB.out | apply below_alloc | apply pw_below_drewN | apply below_drew1) | exact HB.out))) : w.heap.size ≤ gb124)); have n3_ := Aside0.mk ((by rw [hg]; exact (below_size (by repeat (first | (with_reducible first | exact HB.out | apply below_alloc | apply pw_below_drewN | apply below_drew1) | exact HB.out))) : w.heap.size ≤ gb124)); clear HB; have HB := n0_; have BK124 := n1_; have GW124 := n2_; have GE124 := n3_; clear n0_ n1_ n2_ n3_; clear hb hbox hg) | ((with_reducible refine gate_dst (N := 4) rfl ?_); refine box_event ?hg (N := 4) ?hd (cs := #[.int .i64 a1_0, .int .u32 a1_1, .int .u32 a1_2, .int .i64 a1_3, .int .i64 a1_4]) (t := 25) ?hr ?_; (case hd => rfl); (case hg => rfl); (case hr => first | (go_simp; done) | (go_simp; rfl)); intro gb125 hg w6 hbox hb; have n0_ := Aside0.mk (blk_below (g := gb124) (o := .cells #[.int .i64 a0_0, .int .i64 a0_1, .bool a0_2, .slice A0_3 l0_3.length c0_3, .bool a0_4, .slice A0_5 l0_5.length c0_5, .bool a0_6, .slice A0_7 l0_7.length c0_7, .bool a0_8, .slice A0_9 l0_9.length c0_9, .bool a0_10, .int .i64 a0_11, .slice A0_12 l0_12.length c0_12, .int .i64 a0_13, .int .i64 a0_14] 37 (0, 0)) (by (with_reducible repeat (first | refine blk_drewN ?_ _ | refine blk_drew ?_ | refine blk_alloc ?_ _)); exact BK124.out) hb); have n1_ := Aside0.mk (below_step (by repeat (first | (with_reducible first | exact HB.out | apply below_alloc | apply pw_below_drewN | apply below_drew1 | refine below_set ?_ GE124.out) | exact HB.out)) hb); have n2_ := Aside0.mk (hbox); have n3_ := Aside0.mk ((by rw [hg]; exact (below_size (by repeat (first | (with_reducible first | exact HB.out | apply below_alloc | apply pw_below_drewN | apply below_drew1 | refine below_set ?_ GE124.out) | exact HB.out))) : w.heap.size ≤ gb125)); have n4_ := Aside0.mk ((by rw [hg]; exact (below_size (by repeat (first | (with_reducible first | exact HB.out | apply below_alloc | apply pw_below_drewN | apply below_drew1 | refine below_set ?_ GE124.out) | exact HB.out))) : w.heap.size ≤ gb125)); have n5_ := Aside0.mk ((by rw [hg]; exact Nat.ne_of_lt (blk_lt (g := gb124) (o := .cells #[.int .i64 a0_0, .int .i64 a0_1, .bool a0_2, .slice A0_3 l0_3.length c0_3, .bool a0_4, .slice A0_5 l0_5.length c0_5, .bool a0_6, .slice A0_7 l0_7.length c0_7, .bool a0_8, .slice A0_9 l0_9.length c0_9, .bool a0_10, .int .i64 a0_11, .slice A0_12 l0_12.length c0_12, .int .i64 a0_13, .int .i64 a0_14] 37 (0, 0)) (by (with_reducible repeat (first | refine blk_drewN ?_ _ | refine blk_drew ?_ | refine blk_alloc ?_ _)); exact BK124.out)) : gb124 ≠ gb125)); have n6_ := Aside0.mk ((by rw [hg]; exact Nat.ne_of_gt (blk_lt (g := gb124) (o := .cells #[.int .i64 a0_0, .int .i64 a0_1, .bool a0_2, .slice A0_3 l0_3.length c0_3, .bool a0_4, .slice A0_5 l0_5.length c0_5, .bool a0_6, .slice A0_7 l0_7.length c0_7, .bool a0_8, .slice A0_9 l0_9.length c0_9, .bool a0_10, .int .i64 a0_11, .slice A0_12 l0_12.length c0_12, .int .i64 a0_13, .int .i64 a0_14] 37 (0, 0)) (by (with_reducible repeat (first | refine blk_drewN ?_ _ | refine blk_drew ?_ | refine blk_alloc ?_ _)); exact BK124.out)) : gb125 ≠ gb124)); clear BK124; clear HB; have BK124 := n0_; have HB := n1_; have BK125 := n2_; have GW125 := n3_; have GE125 := n4_; have NB124_125 := n5_; have NB125_124 := n6_; clear n0_ n1_ n2_ n3_ n4_ n5_ n6_; clear hb hbox hg))
 (try simp only [Act.put, List.setIfInBounds_toArray, List.set_cons_zero, List.set_cons_succ])
 go_cut [29] (fun v29 wc => ∃ (kq : Nat) (x29_3 : Bool), v29 = .bool x29_3 ∧ Aside0 (group_Fits.j0 kq a2 x29_3 a0_0 a0_1 a0_2 l0_3 a0_4 l0_5 a0_6 l0_7 a0_8 l0_9 a0_10 a0_11 l0_12 a0_13 a0_14 a1_0 a1_1 a1_2 a1_3 a1_4 = some r) ∧ Aside0 (kq ≤ k) ∧ Aside0 (wc.heap[gb124]? = some (.cells #[.int .i64 a0_0, .int .i64 a0_1, .bool a0_2, (.slice A0_3 l0_3.length c0_3), .bool a0_4, (.slice A0_5 l0_5.length c0_5), .bool a0_6, (.slice A0_7 l0_7.length c0_7), .bool a0_8, (.slice A0_9 l0_9.length c0_9), .bool a0_10, .int .i64 a0_11, (.slice A0_12 l0_12.length c0_12), .int .i64 a0_13, .int .i64 a0_14] 37 (0, 0))) ∧ Aside0 (wc.heap[gb125]? = some (.cells #[.int .i64 a1_0, .int .u32 a1_1, .int .u32 a1_2, .int .i64 a1_3, .int .i64 a1_4] 25 (0, 0))) ∧ Aside0 (Below w.heap.size w wc))
 case first =>
  have H := HC4.out
  clear HC4
  by_cases c7 : a2 < 0
  ·
   rw [if_pos c7] at H
   have c7b0 : decide (a2 < 0) = true := decide_eq_true c7
   clear c7
   (first | rw [c7b0] | (simp only [i64_w, i32_w]; rw [c7b0]) | skip)
   have H' := Aside0.mk H
   clear H
   go_wp2
   go_meet
   case rel => exact ⟨_, (true), (by first | rfl | (simp; done) | (simp [*]; done)), H', ⟨by first | omega | exact Nat.le_refl _⟩, ⟨by (with_reducible repeat (first | refine blk_drewN ?_ _ | refine blk_drew ?_ | refine blk_alloc ?_ _)); exact BK124.out⟩, ⟨by (with_reducible repeat (first | refine blk_drewN ?_ _ | refine blk_drew ?_ | refine blk_alloc ?_ _)); exact BK125.out⟩, ⟨by repeat (first | (with_reducible first | exact HB.out | apply below_alloc | apply pw_below_drewN | apply below_drew1 | refine below_set ?_ GE124.out | refine below_set ?_ GE125.out) | exact HB.out)⟩⟩
  ·
   rw [if_neg c7] at H
   have c7b0 : decide (a2 < 0) = false := decide_eq_false c7
   clear c7
   (first | rw [c7b0] | (simp only [i64_w, i32_w]; rw [c7b0]) | skip)
   by_cases c8 : a2 > 1
   ·
    rw [if_pos c8] at H
    have c8b0 : decide (1 < a2) = true := decide_eq_true c8
    clear c8
    have H' := Aside0.mk H
    clear H
    go_wp2
    go_meet
    case rel => exact ⟨_, (true), (by first | rfl | (simp; done) | (simp [*]; done)), H', ⟨by first | omega | exact Nat.le_refl _⟩, ⟨by (with_reducible repeat (first | refine blk_drewN ?_ _ | refine blk_drew ?_ | refine blk_alloc ?_ _)); exact BK124.out⟩, ⟨by (with_reducible repeat (first | refine blk_drewN ?_ _ | refine blk_drew ?_ | refine blk_alloc ?_ _)); exact BK125.out⟩, ⟨by repeat (first | (with_reducible first | exact HB.out | apply below_alloc | apply pw_below_drewN | apply below_drew1 | refine below_set ?_ GE124.out | refine below_set ?_ GE125.out) | exact HB.out)⟩⟩
   ·
    rw [if_neg c8] at H
    have c8b0 : decide (1 < a2) = false := decide_eq_false c8
    clear c8
    by_cases c9 : a0_1 = 0
    ·
     rw [if_pos c9] at H
     have c9b0 : (a0_1 == 0) = true := beq_iff_eq.mpr c9
     have c9b1 : (a0_1 != 0) = false := bne_eq_false_iff_eq.mpr c9
     clear c9
     have H' := Aside0.mk H
     clear H
     have hnb10 := NB124_125.out
     have hnc10 := NB125_124.out
     have hcz11_0 : w6.cell? ⟨gb124, 0, none⟩ = some (.int .i64 a0_0) := (blk_cell BK124.out 0).trans rfl
     have hcz11_1 : w6.cell? ⟨gb124, 1, none⟩ = some (.int .i64 a0_1) := (blk_cell BK124.out 1).trans rfl
     have hcz11_2 : w6.cell? ⟨gb124, 2, none⟩ = some (.bool a0_2) := (blk_cell BK124.out 2).trans rfl
     have hcz11_3 : w6.cell? ⟨gb124, 3, none⟩ = some (.slice A0_3 l0_3.length c0_3) := (blk_cell BK124.out 3).trans rfl
     have hcz11_4 : w6.cell? ⟨gb124, 4, none⟩ = some (.bool a0_4) := (blk_cell BK124.out 4).trans rfl
     have hcz11_5 : w6.cell? ⟨gb124, 5, none⟩ = some (.slice A0_5 l0_5.length c0_5) := (blk_cell BK124.out 5).trans rfl
     have hcz11_6 : w6.cell? ⟨gb124, 6, none⟩ = some (.bool a0_6) := (blk_cell BK124.out 6).trans rfl
     have hcz11_7 : w6.cell? ⟨gb124, 7, none⟩ = some (.slice A0_7 l0_7.length c0_7) := (blk_cell BK124.out 7).trans rfl
     have hcz11_8 : w6.cell? ⟨gb124, 8, none⟩ = some (.bool a0_8) := (blk_cell BK124.out 8).trans rfl
     have hcz11_9 : w6.cell? ⟨gb124, 9, none⟩ = some (.slice A0_9 l0_9.length c0_9) := (blk_cell BK124.out 9).trans rfl
     have hcz11_10 : w6.cell? ⟨gb124, 10, none⟩ = some (.bool a0_10) := (blk_cell BK124.out 10).trans rfl
     have hcz11_11 : w6.cell? ⟨gb124, 11, none⟩ = some (.int .i64 a0_11) := (blk_cell BK124.out 11).trans rfl
     have hcz11_12 : w6.cell? ⟨gb124, 12, none⟩ = some (.slice A0_12 l0_12.length c0_12) := (blk_cell BK124.out 12).trans rfl
     have hcz11_13 : w6.cell? ⟨gb124, 13, none⟩ = some (.int .i64 a0_13) := (blk_cell BK124.out 13).trans rfl
     have hcz11_14 : w6.cell? ⟨gb124, 14, none⟩ = some (.int .i64 a0_14) := (blk_cell BK124.out 14).trans rfl
     have hfz11_0 := blk_frozen BK124.out 0
     have hfz11_1 := blk_frozen BK124.out 1
     have hfz11_2 := blk_frozen BK124.out 2
     have hfz11_3 := blk_frozen BK124.out 3
     have hfz11_4 := blk_frozen BK124.out 4
     have hfz11_5 := blk_frozen BK124.out 5
     have hfz11_6 := blk_frozen BK124.out 6
     have hfz11_7 := blk_frozen BK124.out 7
     have hfz11_8 := blk_frozen BK124.out 8
     have hfz11_9 := blk_frozen BK124.out 9
     have hfz11_10 := blk_frozen BK124.out 10
     have hfz11_11 := blk_frozen BK124.out 11
     have hfz11_12 := blk_frozen BK124.out 12
     have hfz11_13 := blk_frozen BK124.out 13
     have hfz11_14 := blk_frozen BK124.out 14
     go_wp2
     go_meet
     case rel => exact ⟨_, (false), (by first | rfl | (simp; done) | (simp [*]; done)), H', ⟨by first | omega | exact Nat.le_refl _⟩, ⟨by (with_reducible repeat (first | refine blk_drewN ?_ _ | refine blk_drew ?_ | refine blk_alloc ?_ _)); exact BK124.out⟩, ⟨by (with_reducible repeat (first | refine blk_drewN ?_ _ | refine blk_drew ?_ | refine blk_alloc ?_ _)); exact BK125.out⟩, ⟨by repeat (first | (with_reducible first | exact HB.out | apply below_alloc | apply pw_below_drewN | apply below_drew1 | refine below_set ?_ GE124.out | refine below_set ?_ GE125.out) | exact HB.out)⟩⟩
    ·
     rw [if_neg c9] at H
     have c9b0 : (a0_1 == 0) = false := beq_eq_false_iff_ne.mpr c9
     have c9b1 : (a0_1 != 0) = true := bne_iff_ne.mpr c9
     have H' := Aside0.mk H
     clear H
     have hnb12 := NB124_125.out
     have hnc12 := NB125_124.out
     have hcz13_0 : w6.cell? ⟨gb124, 0, none⟩ = some (.int .i64 a0_0) := (blk_cell BK124.out 0).trans rfl
     have hcz13_1 : w6.cell? ⟨gb124, 1, none⟩ = some (.int .i64 a0_1) := (blk_cell BK124.out 1).trans rfl
     have hcz13_2 : w6.cell? ⟨gb124, 2, none⟩ = some (.bool a0_2) := (blk_cell BK124.out 2).trans rfl
     have hcz13_3 : w6.cell? ⟨gb124, 3, none⟩ = some (.slice A0_3 l0_3.length c0_3) := (blk_cell BK124.out 3).trans rfl
     have hcz13_4 : w6.cell? ⟨gb124, 4, none⟩ = some (.bool a0_4) := (blk_cell BK124.out 4).trans rfl
     have hcz13_5 : w6.cell? ⟨gb124, 5, none⟩ = some (.slice A0_5 l0_5.length c0_5) := (blk_cell BK124.out 5).trans rfl
     have hcz13_6 : w6.cell? ⟨gb124, 6, none⟩ = some (.bool a0_6) := (blk_cell BK124.out 6).trans rfl
     have hcz13_7 : w6.cell? ⟨gb124, 7, none⟩ = some (.slice A0_7 l0_7.length c0_7) := (blk_cell BK124.out 7).trans rfl
     have hcz13_8 : w6.cell? ⟨gb124, 8, none⟩ = some (.bool a0_8) := (blk_cell BK124.out 8).trans rfl
     have hcz13_9 : w6.cell? ⟨gb124, 9, none⟩ = some (.slice A0_9 l0_9.length c0_9) := (blk_cell BK124.out 9).trans rfl
     have hcz13_10 : w6.cell? ⟨gb124, 10, none⟩ = some (.bool a0_10) := (blk_cell BK124.out 10).trans rfl
     have hcz13_11 : w6.cell? ⟨gb124, 11, none⟩ = some (.int .i64 a0_11) := (blk_cell BK124.out 11).trans rfl
     have hcz13_12 : w6.cell? ⟨gb124, 12, none⟩ = some (.slice A0_12 l0_12.length c0_12) := (blk_cell BK124.out 12).trans rfl
     have hcz13_13 : w6.cell? ⟨gb124, 13, none⟩ = some (.int .i64 a0_13) := (blk_cell BK124.out 13).trans rfl
     have hcz13_14 : w6.cell? ⟨gb124, 14, none⟩ = some (.int .i64 a0_14) := (blk_cell BK124.out 14).trans rfl
     have hfz13_0 := blk_frozen BK124.out 0
     have hfz13_1 := blk_frozen BK124.out 1
     have hfz13_2 := blk_frozen BK124.out 2
     have hfz13_3 := blk_frozen BK124.out 3
     have hfz13_4 := blk_frozen BK124.out 4
     have hfz13_5 := blk_frozen BK124.out 5
     have hfz13_6 := blk_frozen BK124.out 6
     have hfz13_7 := blk_frozen BK124.out 7
     have hfz13_8 := blk_frozen BK124.out 8
     have hfz13_9 := blk_frozen BK124.out 9
     have hfz13_10 := blk_frozen BK124.out 10
     have hfz13_11 := blk_frozen BK124.out 11
     have hfz13_12 := blk_frozen BK124.out 12
     have hfz13_13 := blk_frozen BK124.out 13
     have hfz13_14 := blk_frozen BK124.out 14
     have hcz14_0 : w6.cell? ⟨gb125, 0, none⟩ = some (.int .i64 a1_0) := (blk_cell BK125.out 0).trans rfl
     have hcz14_1 : w6.cell? ⟨gb125, 1, none⟩ = some (.int .u32 a1_1) := (blk_cell BK125.out 1).trans rfl
     have hcz14_2 : w6.cell? ⟨gb125, 2, none⟩ = some (.int .u32 a1_2) := (blk_cell BK125.out 2).trans rfl
     have hcz14_3 : w6.cell? ⟨gb125, 3, none⟩ = some (.int .i64 a1_3) := (blk_cell BK125.out 3).trans rfl
     have hcz14_4 : w6.cell? ⟨gb125, 4, none⟩ = some (.int .i64 a1_4) := (blk_cell BK125.out 4).trans rfl
     have hfz14_0 := blk_frozen BK125.out 0
     have hfz14_1 := blk_frozen BK125.out 1
     have hfz14_2 := blk_frozen BK125.out 2
     have hfz14_3 := blk_frozen BK125.out 3
     have hfz14_4 := blk_frozen BK125.out 4
     go_wp2
     go_meet
     case rel => exact ⟨_, ((a0_1 != a1_0)), (by first | rfl | (simp; done) | (simp [*]; done)), H', ⟨by first | omega | exact Nat.le_refl _⟩, ⟨by (with_reducible repeat (first | refine blk_drewN ?_ _ | refine blk_drew ?_ | refine blk_alloc ?_ _)); exact BK124.out⟩, ⟨by (with_reducible repeat (first | refine blk_drewN ?_ _ | refine blk_drew ?_ | refine blk_alloc ?_ _)); exact BK125.out⟩, ⟨by repeat (first | (with_reducible first | exact HB.out | apply below_alloc | apply pw_below_drewN | apply below_drew1 | refine below_set ?_ GE124.out | refine below_set ?_ GE125.out) | exact HB.out)⟩⟩
 case rest =>
  clear HC4
  try clear c1
  try clear p2
  try clear c7
  try clear c7b0
  try clear c8
  try clear c8b0
  try clear c9
  try clear c9b0
  try clear c9b1
  try clear c10
  try clear c12
  try clear hcz11_0
  try clear hcz11_1
  try clear hcz11_10
  try clear hcz11_11
  try clear hcz11_12
  try clear hcz11_13
  try clear hcz11_14
  try clear hcz11_2
  try clear hcz11_3
  try clear hcz11_4
  try clear hcz11_5
  try clear hcz11_6
  try clear hcz11_7
  try clear hcz11_8
  try clear hcz11_9
  try clear hcz13_0
  try clear hcz13_1
  try clear hcz13_10
  try clear hcz13_11
  try clear hcz13_12
  try clear hcz13_13
  try clear hcz13_14
  try clear hcz13_2
  try clear hcz13_3
  try clear hcz13_4
  try clear hcz13_5
  try clear hcz13_6
  try clear hcz13_7
  try clear hcz13_8
  try clear hcz13_9
  try clear hcz14_0
  try clear hcz14_1
  try clear hcz14_2
  try clear hcz14_3
  try clear hcz14_4
  try clear hfz11_0
  try clear hfz11_1
  try clear hfz11_10
  try clear hfz11_11
  try clear hfz11_12
  try clear hfz11_13
  try clear hfz11_14
  try clear hfz11_2
  try clear hfz11_3
  try clear hfz11_4
  try clear hfz11_5
  try clear hfz11_6
  try clear hfz11_7
  try clear hfz11_8
  try clear hfz11_9
  try clear hfz13_0
  try clear hfz13_1
  try clear hfz13_10
  try clear hfz13_11
  try clear hfz13_12
  try clear hfz13_13
  try clear hfz13_14
  try clear hfz13_2
  try clear hfz13_3
  try clear hfz13_4
  try clear hfz13_5
  try clear hfz13_6
  try clear hfz13_7
  try clear hfz13_8
  try clear hfz13_9
  try clear hfz14_0
  try clear hfz14_1
  try clear hfz14_2
  try clear hfz14_3
  try clear hfz14_4
  obtain ⟨kq, x29_3, rfl, HA, HJ3, BK124, BK125, HB⟩ := hcut
  cases kq with
  | zero => exact absurd HA.out (by simp [group_Fits.j0])
  | succ kj3 =>
   have H := HA.out
   clear HA
   simp only [group_Fits.j0] at H
   by_cases c15 : x29_3 = true
   ·
    subst c15
    have H1 : (some false) = some r := by rw [if_pos rfl] at H; exact H
    clear H
    have H := H1
    clear H1
    obtain rfl := Option.some.inj H
    go_wp2
    go_ret
    exact ⟨by first | rfl | (simp [errW_none, errW_some] <;> rfl) | (simp [*, errW_none, errW_some] <;> rfl), by repeat (first | (with_reducible first | exact HB.out | apply below_alloc | apply pw_below_drewN | apply below_drew1 | refine below_set ?_ GE124.out | refine below_set ?_ GE125.out) | exact HB.out)⟩
   ·
    replace c15 := Bool.eq_false_iff.mpr c15
    subst c15
    have H1 : (if a2 = 1 then (group_Fits.j1 kj3 a2 a0_0 a0_1 a0_2 l0_3 a0_4 l0_5 a0_6 l0_7 a0_8 l0_9 a0_10 a0_11 l0_12 a0_13 a0_14 a1_2 a1_4 a1_1 a1_3) else (group_Fits.j1 kj3 a2 a0_0 a0_1 a0_2 l0_3 a0_4 l0_5 a0_6 l0_7 a0_8 l0_9 a0_10 a0_11 l0_12 a0_13 a0_14 a1_1 a1_3 a1_2 a1_4)) = some r := by rw [if_neg (show ¬ (false = true) by decide)] at H; exact H
    clear H
    have H := H1
    clear H1
    have HC16 := Aside0.mk H
    clear H
    try go_wp2
    have n0_ := Aside0.mk (blk_drew BK124.out)
    have n1_ := Aside0.mk (blk_drew BK125.out)
    have n2_ := Aside0.mk (below_drew1 HB.out)
    clear BK124
    clear BK125
    clear HB
    have BK124 := n0_
    have BK125 := n1_
    have HB := n2_
    clear n0_ n1_ n2_
    refine start_ (n := 14) (S := fun w' => w'.cell? ⟨gb125, 0, none⟩ = some (.int .i64 a1_0) ∧ w'.cell? ⟨gb125, 1, none⟩ = some (.int .u32 a1_1) ∧ w'.cell? ⟨gb125, 2, none⟩ = some (.int .u32 a1_2) ∧ w'.cell? ⟨gb125, 3, none⟩ = some (.int .i64 a1_3) ∧ w'.cell? ⟨gb125, 4, none⟩ = some (.int .i64 a1_4)) (ds := []) #[false, false, false, false, false, false, false, false, false, false, false, false, false, false] (by kernel_rfl) rfl rfl ⟨(blk_cell BK125.out 0).trans rfl, (blk_cell BK125.out 1).trans rfl, (blk_cell BK125.out 2).trans rfl, (blk_cell BK125.out 3).trans rfl, (blk_cell BK125.out 4).trans rfl⟩ (fun hHeld => ?_); refine with_tabW group_Fits.tab3 group_Fits.bits3 (fun HT_ HW_ => ?_)
    generalize wc.drew = w17 at BK124 BK125 HB hHeld ⊢
    refine pure_ (i := 0) (N := some 30) (v := ?_) (a' := ?_) #[true, false, false, false, false, false, false, false, false, false, false, false, false, false] rfl rfl (any_of HT_.out (by kernel_rfl)) (fun _ _ _ h => h) (Or.inl ⟨by rfl, ?_⟩) ?_ ?_
    rotate_left
    ·
     intro w'
     go_simp
     with_reducible rfl
    rotate_left
    ·
     simp only [Act.put, List.setIfInBounds_toArray, List.set_cons_zero, List.set_cons_succ, i64_w, i32_w]
     rfl
    refine pure_ (i := 2) (N := some 32) (v := ?_) (a' := ?_) #[true, false, true, false, false, false, false, false, false, false, false, false, false, false] rfl rfl (any_of HT_.out (by kernel_rfl)) (fun _ _ _ h => h) (Or.inl ⟨by rfl, ?_⟩) ?_ ?_
    rotate_left
    ·
     intro w'
     go_simp
     with_reducible rfl
    rotate_left
    ·
     simp only [Act.put, List.setIfInBounds_toArray, List.set_cons_zero, List.set_cons_succ, i64_w, i32_w]
     rfl
    refine pure_ (i := 5) (N := some 35) (v := ?_) (a' := ?_) #[true, false, true, false, false, true, false, false, false, false, false, false, false, false] rfl rfl (any_of HT_.out (by kernel_rfl)) (fun _ _ _ h => h) (Or.inl ⟨by rfl, ?_⟩) ?_ ?_
    rotate_left
    ·
     intro w'
     go_simp
     with_reducible rfl
    rotate_left
    ·
     simp only [Act.put, List.setIfInBounds_toArray, List.set_cons_zero, List.set_cons_succ, i64_w, i32_w]
     rfl
    refine pure_ (i := 7) (N := some 37) (v := ?_) (a' := ?_) #[true, false, true, false, false, true, false, true, false, false, false, false, false, false] rfl rfl (any_of HT_.out (by kernel_rfl)) (fun _ _ _ h => h) (Or.inl ⟨by rfl, ?_⟩) ?_ ?_
    rotate_left
    ·
     intro w'
     go_simp
     with_reducible rfl
    rotate_left
    ·
     simp only [Act.put, List.setIfInBounds_toArray, List.set_cons_zero, List.set_cons_succ, i64_w, i32_w]
     rfl
    refine take_ (i := 1) (N := some 31) (v := ?_) (a' := ?_) #[true, true, true, false, false, true, false, true, false, false, false, false, false, false] rfl rfl (take_ofW HT_.out HW_.out (by kernel_rfl)) (fun _ _ _ h => h) (Or.inl ⟨by rfl, ?_⟩) hHeld ?_ ?_
    rotate_left
    ·
     rintro w' ⟨s0, s1, s2, s3, s4⟩
     go_simp
     with_reducible rfl
    rotate_left
    ·
     simp only [Act.put, List.setIfInBounds_toArray, List.set_cons_zero, List.set_cons_succ, i64_w, i32_w]
     rfl
    refine take_ (i := 3) (N := some 33) (v := ?_) (a' := ?_) #[true, true, true, true, false, true, false, true, false, false, false, false, false, false] rfl rfl (take_ofW HT_.out HW_.out (by kernel_rfl)) (fun _ _ _ h => h) (Or.inl ⟨by rfl, ?_⟩) hHeld ?_ ?_
    rotate_left
    ·
     rintro w' ⟨s0, s1, s2, s3, s4⟩
     go_simp
     with_reducible rfl
    rotate_left
    ·
     simp only [Act.put, List.setIfInBounds_toArray, List.set_cons_zero, List.set_cons_succ, i64_w, i32_w]
     rfl
    refine pure_ (i := 4) (N := some 34) (v := ?_) (a' := ?_) #[true, true, true, true, true, true, false, true, false, false, false, false, false, false] rfl rfl (any_of HT_.out (by kernel_rfl)) (fun _ _ _ h => h) (Or.inl ⟨by rfl, ?_⟩) ?_ ?_
    rotate_left
    ·
     intro w'
     go_simp
     with_reducible rfl
    rotate_left
    ·
     simp only [Act.put, List.setIfInBounds_toArray, List.set_cons_zero, List.set_cons_succ, i64_w, i32_w]
     rfl
    refine take_ (i := 6) (N := some 36) (v := ?_) (a' := ?_) #[true, true, true, true, true, true, true, true, false, false, false, false, false, false] rfl rfl (take_ofW HT_.out HW_.out (by kernel_rfl)) (fun _ _ _ h => h) (Or.inl ⟨by rfl, ?_⟩) hHeld ?_ ?_
    rotate_left
    ·
     rintro w' ⟨s0, s1, s2, s3, s4⟩
     go_simp
     with_reducible rfl
    rotate_left
    ·
     simp only [Act.put, List.setIfInBounds_toArray, List.set_cons_zero, List.set_cons_succ, i64_w, i32_w]
     rfl
    refine take_ (i := 8) (N := some 38) (v := ?_) (a' := ?_) #[true, true, true, true, true, true, true, true, true, false, false, false, false, false] rfl rfl (take_ofW HT_.out HW_.out (by kernel_rfl)) (fun _ _ _ h => h) (Or.inl ⟨by rfl, ?_⟩) hHeld ?_ ?_
    rotate_left
    ·
     rintro w' ⟨s0, s1, s2, s3, s4⟩
     go_simp
     with_reducible rfl
    rotate_left
    ·
     simp only [Act.put, List.setIfInBounds_toArray, List.set_cons_zero, List.set_cons_succ, i64_w, i32_w]
     rfl
    refine pure_ (i := 9) (N := some 39) (v := ?_) (a' := ?_) #[true, true, true, true, true, true, true, true, true, true, false, false, false, false] rfl rfl (any_of HT_.out (by kernel_rfl)) (fun _ _ _ h => h) (Or.inl ⟨by rfl, ?_⟩) ?_ ?_
    rotate_left
    ·
     intro w'
     go_simp
     with_reducible rfl
    rotate_left
    ·
     simp only [Act.put, List.setIfInBounds_toArray, List.set_cons_zero, List.set_cons_succ, i64_w, i32_w]
     rfl
    refine join_ (σ := Nat × Nat) 2 #[true, true, true, true, true, true, true, true, true, true, true, true, false, false] (fun s_ => [(7, .pointer (some ⟨s_.1, 0, none⟩)), (8, .pointer (some ⟨s_.2, 0, none⟩))]) (fun s_ w' => (w'.cell? ⟨gb125, 0, none⟩ = some (.int .i64 a1_0) ∧ w'.cell? ⟨gb125, 1, none⟩ = some (.int .u32 a1_1) ∧ w'.cell? ⟨gb125, 2, none⟩ = some (.int .u32 a1_2) ∧ w'.cell? ⟨gb125, 3, none⟩ = some (.int .i64 a1_3) ∧ w'.cell? ⟨gb125, 4, none⟩ = some (.int .i64 a1_4)) ∧ (w'.heap[gb124]? = some (.cells #[.int .i64 a0_0, .int .i64 a0_1, .bool a0_2, .slice A0_3 l0_3.length c0_3, .bool a0_4, .slice A0_5 l0_5.length c0_5, .bool a0_6, .slice A0_7 l0_7.length c0_7, .bool a0_8, .slice A0_9 l0_9.length c0_9, .bool a0_10, .int .i64 a0_11, .slice A0_12 l0_12.length c0_12, .int .i64 a0_13, .int .i64 a0_14] 37 (0, 0))) ∧ (w'.heap[gb125]? = some (.cells #[.int .i64 a1_0, .int .u32 a1_1, .int .u32 a1_2, .int .i64 a1_3, .int .i64 a1_4] 25 (0, 0))) ∧ (w'.heap[s_.1]? = some (.cells #[.int .u32 0, .int .i64 0] 56 (0, 0))) ∧ (w'.heap[s_.2]? = some (.cells #[.int .u32 0, .int .i64 0] 56 (0, 0))) ∧ (w.heap.size ≤ s_.1) ∧ (w.heap.size ≤ s_.1) ∧ (gb124 ≠ s_.1) ∧ (s_.1 ≠ gb124) ∧ (gb125 ≠ s_.1) ∧ (s_.1 ≠ gb125) ∧ (s_.2 ≠ s_.1) ∧ (s_.1 ≠ s_.2) ∧ (w.heap.size ≤ s_.2) ∧ (w.heap.size ≤ s_.2) ∧ (gb124 ≠ s_.2) ∧ (s_.2 ≠ gb124) ∧ (gb125 ≠ s_.2) ∧ (s_.2 ≠ gb125) ∧ (Below w.heap.size w w')) ?_ ?_
    rotate_left
    ·
     intro hCont
     refine two_ (i := 10) (j := 11) (Ni := some 7) (Nj := some 8) #[true, true, true, true, true, true, true, true, true, true, true, false, false, false] #[true, true, true, true, true, true, true, true, true, true, false, true, false, false] rfl rfl rfl rfl (two_of HT_.out (by kernel_rfl)) (by decide) (by decide) (fun K hK => ?_) (fun K hK => ?_)
     ·
      skip
      refine box_step ?hg (N := 7) ?hd (cs := #[.int .u32 0, .int .i64 0]) (t := 56) ?hr ?_; (case hd => rfl); (case hg => rfl); (case hr => first | (go_simp; done) | (go_simp; rfl))
      intro gb126 hg w18 hbox hb
      have n0_ := Aside0.mk (blk_below (g := gb124) (o := .cells #[.int .i64 a0_0, .int .i64 a0_1, .bool a0_2, .slice A0_3 l0_3.length c0_3, .bool a0_4, .slice A0_5 l0_5.length c0_5, .bool a0_6, .slice A0_7 l0_7.length c0_7, .bool a0_8, .slice A0_9 l0_9.length c0_9, .bool a0_10, .int .i64 a0_11, .slice A0_12 l0_12.length c0_12, .int .i64 a0_13, .int .i64 a0_14] 37 (0, 0)) (by (with_reducible repeat (first | refine blk_drewN ?_ _ | refine blk_drew ?_ | refine blk_alloc ?_ _)); exact BK124.out) hb)
      have n1_ := Aside0.mk (blk_below (g := gb125) (o := .cells #[.int .i64 a1_0, .int .u32 a1_1, .int .u32 a1_2, .int .i64 a1_3, .int .i64 a1_4] 25 (0, 0)) (by (with_reducible repeat (first | refine blk_drewN ?_ _ | refine blk_drew ?_ | refine blk_alloc ?_ _)); exact BK125.out) hb)
      have n2_ := Aside0.mk (below_step (by repeat (first | (with_reducible first | exact HB.out | apply below_alloc | apply pw_below_drewN | apply below_drew1 | refine below_set ?_ GE124.out | refine below_set ?_ GE125.out) | exact HB.out)) hb)
      have n3_ := Aside0.mk (hbox)
      have n4_ := Aside0.mk ((by rw [hg]; exact (below_size (by repeat (first | (with_reducible first | exact HB.out | apply below_alloc | apply pw_below_drewN | apply below_drew1 | refine below_set ?_ GE124.out | refine below_set ?_ GE125.out) | exact HB.out))) : w.heap.size ≤ gb126))
      have n5_ := Aside0.mk ((by rw [hg]; exact (below_size (by repeat (first | (with_reducible first | exact HB.out | apply below_alloc | apply pw_below_drewN | apply below_drew1 | refine below_set ?_ GE124.out | refine below_set ?_ GE125.out) | exact HB.out))) : w.heap.size ≤ gb126))
      have n6_ := Aside0.mk ((by rw [hg]; exact Nat.ne_of_lt (blk_lt (g := gb124) (o := .cells #[.int .i64 a0_0, .int .i64 a0_1, .bool a0_2, .slice A0_3 l0_3.length c0_3, .bool a0_4, .slice A0_5 l0_5.length c0_5, .bool a0_6, .slice A0_7 l0_7.length c0_7, .bool a0_8, .slice A0_9 l0_9.length c0_9, .bool a0_10, .int .i64 a0_11, .slice A0_12 l0_12.length c0_12, .int .i64 a0_13, .int .i64 a0_14] 37 (0, 0)) (by (with_reducible repeat (first | refine blk_drewN ?_ _ | refine blk_drew ?_ | refine blk_alloc ?_ _)); exact BK124.out)) : gb124 ≠ gb126))
      have n7_ := Aside0.mk ((by rw [hg]; exact Nat.ne_of_gt (blk_lt (g := gb124) (o := .cells #[.int .i64 a0_0, .int .i64 a0_1, .bool a0_2, .slice A0_3 l0_3.length c0_3, .bool a0_4, .slice A0_5 l0_5.length c0_5, .bool a0_6, .slice A0_7 l0_7.length c0_7, .bool a0_8, .slice A0_9 l0_9.length c0_9, .bool a0_10, .int .i64 a0_11, .slice A0_12 l0_12.length c0_12, .int .i64 a0_13, .int .i64 a0_14] 37 (0, 0)) (by (with_reducible repeat (first | refine blk_drewN ?_ _ | refine blk_drew ?_ | refine blk_alloc ?_ _)); exact BK124.out)) : gb126 ≠ gb124))
      have n8_ := Aside0.mk ((by rw [hg]; exact Nat.ne_of_lt (blk_lt (g := gb125) (o := .cells #[.int .i64 a1_0, .int .u32 a1_1, .int .u32 a1_2, .int .i64 a1_3, .int .i64 a1_4] 25 (0, 0)) (by (with_reducible repeat (first | refine blk_drewN ?_ _ | refine blk_drew ?_ | refine blk_alloc ?_ _)); exact BK125.out)) : gb125 ≠ gb126))
      have n9_ := Aside0.mk ((by rw [hg]; exact Nat.ne_of_gt (blk_lt (g := gb125) (o := .cells #[.int .i64 a1_0, .int .u32 a1_1, .int .u32 a1_2, .int .i64 a1_3, .int .i64 a1_4] 25 (0, 0)) (by (with_reducible repeat (first | refine blk_drewN ?_ _ | refine blk_drew ?_ | refine blk_alloc ?_ _)); exact BK125.out)) : gb126 ≠ gb125))
      clear BK124
      clear BK125
      clear HB
      have BK124 := n0_
      have BK125 := n1_
      have HB := n2_
      have BK126 := n3_
      have GW126 := n4_
      have GE126 := n5_
      have NB124_126 := n6_
      have NB126_124 := n7_
      have NB125_126 := n8_
      have NB126_125 := n9_
      clear n0_ n1_ n2_ n3_ n4_ n5_ n6_ n7_ n8_ n9_
      clear hb hbox hg
      refine hK.out _ _ ⟨(blk_cell BK125.out 0).trans rfl, (blk_cell BK125.out 1).trans rfl, (blk_cell BK125.out 2).trans rfl, (blk_cell BK125.out 3).trans rfl, (blk_cell BK125.out 4).trans rfl⟩ (fun hHeld => ?_)
      clear hK K
      refine norm_ (a' := ?_) ?_ ?_
      rotate_left
      ·
       show Act.put _ (some 7) _ = _
       simp only [Act.put, List.setIfInBounds_toArray, List.set_cons_zero, List.set_cons_succ, i64_w, i32_w]
       rfl
      refine one_ (i := 11) (N := some 8) #[true, true, true, true, true, true, true, true, true, true, true, true, false, false] rfl rfl (one_of HT_.out (by kernel_rfl)) (by decide) (fun K hK => ?_)
      refine box_step ?hg (N := 8) ?hd (cs := #[.int .u32 0, .int .i64 0]) (t := 56) ?hr ?_; (case hd => rfl); (case hg => rfl); (case hr => first | (go_simp; done) | (go_simp; rfl))
      intro gb127 hg w19 hbox hb
      have n0_ := Aside0.mk (blk_below (g := gb124) (o := .cells #[.int .i64 a0_0, .int .i64 a0_1, .bool a0_2, .slice A0_3 l0_3.length c0_3, .bool a0_4, .slice A0_5 l0_5.length c0_5, .bool a0_6, .slice A0_7 l0_7.length c0_7, .bool a0_8, .slice A0_9 l0_9.length c0_9, .bool a0_10, .int .i64 a0_11, .slice A0_12 l0_12.length c0_12, .int .i64 a0_13, .int .i64 a0_14] 37 (0, 0)) (by (with_reducible repeat (first | refine blk_drewN ?_ _ | refine blk_drew ?_ | refine blk_alloc ?_ _)); exact BK124.out) hb)
      have n1_ := Aside0.mk (blk_below (g := gb125) (o := .cells #[.int .i64 a1_0, .int .u32 a1_1, .int .u32 a1_2, .int .i64 a1_3, .int .i64 a1_4] 25 (0, 0)) (by (with_reducible repeat (first | refine blk_drewN ?_ _ | refine blk_drew ?_ | refine blk_alloc ?_ _)); exact BK125.out) hb)
      have n2_ := Aside0.mk (blk_below (g := gb126) (o := .cells #[.int .u32 0, .int .i64 0] 56 (0, 0)) (by (with_reducible repeat (first | refine blk_drewN ?_ _ | refine blk_drew ?_ | refine blk_alloc ?_ _)); exact BK126.out) hb)
      have n3_ := Aside0.mk (below_step (by repeat (first | (with_reducible first | exact HB.out | apply below_alloc | apply pw_below_drewN | apply below_drew1 | refine below_set ?_ GE124.out | refine below_set ?_ GE125.out | refine below_set ?_ GE126.out) | exact HB.out)) hb)
      have n4_ := Aside0.mk (hbox)
      have n5_ := Aside0.mk ((by rw [hg]; exact (below_size (by repeat (first | (with_reducible first | exact HB.out | apply below_alloc | apply pw_below_drewN | apply below_drew1 | refine below_set ?_ GE124.out | refine below_set ?_ GE125.out | refine below_set ?_ GE126.out) | exact HB.out))) : w.heap.size ≤ gb127))
      have n6_ := Aside0.mk ((by rw [hg]; exact (below_size (by repeat (first | (with_reducible first | exact HB.out | apply below_alloc | apply pw_below_drewN | apply below_drew1 | refine below_set ?_ GE124.out | refine below_set ?_ GE125.out | refine below_set ?_ GE126.out) | exact HB.out))) : w.heap.size ≤ gb127))
      have n7_ := Aside0.mk ((by rw [hg]; exact Nat.ne_of_lt (blk_lt (g := gb124) (o := .cells #[.int .i64 a0_0, .int .i64 a0_1, .bool a0_2, .slice A0_3 l0_3.length c0_3, .bool a0_4, .slice A0_5 l0_5.length c0_5, .bool a0_6, .slice A0_7 l0_7.length c0_7, .bool a0_8, .slice A0_9 l0_9.length c0_9, .bool a0_10, .int .i64 a0_11, .slice A0_12 l0_12.length c0_12, .int .i64 a0_13, .int .i64 a0_14] 37 (0, 0)) (by (with_reducible repeat (first | refine blk_drewN ?_ _ | refine blk_drew ?_ | refine blk_alloc ?_ _)); exact BK124.out)) : gb124 ≠ gb127))
      have n8_ := Aside0.mk ((by rw [hg]; exact Nat.ne_of_gt (blk_lt (g := gb124) (o := .cells #[.int .i64 a0_0, .int .i64 a0_1, .bool a0_2, .slice A0_3 l0_3.length c0_3, .bool a0_4, .slice A0_5 l0_5.length c0_5, .bool a0_6, .slice A0_7 l0_7.length c0_7, .bool a0_8, .slice A0_9 l0_9.length c0_9, .bool a0_10, .int .i64 a0_11, .slice A0_12 l0_12.length c0_12, .int .i64 a0_13, .int .i64 a0_14] 37 (0, 0)) (by (with_reducible repeat (first | refine blk_drewN ?_ _ | refine blk_drew ?_ | refine blk_alloc ?_ _)); exact BK124.out)) : gb127 ≠ gb124))
      have n9_ := Aside0.mk ((by rw [hg]; exact Nat.ne_of_lt (blk_lt (g := gb125) (o := .cells #[.int .i64 a1_0, .int .u32 a1_1, .int .u32 a1_2, .int .i64 a1_3, .int .i64 a1_4] 25 (0, 0)) (by (with_reducible repeat (first | refine blk_drewN ?_ _ | refine blk_drew ?_ | refine blk_alloc ?_ _)); exact BK125.out)) : gb125 ≠ gb127))
      have n10_ := Aside0.mk ((by rw [hg]; exact Nat.ne_of_gt (blk_lt (g := gb125) (o := .cells #[.int .i64 a1_0, .int .u32 a1_1, .int .u32 a1_2, .int .i64 a1_3, .int .i64 a1_4] 25 (0, 0)) (by (with_reducible repeat (first | refine blk_drewN ?_ _ | refine blk_drew ?_ | refine blk_alloc ?_ _)); exact BK125.out)) : gb127 ≠ gb125))
      have n11_ := Aside0.mk ((by rw [hg]; exact Nat.ne_of_lt (blk_lt (g := gb126) (o := .cells #[.int .u32 0, .int .i64 0] 56 (0, 0)) (by (with_reducible repeat (first | refine blk_drewN ?_ _ | refine blk_drew ?_ | refine blk_alloc ?_ _)); exact BK126.out)) : gb126 ≠ gb127))
      have n12_ := Aside0.mk ((by rw [hg]; exact Nat.ne_of_gt (blk_lt (g := gb126) (o := .cells #[.int .u32 0, .int .i64 0] 56 (0, 0)) (by (with_reducible repeat (first | refine blk_drewN ?_ _ | refine blk_drew ?_ | refine blk_alloc ?_ _)); exact BK126.out)) : gb127 ≠ gb126))
      clear BK124
      clear BK125
      clear BK126
      clear HB
      have BK124 := n0_
      have BK125 := n1_
      have BK126 := n2_
      have HB := n3_
      have BK127 := n4_
      have GW127 := n5_
      have GE127 := n6_
      have NB124_127 := n7_
      have NB127_124 := n8_
      have NB125_127 := n9_
      have NB127_125 := n10_
      have NB126_127 := n11_
      have NB127_126 := n12_
      clear n0_ n1_ n2_ n3_ n4_ n5_ n6_ n7_ n8_ n9_ n10_ n11_ n12_
      clear hb hbox hg
      refine hK.out _ _ ⟨(blk_cell BK125.out 0).trans rfl, (blk_cell BK125.out 1).trans rfl, (blk_cell BK125.out 2).trans rfl, (blk_cell BK125.out 3).trans rfl, (blk_cell BK125.out 4).trans rfl⟩ (fun hHeld => ?_)
      clear hK K
      refine norm_ (a' := ?_) ?_ ?_
      rotate_left
      ·
       show Act.put _ (some 8) _ = _
       simp only [Act.put, List.setIfInBounds_toArray, List.set_cons_zero, List.set_cons_succ, i64_w, i32_w]
       rfl
      exact norm_ (by simp only [putAll, Act.put, List.setIfInBounds_toArray, List.set_cons_zero, List.set_cons_succ]) (hCont (gb126, gb127) _ ⟨hHeld, (by (with_reducible repeat (first | refine blk_drewN ?_ _ | refine blk_drew ?_ | refine blk_alloc ?_ _)); exact BK124.out), (by (with_reducible repeat (first | refine blk_drewN ?_ _ | refine blk_drew ?_ | refine blk_alloc ?_ _)); exact BK125.out), (by (with_reducible repeat (first | refine blk_drewN ?_ _ | refine blk_drew ?_ | refine blk_alloc ?_ _)); exact BK126.out), (by (with_reducible repeat (first | refine blk_drewN ?_ _ | refine blk_drew ?_ | refine blk_alloc ?_ _)); exact BK127.out), GW126.out, GE126.out, NB124_126.out, NB126_124.out, NB125_126.out, NB126_125.out, NB127_126.out, NB126_127.out, GW127.out, GE127.out, NB124_127.out, NB127_124.out, NB125_127.out, NB127_125.out, (by repeat (first | (with_reducible first | exact HB.out | apply below_alloc | apply pw_below_drewN | apply below_drew1 | refine below_set ?_ GE124.out | refine below_set ?_ GE125.out | refine below_set ?_ GE126.out | refine below_set ?_ GE127.out) | exact HB.out))⟩)
     ·
      skip
      refine box_step ?hg (N := 8) ?hd (cs := #[.int .u32 0, .int .i64 0]) (t := 56) ?hr ?_; (case hd => rfl); (case hg => rfl); (case hr => first | (go_simp; done) | (go_simp; rfl))
      intro gb127 hg w18 hbox hb
      have n0_ := Aside0.mk (blk_below (g := gb124) (o := .cells #[.int .i64 a0_0, .int .i64 a0_1, .bool a0_2, .slice A0_3 l0_3.length c0_3, .bool a0_4, .slice A0_5 l0_5.length c0_5, .bool a0_6, .slice A0_7 l0_7.length c0_7, .bool a0_8, .slice A0_9 l0_9.length c0_9, .bool a0_10, .int .i64 a0_11, .slice A0_12 l0_12.length c0_12, .int .i64 a0_13, .int .i64 a0_14] 37 (0, 0)) (by (with_reducible repeat (first | refine blk_drewN ?_ _ | refine blk_drew ?_ | refine blk_alloc ?_ _)); exact BK124.out) hb)
      have n1_ := Aside0.mk (blk_below (g := gb125) (o := .cells #[.int .i64 a1_0, .int .u32 a1_1, .int .u32 a1_2, .int .i64 a1_3, .int .i64 a1_4] 25 (0, 0)) (by (with_reducible repeat (first | refine blk_drewN ?_ _ | refine blk_drew ?_ | refine blk_alloc ?_ _)); exact BK125.out) hb)
      have n2_ := Aside0.mk (below_step (by repeat (first | (with_reducible first | exact HB.out | apply below_alloc | apply pw_below_drewN | apply below_drew1 | refine below_set ?_ GE124.out | refine below_set ?_ GE125.out) | exact HB.out)) hb)
      have n3_ := Aside0.mk (hbox)
      have n4_ := Aside0.mk ((by rw [hg]; exact (below_size (by repeat (first | (with_reducible first | exact HB.out | apply below_alloc | apply pw_below_drewN | apply below_drew1 | refine below_set ?_ GE124.out | refine below_set ?_ GE125.out) | exact HB.out))) : w.heap.size ≤ gb127))
      have n5_ := Aside0.mk ((by rw [hg]; exact (below_size (by repeat (first | (with_reducible first | exact HB.out | apply below_alloc | apply pw_below_drewN | apply below_drew1 | refine below_set ?_ GE124.out | refine below_set ?_ GE125.out) | exact HB.out))) : w.heap.size ≤ gb127))
      have n6_ := Aside0.mk ((by rw [hg]; exact Nat.ne_of_lt (blk_lt (g := gb124) (o := .cells #[.int .i64 a0_0, .int .i64 a0_1, .bool a0_2, .slice A0_3 l0_3.length c0_3, .bool a0_4, .slice A0_5 l0_5.length c0_5, .bool a0_6, .slice A0_7 l0_7.length c0_7, .bool a0_8, .slice A0_9 l0_9.length c0_9, .bool a0_10, .int .i64 a0_11, .slice A0_12 l0_12.length c0_12, .int .i64 a0_13, .int .i64 a0_14] 37 (0, 0)) (by (with_reducible repeat (first | refine blk_drewN ?_ _ | refine blk_drew ?_ | refine blk_alloc ?_ _)); exact BK124.out)) : gb124 ≠ gb127))
      have n7_ := Aside0.mk ((by rw [hg]; exact Nat.ne_of_gt (blk_lt (g := gb124) (o := .cells #[.int .i64 a0_0, .int .i64 a0_1, .bool a0_2, .slice A0_3 l0_3.length c0_3, .bool a0_4, .slice A0_5 l0_5.length c0_5, .bool a0_6, .slice A0_7 l0_7.length c0_7, .bool a0_8, .slice A0_9 l0_9.length c0_9, .bool a0_10, .int .i64 a0_11, .slice A0_12 l0_12.length c0_12, .int .i64 a0_13, .int .i64 a0_14] 37 (0, 0)) (by (with_reducible repeat (first | refine blk_drewN ?_ _ | refine blk_drew ?_ | refine blk_alloc ?_ _)); exact BK124.out)) : gb127 ≠ gb124))
      have n8_ := Aside0.mk ((by rw [hg]; exact Nat.ne_of_lt (blk_lt (g := gb125) (o := .cells #[.int .i64 a1_0, .int .u32 a1_1, .int .u32 a1_2, .int .i64 a1_3, .int .i64 a1_4] 25 (0, 0)) (by (with_reducible repeat (first | refine blk_drewN ?_ _ | refine blk_drew ?_ | refine blk_alloc ?_ _)); exact BK125.out)) : gb125 ≠ gb127))
      have n9_ := Aside0.mk ((by rw [hg]; exact Nat.ne_of_gt (blk_lt (g := gb125) (o := .cells #[.int .i64 a1_0, .int .u32 a1_1, .int .u32 a1_2, .int .i64 a1_3, .int .i64 a1_4] 25 (0, 0)) (by (with_reducible repeat (first | refine blk_drewN ?_ _ | refine blk_drew ?_ | refine blk_alloc ?_ _)); exact BK125.out)) : gb127 ≠ gb125))
      clear BK124
      clear BK125
      clear HB
      have BK124 := n0_
      have BK125 := n1_
      have HB := n2_
      have BK127 := n3_
      have GW127 := n4_
      have GE127 := n5_
      have NB124_127 := n6_
      have NB127_124 := n7_
      have NB125_127 := n8_
      have NB127_125 := n9_
      clear n0_ n1_ n2_ n3_ n4_ n5_ n6_ n7_ n8_ n9_
      clear hb hbox hg
      refine hK.out _ _ ⟨(blk_cell BK125.out 0).trans rfl, (blk_cell BK125.out 1).trans rfl, (blk_cell BK125.out 2).trans rfl, (blk_cell BK125.out 3).trans rfl, (blk_cell BK125.out 4).trans rfl⟩ (fun hHeld => ?_)
      clear hK K
      refine norm_ (a' := ?_) ?_ ?_
      rotate_left
      ·
       show Act.put _ (some 8) _ = _
       simp only [Act.put, List.setIfInBounds_toArray, List.set_cons_zero, List.set_cons_succ, i64_w, i32_w]
       rfl
      refine one_ (i := 10) (N := some 7) #[true, true, true, true, true, true, true, true, true, true, true, true, false, false] rfl rfl (one_of HT_.out (by kernel_rfl)) (by decide) (fun K hK => ?_)
      refine box_step ?hg (N := 7) ?hd (cs := #[.int .u32 0, .int .i64 0]) (t := 56) ?hr ?_; (case hd => rfl); (case hg => rfl); (case hr => first | (go_simp; done) | (go_simp; rfl))
      intro gb126 hg w19 hbox hb
      have n0_ := Aside0.mk (blk_below (g := gb124) (o := .cells #[.int .i64 a0_0, .int .i64 a0_1, .bool a0_2, .slice A0_3 l0_3.length c0_3, .bool a0_4, .slice A0_5 l0_5.length c0_5, .bool a0_6, .slice A0_7 l0_7.length c0_7, .bool a0_8, .slice A0_9 l0_9.length c0_9, .bool a0_10, .int .i64 a0_11, .slice A0_12 l0_12.length c0_12, .int .i64 a0_13, .int .i64 a0_14] 37 (0, 0)) (by (with_reducible repeat (first | refine blk_drewN ?_ _ | refine blk_drew ?_ | refine blk_alloc ?_ _)); exact BK124.out) hb)
      have n1_ := Aside0.mk (blk_below (g := gb125) (o := .cells #[.int .i64 a1_0, .int .u32 a1_1, .int .u32 a1_2, .int .i64 a1_3, .int .i64 a1_4] 25 (0, 0)) (by (with_reducible repeat (first | refine blk_drewN ?_ _ | refine blk_drew ?_ | refine blk_alloc ?_ _)); exact BK125.out) hb)
      have n2_ := Aside0.mk (blk_below (g := gb127) (o := .cells #[.int .u32 0, .int .i64 0] 56 (0, 0)) (by (with_reducible repeat (first | refine blk_drewN ?_ _ | refine blk_drew ?_ | refine blk_alloc ?_ _)); exact BK127.out) hb)
      have n3_ := Aside0.mk (below_step (by repeat (first | (with_reducible first | exact HB.out | apply below_alloc | apply pw_below_drewN | apply below_drew1 | refine below_set ?_ GE124.out | refine below_set ?_ GE125.out | refine below_set ?_ GE127.out) | exact HB.out)) hb)
      have n4_ := Aside0.mk (hbox)
      have n5_ := Aside0.mk ((by rw [hg]; exact (below_size (by repeat (first | (with_reducible first | exact HB.out | apply below_alloc | apply pw_below_drewN | apply below_drew1 | refine below_set ?_ GE124.out | refine below_set ?_ GE125.out | refine below_set ?_ GE127.out) | exact HB.out))) : w.heap.size ≤ gb126))
      have n6_ := Aside0.mk ((by rw [hg]; exact (below_size (by repeat (first | (with_reducible first | exact HB.out | apply below_alloc | apply pw_below_drewN | apply below_drew1 | refine below_set ?_ GE124.out | refine below_set ?_ GE125.out | refine below_set ?_ GE127.out) | exact HB.out))) : w.heap.size ≤ gb126))
      have n7_ := Aside0.mk ((by rw [hg]; exact Nat.ne_of_lt (blk_lt (g := gb124) (o := .cells #[.int .i64 a0_0, .int .i64 a0_1, .bool a0_2, .slice A0_3 l0_3.length c0_3, .bool a0_4, .slice A0_5 l0_5.length c0_5, .bool a0_6, .slice A0_7 l0_7.length c0_7, .bool a0_8, .slice A0_9 l0_9.length c0_9, .bool a0_10, .int .i64 a0_11, .slice A0_12 l0_12.length c0_12, .int .i64 a0_13, .int .i64 a0_14] 37 (0, 0)) (by (with_reducible repeat (first | refine blk_drewN ?_ _ | refine blk_drew ?_ | refine blk_alloc ?_ _)); exact BK124.out)) : gb124 ≠ gb126))
      have n8_ := Aside0.mk ((by rw [hg]; exact Nat.ne_of_gt (blk_lt (g := gb124) (o := .cells #[.int .i64 a0_0, .int .i64 a0_1, .bool a0_2, .slice A0_3 l0_3.length c0_3, .bool a0_4, .slice A0_5 l0_5.length c0_5, .bool a0_6, .slice A0_7 l0_7.length c0_7, .bool a0_8, .slice A0_9 l0_9.length c0_9, .bool a0_10, .int .i64 a0_11, .slice A0_12 l0_12.length c0_12, .int .i64 a0_13, .int .i64 a0_14] 37 (0, 0)) (by (with_reducible repeat (first | refine blk_drewN ?_ _ | refine blk_drew ?_ | refine blk_alloc ?_ _)); exact BK124.out)) : gb126 ≠ gb124))
      have n9_ := Aside0.mk ((by rw [hg]; exact Nat.ne_of_lt (blk_lt (g := gb125) (o := .cells #[.int .i64 a1_0, .int .u32 a1_1, .int .u32 a1_2, .int .i64 a1_3, .int .i64 a1_4] 25 (0, 0)) (by (with_reducible repeat (first | refine blk_drewN ?_ _ | refine blk_drew ?_ | refine blk_alloc ?_ _)); exact BK125.out)) : gb125 ≠ gb126))
      have n10_ := Aside0.mk ((by rw [hg]; exact Nat.ne_of_gt (blk_lt (g := gb125) (o := .cells #[.int .i64 a1_0, .int .u32 a1_1, .int .u32 a1_2, .int .i64 a1_3, .int .i64 a1_4] 25 (0, 0)) (by (with_reducible repeat (first | refine blk_drewN ?_ _ | refine blk_drew ?_ | refine blk_alloc ?_ _)); exact BK125.out)) : gb126 ≠ gb125))
      have n11_ := Aside0.mk ((by rw [hg]; exact Nat.ne_of_lt (blk_lt (g := gb127) (o := .cells #[.int .u32 0, .int .i64 0] 56 (0, 0)) (by (with_reducible repeat (first | refine blk_drewN ?_ _ | refine blk_drew ?_ | refine blk_alloc ?_ _)); exact BK127.out)) : gb127 ≠ gb126))
      have n12_ := Aside0.mk ((by rw [hg]; exact Nat.ne_of_gt (blk_lt (g := gb127) (o := .cells #[.int .u32 0, .int .i64 0] 56 (0, 0)) (by (with_reducible repeat (first | refine blk_drewN ?_ _ | refine blk_drew ?_ | refine blk_alloc ?_ _)); exact BK127.out)) : gb126 ≠ gb127))
      clear BK124
      clear BK125
      clear BK127
      clear HB
      have BK124 := n0_
      have BK125 := n1_
      have BK127 := n2_
      have HB := n3_
      have BK126 := n4_
      have GW126 := n5_
      have GE126 := n6_
      have NB124_126 := n7_
      have NB126_124 := n8_
      have NB125_126 := n9_
      have NB126_125 := n10_
      have NB127_126 := n11_
      have NB126_127 := n12_
      clear n0_ n1_ n2_ n3_ n4_ n5_ n6_ n7_ n8_ n9_ n10_ n11_ n12_
      clear hb hbox hg
      refine hK.out _ _ ⟨(blk_cell BK125.out 0).trans rfl, (blk_cell BK125.out 1).trans rfl, (blk_cell BK125.out 2).trans rfl, (blk_cell BK125.out 3).trans rfl, (blk_cell BK125.out 4).trans rfl⟩ (fun hHeld => ?_)
      clear hK K
      refine norm_ (a' := ?_) ?_ ?_
      rotate_left
      ·
       show Act.put _ (some 7) _ = _
       simp only [Act.put, List.setIfInBounds_toArray, List.set_cons_zero, List.set_cons_succ, i64_w, i32_w]
       rfl
      exact norm_ (by simp only [putAll, Act.put, List.setIfInBounds_toArray, List.set_cons_zero, List.set_cons_succ]) (hCont (gb126, gb127) _ ⟨hHeld, (by (with_reducible repeat (first | refine blk_drewN ?_ _ | refine blk_drew ?_ | refine blk_alloc ?_ _)); exact BK124.out), (by (with_reducible repeat (first | refine blk_drewN ?_ _ | refine blk_drew ?_ | refine blk_alloc ?_ _)); exact BK125.out), (by (with_reducible repeat (first | refine blk_drewN ?_ _ | refine blk_drew ?_ | refine blk_alloc ?_ _)); exact BK126.out), (by (with_reducible repeat (first | refine blk_drewN ?_ _ | refine blk_drew ?_ | refine blk_alloc ?_ _)); exact BK127.out), GW126.out, GE126.out, NB124_126.out, NB126_124.out, NB125_126.out, NB126_125.out, NB127_126.out, NB126_127.out, GW127.out, GE127.out, NB124_127.out, NB127_124.out, NB125_127.out, NB127_125.out, (by repeat (first | (with_reducible first | exact HB.out | apply below_alloc | apply pw_below_drewN | apply below_drew1 | refine below_set ?_ GE124.out | refine below_set ?_ GE125.out | refine below_set ?_ GE127.out | refine below_set ?_ GE126.out) | exact HB.out))⟩)
    rintro ⟨gb126, gb127⟩ w20 ⟨hS_, h0_, h1_, h2_, h3_, h4_, h5_, h6_, h7_, h8_, h9_, h10_, h11_, h12_, h13_, h14_, h15_, h16_, h17_, h18_⟩
    have n0_ : Aside0 (w20.heap[gb124]? = some (.cells #[.int .i64 a0_0, .int .i64 a0_1, .bool a0_2, .slice A0_3 l0_3.length c0_3, .bool a0_4, .slice A0_5 l0_5.length c0_5, .bool a0_6, .slice A0_7 l0_7.length c0_7, .bool a0_8, .slice A0_9 l0_9.length c0_9, .bool a0_10, .int .i64 a0_11, .slice A0_12 l0_12.length c0_12, .int .i64 a0_13, .int .i64 a0_14] 37 (0, 0))) := ⟨h0_⟩
    have n1_ : Aside0 (w20.heap[gb125]? = some (.cells #[.int .i64 a1_0, .int .u32 a1_1, .int .u32 a1_2, .int .i64 a1_3, .int .i64 a1_4] 25 (0, 0))) := ⟨h1_⟩
    have n2_ : Aside0 (w20.heap[gb126]? = some (.cells #[.int .u32 0, .int .i64 0] 56 (0, 0))) := ⟨h2_⟩
    have n3_ : Aside0 (w20.heap[gb127]? = some (.cells #[.int .u32 0, .int .i64 0] 56 (0, 0))) := ⟨h3_⟩
    have n4_ : Aside0 (w.heap.size ≤ gb126) := ⟨h4_⟩
    have n5_ : Aside0 (w.heap.size ≤ gb126) := ⟨h5_⟩
    have n6_ : Aside0 (gb124 ≠ gb126) := ⟨h6_⟩
    have n7_ : Aside0 (gb126 ≠ gb124) := ⟨h7_⟩
    have n8_ : Aside0 (gb125 ≠ gb126) := ⟨h8_⟩
    have n9_ : Aside0 (gb126 ≠ gb125) := ⟨h9_⟩
    have n10_ : Aside0 (gb127 ≠ gb126) := ⟨h10_⟩
    have n11_ : Aside0 (gb126 ≠ gb127) := ⟨h11_⟩
    have n12_ : Aside0 (w.heap.size ≤ gb127) := ⟨h12_⟩
    have n13_ : Aside0 (w.heap.size ≤ gb127) := ⟨h13_⟩
    have n14_ : Aside0 (gb124 ≠ gb127) := ⟨h14_⟩
    have n15_ : Aside0 (gb127 ≠ gb124) := ⟨h15_⟩
    have n16_ : Aside0 (gb125 ≠ gb127) := ⟨h16_⟩
    have n17_ : Aside0 (gb127 ≠ gb125) := ⟨h17_⟩
    have n18_ : Aside0 (Below w.heap.size w w20) := ⟨h18_⟩
    clear BK124
    clear BK125
    clear HB
    clear h0_ h1_ h2_ h3_ h4_ h5_ h6_ h7_ h8_ h9_ h10_ h11_ h12_ h13_ h14_ h15_ h16_ h17_ h18_
    have BK124 := n0_
    have BK125 := n1_
    have BK126 := n2_
    have BK127 := n3_
    have GW126 := n4_
    have GE126 := n5_
    have NB124_126 := n6_
    have NB126_124 := n7_
    have NB125_126 := n8_
    have NB126_125 := n9_
    have NB127_126 := n10_
    have NB126_127 := n11_
    have GW127 := n12_
    have GE127 := n13_
    have NB124_127 := n14_
    have NB127_124 := n15_
    have NB125_127 := n16_
    have NB127_125 := n17_
    have HB := n18_
    clear n0_ n1_ n2_ n3_ n4_ n5_ n6_ n7_ n8_ n9_ n10_ n11_ n12_ n13_ n14_ n15_ n16_ n17_ n18_
    have hHeld : w20.cell? ⟨gb125, 0, none⟩ = some (.int .i64 a1_0) ∧ w20.cell? ⟨gb125, 1, none⟩ = some (.int .u32 a1_1) ∧ w20.cell? ⟨gb125, 2, none⟩ = some (.int .u32 a1_2) ∧ w20.cell? ⟨gb125, 3, none⟩ = some (.int .i64 a1_3) ∧ w20.cell? ⟨gb125, 4, none⟩ = some (.int .i64 a1_4) := hS_
    refine norm_ (a' := ?_) ?_ ?_
    rotate_left
    ·
     simp only [putAll, Act.put, List.setIfInBounds_toArray, List.set_cons_zero, List.set_cons_succ]
     rfl
    refine one_ (i := 12) (N := none) #[true, true, true, true, true, true, true, true, true, true, true, true, true, false] rfl rfl (one_of HT_.out (by kernel_rfl)) (by decide) (fun K hK => ?_)
    have hs21 : w20.cell? ⟨gb126, 0, none⟩ = some (.int .u32 0) := (blk_cell BK126.out 0).trans rfl
    have hfs21 := blk_frozen BK126.out 0
    have hns21_0 := NB124_126.out
    have hns21_1 := NB125_126.out
    have hns21_3 := NB127_126.out
    have hms21_0 := NB126_124.out
    have hms21_1 := NB126_125.out
    have hms21_3 := NB126_127.out
    have hs22 : w20.cell? ⟨gb126, 1, none⟩ = some (.int .i64 0) := (blk_cell BK126.out 1).trans rfl
    have hfs22 := blk_frozen BK126.out 1
    have hns22_0 := NB124_126.out
    have hns22_1 := NB125_126.out
    have hns22_3 := NB127_126.out
    have hms22_0 := NB126_124.out
    have hms22_1 := NB126_125.out
    have hms22_3 := NB126_127.out
    refine skip_ (w1 := ?_) (by rfl) rfl ?_ ?_
    rotate_left
    ·
     go_simp
     rfl
    refine hK.out _ _ ⟨((cell_far (p := ⟨gb126, _, none⟩) NB125_126.out _).trans (((cell_far (p := ⟨gb126, _, none⟩) NB125_126.out _).trans (hHeld.1)))), ((cell_far (p := ⟨gb126, _, none⟩) NB125_126.out _).trans (((cell_far (p := ⟨gb126, _, none⟩) NB125_126.out _).trans (hHeld.2.1)))), ((cell_far (p := ⟨gb126, _, none⟩) NB125_126.out _).trans (((cell_far (p := ⟨gb126, _, none⟩) NB125_126.out _).trans (hHeld.2.2.1)))), ((cell_far (p := ⟨gb126, _, none⟩) NB125_126.out _).trans (((cell_far (p := ⟨gb126, _, none⟩) NB125_126.out _).trans (hHeld.2.2.2.1)))), ((cell_far (p := ⟨gb126, _, none⟩) NB125_126.out _).trans (((cell_far (p := ⟨gb126, _, none⟩) NB125_126.out _).trans (hHeld.2.2.2.2))))⟩ (fun hHeld => ?_)
    clear hK K
    refine one_ (i := 13) (N := none) #[true, true, true, true, true, true, true, true, true, true, true, true, true, true] rfl rfl (one_of HT_.out (by kernel_rfl)) (by decide) (fun K hK => ?_)
    have hs23 : w20.cell? ⟨gb127, 0, none⟩ = some (.int .u32 0) := (blk_cell BK127.out 0).trans rfl
    have hfs23 := blk_frozen BK127.out 0
    have hns23_0 := NB124_127.out
    have hns23_1 := NB125_127.out
    have hns23_2 := NB126_127.out
    have hms23_0 := NB127_124.out
    have hms23_1 := NB127_125.out
    have hms23_2 := NB127_126.out
    have hs24 : w20.cell? ⟨gb127, 1, none⟩ = some (.int .i64 0) := (blk_cell BK127.out 1).trans rfl
    have hfs24 := blk_frozen BK127.out 1
    have hns24_0 := NB124_127.out
    have hns24_1 := NB125_127.out
    have hns24_2 := NB126_127.out
    have hms24_0 := NB127_124.out
    have hms24_1 := NB127_125.out
    have hms24_2 := NB127_126.out
    refine skip_ (w1 := ?_) (by rfl) rfl ?_ ?_
    rotate_left
    ·
     go_simp
     rfl
    refine hK.out _ _ ⟨((cell_far (p := ⟨gb127, _, none⟩) NB125_127.out _).trans (((cell_far (p := ⟨gb127, _, none⟩) NB125_127.out _).trans (hHeld.1)))), ((cell_far (p := ⟨gb127, _, none⟩) NB125_127.out _).trans (((cell_far (p := ⟨gb127, _, none⟩) NB125_127.out _).trans (hHeld.2.1)))), ((cell_far (p := ⟨gb127, _, none⟩) NB125_127.out _).trans (((cell_far (p := ⟨gb127, _, none⟩) NB125_127.out _).trans (hHeld.2.2.1)))), ((cell_far (p := ⟨gb127, _, none⟩) NB125_127.out _).trans (((cell_far (p := ⟨gb127, _, none⟩) NB125_127.out _).trans (hHeld.2.2.2.1)))), ((cell_far (p := ⟨gb127, _, none⟩) NB125_127.out _).trans (((cell_far (p := ⟨gb127, _, none⟩) NB125_127.out _).trans (hHeld.2.2.2.2))))⟩ (fun hHeld => ?_)
    clear hK K
    refine done_ (done_of HT_.out (by kernel_rfl)) ?_
    go_upto_if 41 with (fail)
    go_cut [] (fun wc => ∃ (kq : Nat) (x127000_15 : Int) (x127001_15 : Int) (x128000_15 : Int) (x128001_15 : Int), Aside0 (group_Fits.j1 kq a2 a0_0 a0_1 a0_2 l0_3 a0_4 l0_5 a0_6 l0_7 a0_8 l0_9 a0_10 a0_11 l0_12 a0_13 a0_14 x127000_15 x127001_15 x128000_15 x128001_15 = some r) ∧ Aside0 (kq ≤ kj3) ∧ Aside0 (wc.heap[gb124]? = some (.cells #[.int .i64 a0_0, .int .i64 a0_1, .bool a0_2, (.slice A0_3 l0_3.length c0_3), .bool a0_4, (.slice A0_5 l0_5.length c0_5), .bool a0_6, (.slice A0_7 l0_7.length c0_7), .bool a0_8, (.slice A0_9 l0_9.length c0_9), .bool a0_10, .int .i64 a0_11, (.slice A0_12 l0_12.length c0_12), .int .i64 a0_13, .int .i64 a0_14] 37 (0, 0))) ∧ Aside0 (wc.heap[gb125]? = some (.cells #[.int .i64 a1_0, .int .u32 a1_1, .int .u32 a1_2, .int .i64 a1_3, .int .i64 a1_4] 25 (0, 0))) ∧ Aside0 (wc.heap[gb126]? = some (.cells #[.int .u32 x127000_15, .int .i64 x127001_15] 56 (0, 0))) ∧ Aside0 (wc.heap[gb127]? = some (.cells #[.int .u32 x128000_15, .int .i64 x128001_15] 56 (0, 0))) ∧ Aside0 (Below w.heap.size w wc))
    case first =>
     have H := HC16.out
     clear HC16
     by_cases c25 : a2 = 1
     ·
      rw [if_pos c25] at H
      have c25b0 : (a2 == 1) = true := beq_iff_eq.mpr c25
      have c25b1 : (a2 != 1) = false := bne_eq_false_iff_eq.mpr c25
      clear c25
      (first | rw [c25b0] | (simp only [i64_w, i32_w]; rw [c25b0]) | skip)
      have H' := Aside0.mk H
      clear H
      have hnb26 := NB127_124.out
      have hnc26 := NB124_127.out
      have hnb27 := NB127_125.out
      have hnc27 := NB125_127.out
      have hnb28 := NB127_126.out
      have hnc28 := NB126_127.out
      have hcz29_0 : w20.cell? ⟨gb127, 0, none⟩ = some (.int .u32 0) := (blk_cell BK127.out 0).trans rfl
      have hcz29_1 : w20.cell? ⟨gb127, 1, none⟩ = some (.int .i64 0) := (blk_cell BK127.out 1).trans rfl
      have hfz29_0 := blk_frozen BK127.out 0
      have hfz29_1 := blk_frozen BK127.out 1
      have hnb30 := NB126_124.out
      have hnc30 := NB124_126.out
      have hnb31 := NB126_125.out
      have hnc31 := NB125_126.out
      have hcz32_0 : w20.cell? ⟨gb126, 0, none⟩ = some (.int .u32 0) := (blk_cell BK126.out 0).trans rfl
      have hcz32_1 : w20.cell? ⟨gb126, 1, none⟩ = some (.int .i64 0) := (blk_cell BK126.out 1).trans rfl
      have hfz32_0 := blk_frozen BK126.out 0
      have hfz32_1 := blk_frozen BK126.out 1
      go_wp2
      go_meet
      case rel => exact ⟨_, (a1_2), (a1_4), (a1_1), (a1_3), H', ⟨by have := HJ3.out; first | omega | exact Nat.le_refl _⟩, ⟨by (with_reducible repeat (first | refine blk_drewN ?_ _ | refine blk_drew ?_ | refine blk_alloc ?_ _)); refine blk_far ?_ NB124_127.out _; (with_reducible repeat (first | refine blk_drewN ?_ _ | refine blk_drew ?_ | refine blk_alloc ?_ _)); refine blk_far ?_ NB124_127.out _; (with_reducible repeat (first | refine blk_drewN ?_ _ | refine blk_drew ?_ | refine blk_alloc ?_ _)); refine blk_far ?_ NB124_126.out _; (with_reducible repeat (first | refine blk_drewN ?_ _ | refine blk_drew ?_ | refine blk_alloc ?_ _)); refine blk_far ?_ NB124_126.out _; (with_reducible repeat (first | refine blk_drewN ?_ _ | refine blk_drew ?_ | refine blk_alloc ?_ _)); refine blk_far ?_ NB124_127.out _; (with_reducible repeat (first | refine blk_drewN ?_ _ | refine blk_drew ?_ | refine blk_alloc ?_ _)); refine blk_far ?_ NB124_127.out _; (with_reducible repeat (first | refine blk_drewN ?_ _ | refine blk_drew ?_ | refine blk_alloc ?_ _)); refine blk_far ?_ NB124_126.out _; (with_reducible repeat (first | refine blk_drewN ?_ _ | refine blk_drew ?_ | refine blk_alloc ?_ _)); refine blk_far ?_ NB124_126.out _; (with_reducible repeat (first | refine blk_drewN ?_ _ | refine blk_drew ?_ | refine blk_alloc ?_ _)); exact BK124.out⟩, ⟨by (with_reducible repeat (first | refine blk_drewN ?_ _ | refine blk_drew ?_ | refine blk_alloc ?_ _)); refine blk_far ?_ NB125_127.out _; (with_reducible repeat (first | refine blk_drewN ?_ _ | refine blk_drew ?_ | refine blk_alloc ?_ _)); refine blk_far ?_ NB125_127.out _; (with_reducible repeat (first | refine blk_drewN ?_ _ | refine blk_drew ?_ | refine blk_alloc ?_ _)); refine blk_far ?_ NB125_126.out _; (with_reducible repeat (first | refine blk_drewN ?_ _ | refine blk_drew ?_ | refine blk_alloc ?_ _)); refine blk_far ?_ NB125_126.out _; (with_reducible repeat (first | refine blk_drewN ?_ _ | refine blk_drew ?_ | refine blk_alloc ?_ _)); refine blk_far ?_ NB125_127.out _; (with_reducible repeat (first | refine blk_drewN ?_ _ | refine blk_drew ?_ | refine blk_alloc ?_ _)); refine blk_far ?_ NB125_127.out _; (with_reducible repeat (first | refine blk_drewN ?_ _ | refine blk_drew ?_ | refine blk_alloc ?_ _)); refine blk_far ?_ NB125_126.out _; (with_reducible repeat (first | refine blk_drewN ?_ _ | refine blk_drew ?_ | refine blk_alloc ?_ _)); refine blk_far ?_ NB125_126.out _; (with_reducible repeat (first | refine blk_drewN ?_ _ | refine blk_drew ?_ | refine blk_alloc ?_ _)); exact BK125.out⟩, ⟨by (with_reducible repeat (first | refine blk_drewN ?_ _ | refine blk_drew ?_ | refine blk_alloc ?_ _)); refine blk_far ?_ NB126_127.out _; (with_reducible repeat (first | refine blk_drewN ?_ _ | refine blk_drew ?_ | refine blk_alloc ?_ _)); refine blk_far ?_ NB126_127.out _; (with_reducible repeat (first | refine blk_drewN ?_ _ | refine blk_drew ?_ | refine blk_alloc ?_ _)); refine blk_put (cs := #[.int .u32 a1_2, .int .i64 a1_3]) ?_ 1 _ rfl; (with_reducible repeat (first | refine blk_drewN ?_ _ | refine blk_drew ?_ | refine blk_alloc ?_ _)); refine blk_put (cs := #[.int .u32 a1_1, .int .i64 a1_3]) ?_ 0 _ rfl; (with_reducible repeat (first | refine blk_drewN ?_ _ | refine blk_drew ?_ | refine blk_alloc ?_ _)); refine blk_far ?_ NB126_127.out _; (with_reducible repeat (first | refine blk_drewN ?_ _ | refine blk_drew ?_ | refine blk_alloc ?_ _)); refine blk_far ?_ NB126_127.out _; (with_reducible repeat (first | refine blk_drewN ?_ _ | refine blk_drew ?_ | refine blk_alloc ?_ _)); refine blk_put (cs := #[.int .u32 a1_1, .int .i64 0]) ?_ 1 _ rfl; (with_reducible repeat (first | refine blk_drewN ?_ _ | refine blk_drew ?_ | refine blk_alloc ?_ _)); refine blk_put (cs := #[.int .u32 0, .int .i64 0]) ?_ 0 _ rfl; (with_reducible repeat (first | refine blk_drewN ?_ _ | refine blk_drew ?_ | refine blk_alloc ?_ _)); exact BK126.out⟩, ⟨by (with_reducible repeat (first | refine blk_drewN ?_ _ | refine blk_drew ?_ | refine blk_alloc ?_ _)); refine blk_put (cs := #[.int .u32 a1_1, .int .i64 a1_4]) ?_ 1 _ rfl; (with_reducible repeat (first | refine blk_drewN ?_ _ | refine blk_drew ?_ | refine blk_alloc ?_ _)); refine blk_put (cs := #[.int .u32 a1_2, .int .i64 a1_4]) ?_ 0 _ rfl; (with_reducible repeat (first | refine blk_drewN ?_ _ | refine blk_drew ?_ | refine blk_alloc ?_ _)); refine blk_far ?_ NB127_126.out _; (with_reducible repeat (first | refine blk_drewN ?_ _ | refine blk_drew ?_ | refine blk_alloc ?_ _)); refine blk_far ?_ NB127_126.out _; (with_reducible repeat (first | refine blk_drewN ?_ _ | refine blk_drew ?_ | refine blk_alloc ?_ _)); refine blk_put (cs := #[.int .u32 a1_2, .int .i64 0]) ?_ 1 _ rfl; (with_reducible repeat (first | refine blk_drewN ?_ _ | refine blk_drew ?_ | refine blk_alloc ?_ _)); refine blk_put (cs := #[.int .u32 0, .int .i64 0]) ?_ 0 _ rfl; (with_reducible repeat (first | refine blk_drewN ?_ _ | refine blk_drew ?_ | refine blk_alloc ?_ _)); refine blk_far ?_ NB127_126.out _; (with_reducible repeat (first | refine blk_drewN ?_ _ | refine blk_drew ?_ | refine blk_alloc ?_ _)); refine blk_far ?_ NB127_126.out _; (with_reducible repeat (first | refine blk_drewN ?_ _ | refine blk_drew ?_ | refine blk_alloc ?_ _)); exact BK127.out⟩, ⟨by repeat (first | (with_reducible first | exact HB.out | apply below_alloc | apply pw_below_drewN | apply below_drew1 | refine below_set ?_ GE124.out | refine below_set ?_ GE125.out | refine below_set ?_ GE126.out | refine below_set ?_ GE127.out) | exact HB.out)⟩⟩
     ·
      rw [if_neg c25] at H
      have c25b0 : (a2 == 1) = false := beq_eq_false_iff_ne.mpr c25
      have c25b1 : (a2 != 1) = true := bne_iff_ne.mpr c25
      (first | rw [c25b0] | (simp only [i64_w, i32_w]; rw [c25b0]) | skip)
      have H' := Aside0.mk H
      clear H
      go_wp2
      go_meet
      case rel => exact ⟨_, (a1_1), (a1_3), (a1_2), (a1_4), H', ⟨by have := HJ3.out; first | omega | exact Nat.le_refl _⟩, ⟨by (with_reducible repeat (first | refine blk_drewN ?_ _ | refine blk_drew ?_ | refine blk_alloc ?_ _)); refine blk_far ?_ NB124_127.out _; (with_reducible repeat (first | refine blk_drewN ?_ _ | refine blk_drew ?_ | refine blk_alloc ?_ _)); refine blk_far ?_ NB124_127.out _; (with_reducible repeat (first | refine blk_drewN ?_ _ | refine blk_drew ?_ | refine blk_alloc ?_ _)); refine blk_far ?_ NB124_126.out _; (with_reducible repeat (first | refine blk_drewN ?_ _ | refine blk_drew ?_ | refine blk_alloc ?_ _)); refine blk_far ?_ NB124_126.out _; (with_reducible repeat (first | refine blk_drewN ?_ _ | refine blk_drew ?_ | refine blk_alloc ?_ _)); exact BK124.out⟩, ⟨by (with_reducible repeat (first | refine blk_drewN ?_ _ | refine blk_drew ?_ | refine blk_alloc ?_ _)); refine blk_far ?_ NB125_127.out _; (with_reducible repeat (first | refine blk_drewN ?_ _ | refine blk_drew ?_ | refine blk_alloc ?_ _)); refine blk_far ?_ NB125_127.out _; (with_reducible repeat (first | refine blk_drewN ?_ _ | refine blk_drew ?_ | refine blk_alloc ?_ _)); refine blk_far ?_ NB125_126.out _; (with_reducible repeat (first | refine blk_drewN ?_ _ | refine blk_drew ?_ | refine blk_alloc ?_ _)); refine blk_far ?_ NB125_126.out _; (with_reducible repeat (first | refine blk_drewN ?_ _ | refine blk_drew ?_ | refine blk_alloc ?_ _)); exact BK125.out⟩, ⟨by (with_reducible repeat (first | refine blk_drewN ?_ _ | refine blk_drew ?_ | refine blk_alloc ?_ _)); refine blk_far ?_ NB126_127.out _; (with_reducible repeat (first | refine blk_drewN ?_ _ | refine blk_drew ?_ | refine blk_alloc ?_ _)); refine blk_far ?_ NB126_127.out _; (with_reducible repeat (first | refine blk_drewN ?_ _ | refine blk_drew ?_ | refine blk_alloc ?_ _)); refine blk_put (cs := #[.int .u32 a1_1, .int .i64 0]) ?_ 1 _ rfl; (with_reducible repeat (first | refine blk_drewN ?_ _ | refine blk_drew ?_ | refine blk_alloc ?_ _)); refine blk_put (cs := #[.int .u32 0, .int .i64 0]) ?_ 0 _ rfl; (with_reducible repeat (first | refine blk_drewN ?_ _ | refine blk_drew ?_ | refine blk_alloc ?_ _)); exact BK126.out⟩, ⟨by (with_reducible repeat (first | refine blk_drewN ?_ _ | refine blk_drew ?_ | refine blk_alloc ?_ _)); refine blk_put (cs := #[.int .u32 a1_2, .int .i64 0]) ?_ 1 _ rfl; (with_reducible repeat (first | refine blk_drewN ?_ _ | refine blk_drew ?_ | refine blk_alloc ?_ _)); refine blk_put (cs := #[.int .u32 0, .int .i64 0]) ?_ 0 _ rfl; (with_reducible repeat (first | refine blk_drewN ?_ _ | refine blk_drew ?_ | refine blk_alloc ?_ _)); refine blk_far ?_ NB127_126.out _; (with_reducible repeat (first | refine blk_drewN ?_ _ | refine blk_drew ?_ | refine blk_alloc ?_ _)); refine blk_far ?_ NB127_126.out _; (with_reducible repeat (first | refine blk_drewN ?_ _ | refine blk_drew ?_ | refine blk_alloc ?_ _)); exact BK127.out⟩, ⟨by repeat (first | (with_reducible first | exact HB.out | apply below_alloc | apply pw_below_drewN | apply below_drew1 | refine below_set ?_ GE124.out | refine below_set ?_ GE125.out | refine below_set ?_ GE126.out | refine below_set ?_ GE127.out) | exact HB.out)⟩⟩
    case rest =>
     clear HC16
     try clear c1
     try clear c2
     try clear p2
     try clear c3
     try clear c7
     try clear c7b0
     try clear c8
     try clear c8b0
     try clear c9
     try clear c9b0
     try clear c9b1
     try clear c10
     try clear c12
     try clear c15
     try clear c25
     try clear c25b0
     try clear c25b1
     try clear c26
     try clear c27
     try clear c28
     try clear c30
     try clear c31
     try clear hcz11_0
     try clear hcz11_1
     try clear hcz11_10
     try clear hcz11_11
     try clear hcz11_12
     try clear hcz11_13
     try clear hcz11_14
     try clear hcz11_2
     try clear hcz11_3
     try clear hcz11_4
     try clear hcz11_5
     try clear hcz11_6
     try clear hcz11_7
     try clear hcz11_8
     try clear hcz11_9
     try clear hcz13_0
     try clear hcz13_1
     try clear hcz13_10
     try clear hcz13_11
     try clear hcz13_12
     try clear hcz13_13
     try clear hcz13_14
     try clear hcz13_2
     try clear hcz13_3
     try clear hcz13_4
     try clear hcz13_5
     try clear hcz13_6
     try clear hcz13_7
     try clear hcz13_8
     try clear hcz13_9
     try clear hcz14_0
     try clear hcz14_1
     try clear hcz14_2
     try clear hcz14_3
     try clear hcz14_4
     try clear hcz29_0
     try clear hcz29_1
     try clear hcz32_0
     try clear hcz32_1
     try clear hfz11_0
     try clear hfz11_1
     try clear hfz11_10
     try clear hfz11_11
     try clear hfz11_12
     try clear hfz11_13
     try clear hfz11_14
     try clear hfz11_2
     try clear hfz11_3
     try clear hfz11_4
     try clear hfz11_5
     try clear hfz11_6
     try clear hfz11_7
     try clear hfz11_8
     try clear hfz11_9
     try clear hfz13_0
     try clear hfz13_1
     try clear hfz13_10
     try clear hfz13_11
     try clear hfz13_12
     try clear hfz13_13
     try clear hfz13_14
     try clear hfz13_2
     try clear hfz13_3
     try clear hfz13_4
     try clear hfz13_5
     try clear hfz13_6
     try clear hfz13_7
     try clear hfz13_8
     try clear hfz13_9
     try clear hfz14_0
     try clear hfz14_1
     try clear hfz14_2
     try clear hfz14_3
     try clear hfz14_4
     try clear hfz29_0
     try clear hfz29_1
     try clear hfz32_0
     try clear hfz32_1
     try clear p2
     obtain ⟨kq, x127000_15, x127001_15, x128000_15, x128001_15, HA, HJ15, BK124, BK125, BK126, BK127, HB⟩ := hcut
     cases kq with
     | zero => exact absurd HA.out (by simp [group_Fits.j1])
     | succ kj15 =>
      have H := HA.out
      clear HA
      simp only [group_Fits.j1] at H
      have HC33 := Aside0.mk H
      clear H
      try go_wp2
      have n0_ := Aside0.mk (blk_drew BK124.out)
      have n1_ := Aside0.mk (blk_drew BK125.out)
      have n2_ := Aside0.mk (blk_drew BK126.out)
      have n3_ := Aside0.mk (blk_drew BK127.out)
      have n4_ := Aside0.mk (below_drew1 HB.out)
      clear BK124
      clear BK125
      clear BK126
      clear BK127
      clear HB
      have BK124 := n0_
      have BK125 := n1_
      have BK126 := n2_
      have BK127 := n3_
      have HB := n4_
      clear n0_ n1_ n2_ n3_ n4_
      refine start_ (n := 6) (S := fun w' => w'.cell? ⟨gb124, 0, none⟩ = some (.int .i64 a0_0) ∧ w'.cell? ⟨gb124, 1, none⟩ = some (.int .i64 a0_1) ∧ w'.cell? ⟨gb124, 2, none⟩ = some (.bool a0_2) ∧ w'.cell? ⟨gb124, 3, none⟩ = some (.slice A0_3 l0_3.length c0_3) ∧ w'.cell? ⟨gb124, 4, none⟩ = some (.bool a0_4) ∧ w'.cell? ⟨gb124, 5, none⟩ = some (.slice A0_5 l0_5.length c0_5) ∧ w'.cell? ⟨gb124, 6, none⟩ = some (.bool a0_6) ∧ w'.cell? ⟨gb124, 7, none⟩ = some (.slice A0_7 l0_7.length c0_7) ∧ w'.cell? ⟨gb124, 8, none⟩ = some (.bool a0_8) ∧ w'.cell? ⟨gb124, 9, none⟩ = some (.slice A0_9 l0_9.length c0_9) ∧ w'.cell? ⟨gb124, 10, none⟩ = some (.bool a0_10) ∧ w'.cell? ⟨gb124, 11, none⟩ = some (.int .i64 a0_11) ∧ w'.cell? ⟨gb124, 12, none⟩ = some (.slice A0_12 l0_12.length c0_12) ∧ w'.cell? ⟨gb124, 13, none⟩ = some (.int .i64 a0_13) ∧ w'.cell? ⟨gb124, 14, none⟩ = some (.int .i64 a0_14)) (ds := []) #[false, false, false, false, false, false] (by kernel_rfl) rfl rfl ⟨(blk_cell BK124.out 0).trans rfl, (blk_cell BK124.out 1).trans rfl, (blk_cell BK124.out 2).trans rfl, (blk_cell BK124.out 3).trans rfl, (blk_cell BK124.out 4).trans rfl, (blk_cell BK124.out 5).trans rfl, (blk_cell BK124.out 6).trans rfl, (blk_cell BK124.out 7).trans rfl, (blk_cell BK124.out 8).trans rfl, (blk_cell BK124.out 9).trans rfl, (blk_cell BK124.out 10).trans rfl, (blk_cell BK124.out 11).trans rfl, (blk_cell BK124.out 12).trans rfl, (blk_cell BK124.out 13).trans rfl, (blk_cell BK124.out 14).trans rfl⟩ (fun hHeld => ?_)
      generalize wc.drew = w34 at BK124 BK125 BK126 BK127 HB hHeld ⊢
      refine take_ (i := 0) (N := some 44) (v := ?_) (a' := ?_) #[true, false, false, false, false, false] rfl rfl (by kernel_rfl) (fun _ _ _ h => h) (Or.inl ⟨by rfl, ?_⟩) hHeld ?_ ?_
      rotate_left
      ·
       rintro w' ⟨s0, s1, s2, s3, s4, s5, s6, s7, s8, s9, s10, s11, s12, s13, s14⟩
       go_simp
       with_reducible rfl
      rotate_left
      ·
       simp only [Act.put, List.setIfInBounds_toArray, List.set_cons_zero, List.set_cons_succ, i64_w, i32_w]
       rfl
      refine pure_ (i := 1) (N := some 45) (v := ?_) (a' := ?_) #[true, true, false, false, false, false] rfl rfl (by kernel_rfl) (fun _ _ _ h => h) (Or.inl ⟨by rfl, ?_⟩) ?_ ?_
      rotate_left
      ·
       intro w'
       go_simp
       with_reducible rfl
      rotate_left
      ·
       simp only [Act.put, List.setIfInBounds_toArray, List.set_cons_zero, List.set_cons_succ, i64_w, i32_w]
       rfl
      refine pure_ (i := 4) (N := some 9) (v := ?_) (a' := ?_) #[true, true, false, false, true, false] rfl rfl (by kernel_rfl) (fun _ _ _ h => h) (Or.inl ⟨by rfl, ?_⟩) ?_ ?_
      rotate_left
      ·
       intro w'
       go_simp
       with_reducible rfl
      rotate_left
      ·
       simp only [Act.put, List.setIfInBounds_toArray, List.set_cons_zero, List.set_cons_succ, i64_w, i32_w]
       rfl
      refine take_ (i := 2) (N := some 46) (v := ?_) (a' := ?_) #[true, true, true, false, true, false] rfl rfl (by kernel_rfl) (fun _ _ _ h => h) (Or.inl ⟨by rfl, ?_⟩) hHeld ?_ ?_
      rotate_left
      ·
       rintro w' ⟨s0, s1, s2, s3, s4, s5, s6, s7, s8, s9, s10, s11, s12, s13, s14⟩
       go_simp
       with_reducible rfl
      rotate_left
      ·
       simp only [Act.put, List.setIfInBounds_toArray, List.set_cons_zero, List.set_cons_succ, i64_w, i32_w]
       rfl
      refine pure_ (i := 3) (N := some 47) (v := ?_) (a' := ?_) #[true, true, true, true, true, false] rfl rfl (by kernel_rfl) (fun _ _ _ h => h) (Or.inl ⟨by rfl, ?_⟩) ?_ ?_
      rotate_left
      ·
       intro w'
       go_simp
       with_reducible rfl
      rotate_left
      ·
       simp only [Act.put, List.setIfInBounds_toArray, List.set_cons_zero, List.set_cons_succ, i64_w, i32_w]
       rfl
      refine pure_ (i := 5) (N := some 10) (v := ?_) (a' := ?_) #[true, true, true, true, true, true] rfl rfl (by kernel_rfl) (fun _ _ _ h => h) (Or.inl ⟨by rfl, ?_⟩) ?_ ?_
      rotate_left
      ·
       intro w'
       go_simp
       with_reducible rfl
      rotate_left
      ·
       simp only [Act.put, List.setIfInBounds_toArray, List.set_cons_zero, List.set_cons_succ, i64_w, i32_w]
       rfl
      refine done_ (by kernel_rfl) ?_
      go_upto_region 7 with (fail)
      go_cut [11] (fun v11 wc => ∃ (kq : Nat) (x11_32 : Bool), v11 = .bool x11_32 ∧ Aside0 (group_Fits.j2 kq a2 x11_32 a0_0 a0_1 a0_2 l0_3 a0_4 l0_5 a0_6 l0_7 a0_8 l0_9 a0_10 a0_11 l0_12 a0_13 a0_14 = some r) ∧ Aside0 (kq ≤ kj15) ∧ Aside0 (wc.heap[gb124]? = some (.cells #[.int .i64 a0_0, .int .i64 a0_1, .bool a0_2, (.slice A0_3 l0_3.length c0_3), .bool a0_4, (.slice A0_5 l0_5.length c0_5), .bool a0_6, (.slice A0_7 l0_7.length c0_7), .bool a0_8, (.slice A0_9 l0_9.length c0_9), .bool a0_10, .int .i64 a0_11, (.slice A0_12 l0_12.length c0_12), .int .i64 a0_13, .int .i64 a0_14] 37 (0, 0))) ∧ Aside0 (wc.heap[gb125]? = some (.cells #[.int .i64 a1_0, .int .u32 a1_1, .int .u32 a1_2, .int .i64 a1_3, .int .i64 a1_4] 25 (0, 0))) ∧ Aside0 (wc.heap[gb126]? = some (.cells #[.int .u32 x127000_15, .int .i64 x127001_15] 56 (0, 0))) ∧ Aside0 (wc.heap[gb127]? = some (.cells #[.int .u32 x128000_15, .int .i64 x128001_15] 56 (0, 0))) ∧ Aside0 (Below w.heap.size w wc))
      case first =>
       have H := HC33.out
       clear HC33
       replace H := Option.bind_eq_some_iff.mp H
       obtain ⟨t128, A350, H⟩ := H
       replace H : (if t128 = true then ((group_ends_receiver.f kj15 a0_0 a0_1 a0_2 l0_3 a0_4 l0_5 a0_6 l0_7 a0_8 l0_9 a0_10 a0_11 l0_12 a0_13 a0_14 x128000_15 x128001_15).bind fun t129 => (if t129 = true then (group_Fits.j2 kj15 a2 true a0_0 a0_1 a0_2 l0_3 a0_4 l0_5 a0_6 l0_7 a0_8 l0_9 a0_10 a0_11 l0_12 a0_13 a0_14) else (if a0_10 = true then ((group_ends_sender.f kj15 a0_0 a0_1 a0_2 l0_3 a0_4 l0_5 a0_6 l0_7 a0_8 l0_9 a0_10 a0_11 l0_12 a0_13 a0_14 x128000_15 x128001_15).bind fun t130 => (if t130 = true then ((group_ends_receiver.f kj15 a0_0 a0_1 a0_2 l0_3 a0_4 l0_5 a0_6 l0_7 a0_8 l0_9 a0_10 a0_11 l0_12 a0_13 a0_14 x127000_15 x127001_15).bind fun t131 => (group_Fits.j2 kj15 a2 t131 a0_0 a0_1 a0_2 l0_3 a0_4 l0_5 a0_6 l0_7 a0_8 l0_9 a0_10 a0_11 l0_12 a0_13 a0_14)) else (group_Fits.j2 kj15 a2 false a0_0 a0_1 a0_2 l0_3 a0_4 l0_5 a0_6 l0_7 a0_8 l0_9 a0_10 a0_11 l0_12 a0_13 a0_14))) else (group_Fits.j2 kj15 a2 false a0_0 a0_1 a0_2 l0_3 a0_4 l0_5 a0_6 l0_7 a0_8 l0_9 a0_10 a0_11 l0_12 a0_13 a0_14)))) else (if a0_10 = true then ((group_ends_sender.f kj15 a0_0 a0_1 a0_2 l0_3 a0_4 l0_5 a0_6 l0_7 a0_8 l0_9 a0_10 a0_11 l0_12 a0_13 a0_14 x128000_15 x128001_15).bind fun t132 => (if t132 = true then ((group_ends_receiver.f kj15 a0_0 a0_1 a0_2 l0_3 a0_4 l0_5 a0_6 l0_7 a0_8 l0_9 a0_10 a0_11 l0_12 a0_13 a0_14 x127000_15 x127001_15).bind fun t133 => (group_Fits.j2 kj15 a2 t133 a0_0 a0_1 a0_2 l0_3 a0_4 l0_5 a0_6 l0_7 a0_8 l0_9 a0_10 a0_11 l0_12 a0_13 a0_14)) else (group_Fits.j2 kj15 a2 false a0_0 a0_1 a0_2 l0_3 a0_4 l0_5 a0_6 l0_7 a0_8 l0_9 a0_10 a0_11 l0_12 a0_13 a0_14))) else (group_Fits.j2 kj15 a2 false a0_0 a0_1 a0_2 l0_3 a0_4 l0_5 a0_6 l0_7 a0_8 l0_9 a0_10 a0_11 l0_12 a0_13 a0_14))) = some r := H
       have A35 := Aside0.mk A350
       clear A350
       by_cases c36 : t128 = true
       ·
        subst c36
        have H1 : ((group_ends_receiver.f kj15 a0_0 a0_1 a0_2 l0_3 a0_4 l0_5 a0_6 l0_7 a0_8 l0_9 a0_10 a0_11 l0_12 a0_13 a0_14 x128000_15 x128001_15).bind fun t129 => (if t129 = true then (group_Fits.j2 kj15 a2 true a0_0 a0_1 a0_2 l0_3 a0_4 l0_5 a0_6 l0_7 a0_8 l0_9 a0_10 a0_11 l0_12 a0_13 a0_14) else (if a0_10 = true then ((group_ends_sender.f kj15 a0_0 a0_1 a0_2 l0_3 a0_4 l0_5 a0_6 l0_7 a0_8 l0_9 a0_10 a0_11 l0_12 a0_13 a0_14 x128000_15 x128001_15).bind fun t130 => (if t130 = true then ((group_ends_receiver.f kj15 a0_0 a0_1 a0_2 l0_3 a0_4 l0_5 a0_6 l0_7 a0_8 l0_9 a0_10 a0_11 l0_12 a0_13 a0_14 x127000_15 x127001_15).bind fun t131 => (group_Fits.j2 kj15 a2 t131 a0_0 a0_1 a0_2 l0_3 a0_4 l0_5 a0_6 l0_7 a0_8 l0_9 a0_10 a0_11 l0_12 a0_13 a0_14)) else (group_Fits.j2 kj15 a2 false a0_0 a0_1 a0_2 l0_3 a0_4 l0_5 a0_6 l0_7 a0_8 l0_9 a0_10 a0_11 l0_12 a0_13 a0_14))) else (group_Fits.j2 kj15 a2 false a0_0 a0_1 a0_2 l0_3 a0_4 l0_5 a0_6 l0_7 a0_8 l0_9 a0_10 a0_11 l0_12 a0_13 a0_14)))) = some r := by rw [if_pos rfl] at H; exact H
        clear H
        have H := H1
        clear H1
        replace H := Option.bind_eq_some_iff.mp H
        obtain ⟨t129, A370, H⟩ := H
        replace H : (if t129 = true then (group_Fits.j2 kj15 a2 true a0_0 a0_1 a0_2 l0_3 a0_4 l0_5 a0_6 l0_7 a0_8 l0_9 a0_10 a0_11 l0_12 a0_13 a0_14) else (if a0_10 = true then ((group_ends_sender.f kj15 a0_0 a0_1 a0_2 l0_3 a0_4 l0_5 a0_6 l0_7 a0_8 l0_9 a0_10 a0_11 l0_12 a0_13 a0_14 x128000_15 x128001_15).bind fun t130 => (if t130 = true then ((group_ends_receiver.f kj15 a0_0 a0_1 a0_2 l0_3 a0_4 l0_5 a0_6 l0_7 a0_8 l0_9 a0_10 a0_11 l0_12 a0_13 a0_14 x127000_15 x127001_15).bind fun t131 => (group_Fits.j2 kj15 a2 t131 a0_0 a0_1 a0_2 l0_3 a0_4 l0_5 a0_6 l0_7 a0_8 l0_9 a0_10 a0_11 l0_12 a0_13 a0_14)) else (group_Fits.j2 kj15 a2 false a0_0 a0_1 a0_2 l0_3 a0_4 l0_5 a0_6 l0_7 a0_8 l0_9 a0_10 a0_11 l0_12 a0_13 a0_14))) else (group_Fits.j2 kj15 a2 false a0_0 a0_1 a0_2 l0_3 a0_4 l0_5 a0_6 l0_7 a0_8 l0_9 a0_10 a0_11 l0_12 a0_13 a0_14))) = some r := H
        have A37 := Aside0.mk A370
        clear A370
        by_cases c38 : t129 = true
        ·
         subst c38
         have H1 : (group_Fits.j2 kj15 a2 true a0_0 a0_1 a0_2 l0_3 a0_4 l0_5 a0_6 l0_7 a0_8 l0_9 a0_10 a0_11 l0_12 a0_13 a0_14) = some r := by rw [if_pos rfl] at H; exact H
         clear H
         have H := H1
         clear H1
         have H' := Aside0.mk H
         clear H
         have hnb39 := NB126_124.out
         have hnc39 := NB124_126.out
         have hnb40 := NB126_125.out
         have hnc40 := NB125_126.out
         have hnb41 := NB126_127.out
         have hnc41 := NB127_126.out
         have hcz42_0 : w34.cell? ⟨gb126, 0, none⟩ = some (.int .u32 x127000_15) := (blk_cell BK126.out 0).trans rfl
         have hcz42_1 : w34.cell? ⟨gb126, 1, none⟩ = some (.int .i64 x127001_15) := (blk_cell BK126.out 1).trans rfl
         have hfz42_0 := blk_frozen BK126.out 0
         have hfz42_1 := blk_frozen BK126.out 1
         go_wp2_with (first | (go_at_call 17; (with_reducible refine (group_ends_sender.calls kj15 a0_0 a0_1 a0_2 _ _ l0_3 a0_4 _ _ l0_5 a0_6 _ _ l0_7 a0_8 _ _ l0_9 a0_10 a0_11 _ _ l0_12 a0_13 a0_14 x127000_15 x127001_15 true _ ?side1 ?side2 ?side3 ?side4 ?side5 ?side6 ?side7 ?side8 ?side9 ?side10 A35.out).mono ?_); (case side1 => repeat (first | exact (Kd.C_below HR0_3.out HB.out) | (with_reducible refine Kd.C_alloc ?_ _) | (with_reducible refine Kd.C_drewN ?_ _) | (with_reducible refine Kd.C_drew ?_))); (case side2 => exact HC0_3.out); (case side3 => repeat (first | exact (Kd.C_below HR0_5.out HB.out) | (with_reducible refine Kd.C_alloc ?_ _) | (with_reducible refine Kd.C_drewN ?_ _) | (with_reducible refine Kd.C_drew ?_))); (case side4 => exact HC0_5.out); (case side5 => repeat (first | exact (Kd.C_below HR0_7.out HB.out) | (with_reducible refine Kd.C_alloc ?_ _) | (with_reducible refine Kd.C_drewN ?_ _) | (with_reducible refine Kd.C_drew ?_))); (case side6 => exact HC0_7.out); (case side7 => repeat (first | exact (Kd.C_below HR0_9.out HB.out) | (with_reducible refine Kd.C_alloc ?_ _) | (with_reducible refine Kd.C_drewN ?_ _) | (with_reducible refine Kd.C_drew ?_))); (case side8 => exact HC0_9.out); (case side9 => repeat (first | exact (Kd.C_below HR0_12.out HB.out) | (with_reducible refine Kd.C_alloc ?_ _) | (with_reducible refine Kd.C_drewN ?_ _) | (with_reducible refine Kd.C_drew ?_))); (case side10 => exact HC0_12.out); rintro e w43 ⟨rfl, hb⟩; skip; have n0_ := Aside0.mk (blk_below (g := gb124) (o := .cells #[.int .i64 a0_0, .int .i64 a0_1, .bool a0_2, .slice A0_3 l0_3.length c0_3, .bool a0_4, .slice A0_5 l0_5.length c0_5, .bool a0_6, .slice A0_7 l0_7.length c0_7, .bool a0_8, .slice A0_9 l0_9.length c0_9, .bool a0_10, .int .i64 a0_11, .slice A0_12 l0_12.length c0_12, .int .i64 a0_13, .int .i64 a0_14] 37 (0, 0)) (by (with_reducible repeat (first | refine blk_drewN ?_ _ | refine blk_drew ?_ | refine blk_alloc ?_ _)); exact BK124.out) hb); have n1_ := Aside0.mk (blk_below (g := gb125) (o := .cells #[.int .i64 a1_0, .int .u32 a1_1, .int .u32 a1_2, .int .i64 a1_3, .int .i64 a1_4] 25 (0, 0)) (by (with_reducible repeat (first | refine blk_drewN ?_ _ | refine blk_drew ?_ | refine blk_alloc ?_ _)); exact BK125.out) hb); have n2_ := Aside0.mk (blk_below (g := gb126) (o := .cells #[.int .u32 x127000_15, .int .i64 x127001_15] 56 (0, 0)) (by (with_reducible repeat (first | refine blk_drewN ?_ _ | refine blk_drew ?_ | refine blk_alloc ?_ _)); exact BK126.out) hb); have n3_ := Aside0.mk (blk_below (g := gb127) (o := .cells #[.int .u32 x128000_15, .int .i64 x128001_15] 56 (0, 0)) (by (with_reducible repeat (first | refine blk_drewN ?_ _ | refine blk_drew ?_ | refine blk_alloc ?_ _)); exact BK127.out) hb); have n4_ := Aside0.mk (below_step (by repeat (first | (with_reducible first | exact HB.out | apply below_alloc | apply pw_below_drewN | apply below_drew1 | refine below_set ?_ GE124.out | refine below_set ?_ GE125.out | refine below_set ?_ GE126.out | refine below_set ?_ GE127.out) | exact HB.out)) hb); clear BK124; clear BK125; clear BK126; clear BK127; clear HB; have BK124 := n0_; have BK125 := n1_; have BK126 := n2_; have BK127 := n3_; have HB := n4_; clear n0_ n1_ n2_ n3_ n4_; (try clear hb); (try clear hb2); (try clear hk); (try clear hi); have hnb44 := NB127_124.out; have hnc44 := NB124_127.out; have hnb45 := NB127_125.out; have hnc45 := NB125_127.out; have hcz46_0 : w43.cell? ⟨gb127, 0, none⟩ = some (.int .u32 x128000_15) := (blk_cell BK127.out 0).trans rfl; have hcz46_1 : w43.cell? ⟨gb127, 1, none⟩ = some (.int .i64 x128001_15) := (blk_cell BK127.out 1).trans rfl; have hfz46_0 := blk_frozen BK127.out 0; have hfz46_1 := blk_frozen BK127.out 1) | (go_at_call 18; (with_reducible refine (group_ends_receiver.calls kj15 a0_0 a0_1 a0_2 _ _ l0_3 a0_4 _ _ l0_5 a0_6 _ _ l0_7 a0_8 _ _ l0_9 a0_10 a0_11 _ _ l0_12 a0_13 a0_14 x128000_15 x128001_15 true _ ?side1 ?side2 ?side3 ?side4 ?side5 ?side6 ?side7 ?side8 ?side9 ?side10 A37.out).mono ?_); (case side1 => repeat (first | exact (Kd.C_below HR0_3.out HB.out) | (with_reducible refine Kd.C_alloc ?_ _) | (with_reducible refine Kd.C_drewN ?_ _) | (with_reducible refine Kd.C_drew ?_))); (case side2 => exact HC0_3.out); (case side3 => repeat (first | exact (Kd.C_below HR0_5.out HB.out) | (with_reducible refine Kd.C_alloc ?_ _) | (with_reducible refine Kd.C_drewN ?_ _) | (with_reducible refine Kd.C_drew ?_))); (case side4 => exact HC0_5.out); (case side5 => repeat (first | exact (Kd.C_below HR0_7.out HB.out) | (with_reducible refine Kd.C_alloc ?_ _) | (with_reducible refine Kd.C_drewN ?_ _) | (with_reducible refine Kd.C_drew ?_))); (case side6 => exact HC0_7.out); (case side7 => repeat (first | exact (Kd.C_below HR0_9.out HB.out) | (with_reducible refine Kd.C_alloc ?_ _) | (with_reducible refine Kd.C_drewN ?_ _) | (with_reducible refine Kd.C_drew ?_))); (case side8 => exact HC0_9.out); (case side9 => repeat (first | exact (Kd.C_below HR0_12.out HB.out) | (with_reducible refine Kd.C_alloc ?_ _) | (with_reducible refine Kd.C_drewN ?_ _) | (with_reducible refine Kd.C_drew ?_))); (case side10 => exact HC0_12.out); rintro e w47 ⟨rfl, hb⟩; have n0_ := Aside0.mk (blk_below (g := gb124) (o := .cells #[.int .i64 a0_0, .int .i64 a0_1, .bool a0_2, .slice A0_3 l0_3.length c0_3, .bool a0_4, .slice A0_5 l0_5.length c0_5, .bool a0_6, .slice A0_7 l0_7.length c0_7, .bool a0_8, .slice A0_9 l0_9.length c0_9, .bool a0_10, .int .i64 a0_11, .slice A0_12 l0_12.length c0_12, .int .i64 a0_13, .int .i64 a0_14] 37 (0, 0)) (by (with_reducible repeat (first | refine blk_drewN ?_ _ | refine blk_drew ?_ | refine blk_alloc ?_ _)); exact BK124.out) hb); have n1_ := Aside0.mk (blk_below (g := gb125) (o := .cells #[.int .i64 a1_0, .int .u32 a1_1, .int .u32 a1_2, .int .i64 a1_3, .int .i64 a1_4] 25 (0, 0)) (by (with_reducible repeat (first | refine blk_drewN ?_ _ | refine blk_drew ?_ | refine blk_alloc ?_ _)); exact BK125.out) hb); have n2_ := Aside0.mk (blk_below (g := gb126) (o := .cells #[.int .u32 x127000_15, .int .i64 x127001_15] 56 (0, 0)) (by (with_reducible repeat (first | refine blk_drewN ?_ _ | refine blk_drew ?_ | refine blk_alloc ?_ _)); exact BK126.out) hb); have n3_ := Aside0.mk (blk_below (g := gb127) (o := .cells #[.int .u32 x128000_15, .int .i64 x128001_15] 56 (0, 0)) (by (with_reducible repeat (first | refine blk_drewN ?_ _ | refine blk_drew ?_ | refine blk_alloc ?_ _)); exact BK127.out) hb); have n4_ := Aside0.mk (below_step (by repeat (first | (with_reducible first | exact HB.out | apply below_alloc | apply pw_below_drewN | apply below_drew1 | refine below_set ?_ GE124.out | refine below_set ?_ GE125.out | refine below_set ?_ GE126.out | refine below_set ?_ GE127.out) | exact HB.out)) hb); clear BK124; clear BK125; clear BK126; clear BK127; clear HB; have BK124 := n0_; have BK125 := n1_; have BK126 := n2_; have BK127 := n3_; have HB := n4_; clear n0_ n1_ n2_ n3_ n4_; (try clear hb); (try clear hb2); (try clear hk); (try clear hi)))
         go_meet
         case rel => exact ⟨_, (true), (by first | rfl | (simp; done) | (simp [*]; done)), H', ⟨by have := HJ3.out; have := HJ15.out; first | omega | exact Nat.le_refl _⟩, ⟨by (with_reducible repeat (first | refine blk_drewN ?_ _ | refine blk_drew ?_ | refine blk_alloc ?_ _)); exact BK124.out⟩, ⟨by (with_reducible repeat (first | refine blk_drewN ?_ _ | refine blk_drew ?_ | refine blk_alloc ?_ _)); exact BK125.out⟩, ⟨by (with_reducible repeat (first | refine blk_drewN ?_ _ | refine blk_drew ?_ | refine blk_alloc ?_ _)); exact BK126.out⟩, ⟨by (with_reducible repeat (first | refine blk_drewN ?_ _ | refine blk_drew ?_ | refine blk_alloc ?_ _)); exact BK127.out⟩, ⟨by repeat (first | (with_reducible first | exact HB.out | apply below_alloc | apply pw_below_drewN | apply below_drew1 | refine below_set ?_ GE124.out | refine below_set ?_ GE125.out | refine below_set ?_ GE126.out | refine below_set ?_ GE127.out) | exact HB.out)⟩⟩
        ·
         replace c38 := Bool.eq_false_iff.mpr c38
         subst c38
         have H1 : (if a0_10 = true then ((group_ends_sender.f kj15 a0_0 a0_1 a0_2 l0_3 a0_4 l0_5 a0_6 l0_7 a0_8 l0_9 a0_10 a0_11 l0_12 a0_13 a0_14 x128000_15 x128001_15).bind fun t130 => (if t130 = true then ((group_ends_receiver.f kj15 a0_0 a0_1 a0_2 l0_3 a0_4 l0_5 a0_6 l0_7 a0_8 l0_9 a0_10 a0_11 l0_12 a0_13 a0_14 x127000_15 x127001_15).bind fun t131 => (group_Fits.j2 kj15 a2 t131 a0_0 a0_1 a0_2 l0_3 a0_4 l0_5 a0_6 l0_7 a0_8 l0_9 a0_10 a0_11 l0_12 a0_13 a0_14)) else (group_Fits.j2 kj15 a2 false a0_0 a0_1 a0_2 l0_3 a0_4 l0_5 a0_6 l0_7 a0_8 l0_9 a0_10 a0_11 l0_12 a0_13 a0_14))) else (group_Fits.j2 kj15 a2 false a0_0 a0_1 a0_2 l0_3 a0_4 l0_5 a0_6 l0_7 a0_8 l0_9 a0_10 a0_11 l0_12 a0_13 a0_14)) = some r := by rw [if_neg (show ¬ (false = true) by decide)] at H; exact H
         clear H
         have H := H1
         clear H1
         by_cases c48 : a0_10 = true
         ·
          subst c48
          have H1 : ((group_ends_sender.f kj15 a0_0 a0_1 a0_2 l0_3 a0_4 l0_5 a0_6 l0_7 a0_8 l0_9 true a0_11 l0_12 a0_13 a0_14 x128000_15 x128001_15).bind fun t130 => (if t130 = true then ((group_ends_receiver.f kj15 a0_0 a0_1 a0_2 l0_3 a0_4 l0_5 a0_6 l0_7 a0_8 l0_9 true a0_11 l0_12 a0_13 a0_14 x127000_15 x127001_15).bind fun t131 => (group_Fits.j2 kj15 a2 t131 a0_0 a0_1 a0_2 l0_3 a0_4 l0_5 a0_6 l0_7 a0_8 l0_9 true a0_11 l0_12 a0_13 a0_14)) else (group_Fits.j2 kj15 a2 false a0_0 a0_1 a0_2 l0_3 a0_4 l0_5 a0_6 l0_7 a0_8 l0_9 true a0_11 l0_12 a0_13 a0_14))) = some r := by rw [if_pos rfl] at H; exact H
          clear H
          have H := H1
          clear H1
          replace H := Option.bind_eq_some_iff.mp H
          obtain ⟨t130, A490, H⟩ := H
          replace H : (if t130 = true then ((group_ends_receiver.f kj15 a0_0 a0_1 a0_2 l0_3 a0_4 l0_5 a0_6 l0_7 a0_8 l0_9 true a0_11 l0_12 a0_13 a0_14 x127000_15 x127001_15).bind fun t131 => (group_Fits.j2 kj15 a2 t131 a0_0 a0_1 a0_2 l0_3 a0_4 l0_5 a0_6 l0_7 a0_8 l0_9 true a0_11 l0_12 a0_13 a0_14)) else (group_Fits.j2 kj15 a2 false a0_0 a0_1 a0_2 l0_3 a0_4 l0_5 a0_6 l0_7 a0_8 l0_9 true a0_11 l0_12 a0_13 a0_14)) = some r := H
          have A49 := Aside0.mk A490
          clear A490
          by_cases c50 : t130 = true
          ·
           subst c50
           have H1 : ((group_ends_receiver.f kj15 a0_0 a0_1 a0_2 l0_3 a0_4 l0_5 a0_6 l0_7 a0_8 l0_9 true a0_11 l0_12 a0_13 a0_14 x127000_15 x127001_15).bind fun t131 => (group_Fits.j2 kj15 a2 t131 a0_0 a0_1 a0_2 l0_3 a0_4 l0_5 a0_6 l0_7 a0_8 l0_9 true a0_11 l0_12 a0_13 a0_14)) = some r := by rw [if_pos rfl] at H; exact H
           clear H
           have H := H1
           clear H1
           replace H := Option.bind_eq_some_iff.mp H
           obtain ⟨t131, A510, H⟩ := H
           replace H : (group_Fits.j2 kj15 a2 t131 a0_0 a0_1 a0_2 l0_3 a0_4 l0_5 a0_6 l0_7 a0_8 l0_9 true a0_11 l0_12 a0_13 a0_14) = some r := H
           have A51 := Aside0.mk A510
           clear A510
           have H' := Aside0.mk H
           clear H
           have hnb52 := NB126_124.out
           have hnc52 := NB124_126.out
           have hnb53 := NB126_125.out
           have hnc53 := NB125_126.out
           have hnb54 := NB126_127.out
           have hnc54 := NB127_126.out
           have hcz55_0 : w34.cell? ⟨gb126, 0, none⟩ = some (.int .u32 x127000_15) := (blk_cell BK126.out 0).trans rfl
           have hcz55_1 : w34.cell? ⟨gb126, 1, none⟩ = some (.int .i64 x127001_15) := (blk_cell BK126.out 1).trans rfl
           have hfz55_0 := blk_frozen BK126.out 0
           have hfz55_1 := blk_frozen BK126.out 1
           go_wp2_with (first | (go_at_call 17; (with_reducible refine (group_ends_sender.calls kj15 a0_0 a0_1 a0_2 _ _ l0_3 a0_4 _ _ l0_5 a0_6 _ _ l0_7 a0_8 _ _ l0_9 true a0_11 _ _ l0_12 a0_13 a0_14 x127000_15 x127001_15 true _ ?side1 ?side2 ?side3 ?side4 ?side5 ?side6 ?side7 ?side8 ?side9 ?side10 A35.out).mono ?_); (case side1 => repeat (first | exact (Kd.C_below HR0_3.out HB.out) | (with_reducible refine Kd.C_alloc ?_ _) | (with_reducible refine Kd.C_drewN ?_ _) | (with_reducible refine Kd.C_drew ?_))); (case side2 => exact HC0_3.out); (case side3 => repeat (first | exact (Kd.C_below HR0_5.out HB.out) | (with_reducible refine Kd.C_alloc ?_ _) | (with_reducible refine Kd.C_drewN ?_ _) | (with_reducible refine Kd.C_drew ?_))); (case side4 => exact HC0_5.out); (case side5 => repeat (first | exact (Kd.C_below HR0_7.out HB.out) | (with_reducible refine Kd.C_alloc ?_ _) | (with_reducible refine Kd.C_drewN ?_ _) | (with_reducible refine Kd.C_drew ?_))); (case side6 => exact HC0_7.out); (case side7 => repeat (first | exact (Kd.C_below HR0_9.out HB.out) | (with_reducible refine Kd.C_alloc ?_ _) | (with_reducible refine Kd.C_drewN ?_ _) | (with_reducible refine Kd.C_drew ?_))); (case side8 => exact HC0_9.out); (case side9 => repeat (first | exact (Kd.C_below HR0_12.out HB.out) | (with_reducible refine Kd.C_alloc ?_ _) | (with_reducible refine Kd.C_drewN ?_ _) | (with_reducible refine Kd.C_drew ?_))); (case side10 => exact HC0_12.out); rintro e w56 ⟨rfl, hb⟩; skip; have n0_ := Aside0.mk (blk_below (g := gb124) (o := .cells #[.int .i64 a0_0, .int .i64 a0_1, .bool a0_2, .slice A0_3 l0_3.length c0_3, .bool a0_4, .slice A0_5 l0_5.length c0_5, .bool a0_6, .slice A0_7 l0_7.length c0_7, .bool a0_8, .slice A0_9 l0_9.length c0_9, .bool true, .int .i64 a0_11, .slice A0_12 l0_12.length c0_12, .int .i64 a0_13, .int .i64 a0_14] 37 (0, 0)) (by (with_reducible repeat (first | refine blk_drewN ?_ _ | refine blk_drew ?_ | refine blk_alloc ?_ _)); exact BK124.out) hb); have n1_ := Aside0.mk (blk_below (g := gb125) (o := .cells #[.int .i64 a1_0, .int .u32 a1_1, .int .u32 a1_2, .int .i64 a1_3, .int .i64 a1_4] 25 (0, 0)) (by (with_reducible repeat (first | refine blk_drewN ?_ _ | refine blk_drew ?_ | refine blk_alloc ?_ _)); exact BK125.out) hb); have n2_ := Aside0.mk (blk_below (g := gb126) (o := .cells #[.int .u32 x127000_15, .int .i64 x127001_15] 56 (0, 0)) (by (with_reducible repeat (first | refine blk_drewN ?_ _ | refine blk_drew ?_ | refine blk_alloc ?_ _)); exact BK126.out) hb); have n3_ := Aside0.mk (blk_below (g := gb127) (o := .cells #[.int .u32 x128000_15, .int .i64 x128001_15] 56 (0, 0)) (by (with_reducible repeat (first | refine blk_drewN ?_ _ | refine blk_drew ?_ | refine blk_alloc ?_ _)); exact BK127.out) hb); have n4_ := Aside0.mk (below_step (by repeat (first | (with_reducible first | exact HB.out | apply below_alloc | apply pw_below_drewN | apply below_drew1 | refine below_set ?_ GE124.out | refine below_set ?_ GE125.out | refine below_set ?_ GE126.out | refine below_set ?_ GE127.out) | exact HB.out)) hb); clear BK124; clear BK125; clear BK126; clear BK127; clear HB; have BK124 := n0_; have BK125 := n1_; have BK126 := n2_; have BK127 := n3_; have HB := n4_; clear n0_ n1_ n2_ n3_ n4_; (try clear hb); (try clear hb2); (try clear hk); (try clear hi); have hnb57 := NB127_124.out; have hnc57 := NB124_127.out; have hnb58 := NB127_125.out; have hnc58 := NB125_127.out; have hcz59_0 : w56.cell? ⟨gb127, 0, none⟩ = some (.int .u32 x128000_15) := (blk_cell BK127.out 0).trans rfl; have hcz59_1 : w56.cell? ⟨gb127, 1, none⟩ = some (.int .i64 x128001_15) := (blk_cell BK127.out 1).trans rfl; have hfz59_0 := blk_frozen BK127.out 0; have hfz59_1 := blk_frozen BK127.out 1) | (go_at_call 18; (with_reducible refine (group_ends_receiver.calls kj15 a0_0 a0_1 a0_2 _ _ l0_3 a0_4 _ _ l0_5 a0_6 _ _ l0_7 a0_8 _ _ l0_9 true a0_11 _ _ l0_12 a0_13 a0_14 x128000_15 x128001_15 false _ ?side1 ?side2 ?side3 ?side4 ?side5 ?side6 ?side7 ?side8 ?side9 ?side10 A37.out).mono ?_); (case side1 => repeat (first | exact (Kd.C_below HR0_3.out HB.out) | (with_reducible refine Kd.C_alloc ?_ _) | (with_reducible refine Kd.C_drewN ?_ _) | (with_reducible refine Kd.C_drew ?_))); (case side2 => exact HC0_3.out); (case side3 => repeat (first | exact (Kd.C_below HR0_5.out HB.out) | (with_reducible refine Kd.C_alloc ?_ _) | (with_reducible refine Kd.C_drewN ?_ _) | (with_reducible refine Kd.C_drew ?_))); (case side4 => exact HC0_5.out); (case side5 => repeat (first | exact (Kd.C_below HR0_7.out HB.out) | (with_reducible refine Kd.C_alloc ?_ _) | (with_reducible refine Kd.C_drewN ?_ _) | (with_reducible refine Kd.C_drew ?_))); (case side6 => exact HC0_7.out); (case side7 => repeat (first | exact (Kd.C_below HR0_9.out HB.out) | (with_reducible refine Kd.C_alloc ?_ _) | (with_reducible refine Kd.C_drewN ?_ _) | (with_reducible refine Kd.C_drew ?_))); (case side8 => exact HC0_9.out); (case side9 => repeat (first | exact (Kd.C_below HR0_12.out HB.out) | (with_reducible refine Kd.C_alloc ?_ _) | (with_reducible refine Kd.C_drewN ?_ _) | (with_reducible refine Kd.C_drew ?_))); (case side10 => exact HC0_12.out); rintro e w60 ⟨rfl, hb⟩; have n0_ := Aside0.mk (blk_below (g := gb124) (o := .cells #[.int .i64 a0_0, .int .i64 a0_1, .bool a0_2, .slice A0_3 l0_3.length c0_3, .bool a0_4, .slice A0_5 l0_5.length c0_5, .bool a0_6, .slice A0_7 l0_7.length c0_7, .bool a0_8, .slice A0_9 l0_9.length c0_9, .bool true, .int .i64 a0_11, .slice A0_12 l0_12.length c0_12, .int .i64 a0_13, .int .i64 a0_14] 37 (0, 0)) (by (with_reducible repeat (first | refine blk_drewN ?_ _ | refine blk_drew ?_ | refine blk_alloc ?_ _)); exact BK124.out) hb); have n1_ := Aside0.mk (blk_below (g := gb125) (o := .cells #[.int .i64 a1_0, .int .u32 a1_1, .int .u32 a1_2, .int .i64 a1_3, .int .i64 a1_4] 25 (0, 0)) (by (with_reducible repeat (first | refine blk_drewN ?_ _ | refine blk_drew ?_ | refine blk_alloc ?_ _)); exact BK125.out) hb); have n2_ := Aside0.mk (blk_below (g := gb126) (o := .cells #[.int .u32 x127000_15, .int .i64 x127001_15] 56 (0, 0)) (by (with_reducible repeat (first | refine blk_drewN ?_ _ | refine blk_drew ?_ | refine blk_alloc ?_ _)); exact BK126.out) hb); have n3_ := Aside0.mk (blk_below (g := gb127) (o := .cells #[.int .u32 x128000_15, .int .i64 x128001_15] 56 (0, 0)) (by (with_reducible repeat (first | refine blk_drewN ?_ _ | refine blk_drew ?_ | refine blk_alloc ?_ _)); exact BK127.out) hb); have n4_ := Aside0.mk (below_step (by repeat (first | (with_reducible first | exact HB.out | apply below_alloc | apply pw_below_drewN | apply below_drew1 | refine below_set ?_ GE124.out | refine below_set ?_ GE125.out | refine below_set ?_ GE126.out | refine below_set ?_ GE127.out) | exact HB.out)) hb); clear BK124; clear BK125; clear BK126; clear BK127; clear HB; have BK124 := n0_; have BK125 := n1_; have BK126 := n2_; have BK127 := n3_; have HB := n4_; clear n0_ n1_ n2_ n3_ n4_; (try clear hb); (try clear hb2); (try clear hk); (try clear hi); have hnb61 := NB124_125.out; have hnc61 := NB125_124.out; have hcz62_0 : w60.cell? ⟨gb124, 0, none⟩ = some (.int .i64 a0_0) := (blk_cell BK124.out 0).trans rfl; have hcz62_1 : w60.cell? ⟨gb124, 1, none⟩ = some (.int .i64 a0_1) := (blk_cell BK124.out 1).trans rfl; have hcz62_2 : w60.cell? ⟨gb124, 2, none⟩ = some (.bool a0_2) := (blk_cell BK124.out 2).trans rfl; have hcz62_3 : w60.cell? ⟨gb124, 3, none⟩ = some (.slice A0_3 l0_3.length c0_3) := (blk_cell BK124.out 3).trans rfl; have hcz62_4 : w60.cell? ⟨gb124, 4, none⟩ = some (.bool a0_4) := (blk_cell BK124.out 4).trans rfl; have hcz62_5 : w60.cell? ⟨gb124, 5, none⟩ = some (.slice A0_5 l0_5.length c0_5) := (blk_cell BK124.out 5).trans rfl; have hcz62_6 : w60.cell? ⟨gb124, 6, none⟩ = some (.bool a0_6) := (blk_cell BK124.out 6).trans rfl; have hcz62_7 : w60.cell? ⟨gb124, 7, none⟩ = some (.slice A0_7 l0_7.length c0_7) := (blk_cell BK124.out 7).trans rfl; have hcz62_8 : w60.cell? ⟨gb124, 8, none⟩ = some (.bool a0_8) := (blk_cell BK124.out 8).trans rfl; have hcz62_9 : w60.cell? ⟨gb124, 9, none⟩ = some (.slice A0_9 l0_9.length c0_9) := (blk_cell BK124.out 9).trans rfl; have hcz62_10 : w60.cell? ⟨gb124, 10, none⟩ = some (.bool true) := (blk_cell BK124.out 10).trans rfl; have hcz62_11 : w60.cell? ⟨gb124, 11, none⟩ = some (.int .i64 a0_11) := (blk_cell BK124.out 11).trans rfl; have hcz62_12 : w60.cell? ⟨gb124, 12, none⟩ = some (.slice A0_12 l0_12.length c0_12) := (blk_cell BK124.out 12).trans rfl; have hcz62_13 : w60.cell? ⟨gb124, 13, none⟩ = some (.int .i64 a0_13) := (blk_cell BK124.out 13).trans rfl; have hcz62_14 : w60.cell? ⟨gb124, 14, none⟩ = some (.int .i64 a0_14) := (blk_cell BK124.out 14).trans rfl; have hfz62_0 := blk_frozen BK124.out 0; have hfz62_1 := blk_frozen BK124.out 1; have hfz62_2 := blk_frozen BK124.out 2; have hfz62_3 := blk_frozen BK124.out 3; have hfz62_4 := blk_frozen BK124.out 4; have hfz62_5 := blk_frozen BK124.out 5; have hfz62_6 := blk_frozen BK124.out 6; have hfz62_7 := blk_frozen BK124.out 7; have hfz62_8 := blk_frozen BK124.out 8; have hfz62_9 := blk_frozen BK124.out 9; have hfz62_10 := blk_frozen BK124.out 10; have hfz62_11 := blk_frozen BK124.out 11; have hfz62_12 := blk_frozen BK124.out 12; have hfz62_13 := blk_frozen BK124.out 13; have hfz62_14 := blk_frozen BK124.out 14; have hcz63_0 : w60.cell? ⟨gb127, 0, none⟩ = some (.int .u32 x128000_15) := (blk_cell BK127.out 0).trans rfl; have hcz63_1 : w60.cell? ⟨gb127, 1, none⟩ = some (.int .i64 x128001_15) := (blk_cell BK127.out 1).trans rfl; have hfz63_0 := blk_frozen BK127.out 0; have hfz63_1 := blk_frozen BK127.out 1) | (go_at_call 17; (with_reducible refine (group_ends_sender.calls kj15 a0_0 a0_1 a0_2 _ _ l0_3 a0_4 _ _ l0_5 a0_6 _ _ l0_7 a0_8 _ _ l0_9 true a0_11 _ _ l0_12 a0_13 a0_14 x128000_15 x128001_15 true _ ?side1 ?side2 ?side3 ?side4 ?side5 ?side6 ?side7 ?side8 ?side9 ?side10 A49.out).mono ?_); (case side1 => repeat (first | exact (Kd.C_below HR0_3.out HB.out) | (with_reducible refine Kd.C_alloc ?_ _) | (with_reducible refine Kd.C_drewN ?_ _) | (with_reducible refine Kd.C_drew ?_))); (case side2 => exact HC0_3.out); (case side3 => repeat (first | exact (Kd.C_below HR0_5.out HB.out) | (with_reducible refine Kd.C_alloc ?_ _) | (with_reducible refine Kd.C_drewN ?_ _) | (with_reducible refine Kd.C_drew ?_))); (case side4 => exact HC0_5.out); (case side5 => repeat (first | exact (Kd.C_below HR0_7.out HB.out) | (with_reducible refine Kd.C_alloc ?_ _) | (with_reducible refine Kd.C_drewN ?_ _) | (with_reducible refine Kd.C_drew ?_))); (case side6 => exact HC0_7.out); (case side7 => repeat (first | exact (Kd.C_below HR0_9.out HB.out) | (with_reducible refine Kd.C_alloc ?_ _) | (with_reducible refine Kd.C_drewN ?_ _) | (with_reducible refine Kd.C_drew ?_))); (case side8 => exact HC0_9.out); (case side9 => repeat (first | exact (Kd.C_below HR0_12.out HB.out) | (with_reducible refine Kd.C_alloc ?_ _) | (with_reducible refine Kd.C_drewN ?_ _) | (with_reducible refine Kd.C_drew ?_))); (case side10 => exact HC0_12.out); rintro e w64 ⟨rfl, hb⟩; have n0_ := Aside0.mk (blk_below (g := gb124) (o := .cells #[.int .i64 a0_0, .int .i64 a0_1, .bool a0_2, .slice A0_3 l0_3.length c0_3, .bool a0_4, .slice A0_5 l0_5.length c0_5, .bool a0_6, .slice A0_7 l0_7.length c0_7, .bool a0_8, .slice A0_9 l0_9.length c0_9, .bool true, .int .i64 a0_11, .slice A0_12 l0_12.length c0_12, .int .i64 a0_13, .int .i64 a0_14] 37 (0, 0)) (by (with_reducible repeat (first | refine blk_drewN ?_ _ | refine blk_drew ?_ | refine blk_alloc ?_ _)); exact BK124.out) hb); have n1_ := Aside0.mk (blk_below (g := gb125) (o := .cells #[.int .i64 a1_0, .int .u32 a1_1, .int .u32 a1_2, .int .i64 a1_3, .int .i64 a1_4] 25 (0, 0)) (by (with_reducible repeat (first | refine blk_drewN ?_ _ | refine blk_drew ?_ | refine blk_alloc ?_ _)); exact BK125.out) hb); have n2_ := Aside0.mk (blk_below (g := gb126) (o := .cells #[.int .u32 x127000_15, .int .i64 x127001_15] 56 (0, 0)) (by (with_reducible repeat (first | refine blk_drewN ?_ _ | refine blk_drew ?_ | refine blk_alloc ?_ _)); exact BK126.out) hb); have n3_ := Aside0.mk (blk_below (g := gb127) (o := .cells #[.int .u32 x128000_15, .int .i64 x128001_15] 56 (0, 0)) (by (with_reducible repeat (first | refine blk_drewN ?_ _ | refine blk_drew ?_ | refine blk_alloc ?_ _)); exact BK127.out) hb); have n4_ := Aside0.mk (below_step (by repeat (first | (with_reducible first | exact HB.out | apply below_alloc | apply pw_below_drewN | apply below_drew1 | refine below_set ?_ GE124.out | refine below_set ?_ GE125.out | refine below_set ?_ GE126.out | refine below_set ?_ GE127.out) | exact HB.out)) hb); clear BK124; clear BK125; clear BK126; clear BK127; clear HB; have BK124 := n0_; have BK125 := n1_; have BK126 := n2_; have BK127 := n3_; have HB := n4_; clear n0_ n1_ n2_ n3_ n4_; (try clear hb); (try clear hb2); (try clear hk); (try clear hi); have hcz65_0 : w64.cell? ⟨gb126, 0, none⟩ = some (.int .u32 x127000_15) := (blk_cell BK126.out 0).trans rfl; have hcz65_1 : w64.cell? ⟨gb126, 1, none⟩ = some (.int .i64 x127001_15) := (blk_cell BK126.out 1).trans rfl; have hfz65_0 := blk_frozen BK126.out 0; have hfz65_1 := blk_frozen BK126.out 1) | (go_at_call 18; (with_reducible refine (group_ends_receiver.calls kj15 a0_0 a0_1 a0_2 _ _ l0_3 a0_4 _ _ l0_5 a0_6 _ _ l0_7 a0_8 _ _ l0_9 true a0_11 _ _ l0_12 a0_13 a0_14 x127000_15 x127001_15 t131 _ ?side1 ?side2 ?side3 ?side4 ?side5 ?side6 ?side7 ?side8 ?side9 ?side10 A51.out).mono ?_); (case side1 => repeat (first | exact (Kd.C_below HR0_3.out HB.out) | (with_reducible refine Kd.C_alloc ?_ _) | (with_reducible refine Kd.C_drewN ?_ _) | (with_reducible refine Kd.C_drew ?_))); (case side2 => exact HC0_3.out); (case side3 => repeat (first | exact (Kd.C_below HR0_5.out HB.out) | (with_reducible refine Kd.C_alloc ?_ _) | (with_reducible refine Kd.C_drewN ?_ _) | (with_reducible refine Kd.C_drew ?_))); (case side4 => exact HC0_5.out); (case side5 => repeat (first | exact (Kd.C_below HR0_7.out HB.out) | (with_reducible refine Kd.C_alloc ?_ _) | (with_reducible refine Kd.C_drewN ?_ _) | (with_reducible refine Kd.C_drew ?_))); (case side6 => exact HC0_7.out); (case side7 => repeat (first | exact (Kd.C_below HR0_9.out HB.out) | (with_reducible refine Kd.C_alloc ?_ _) | (with_reducible refine Kd.C_drewN ?_ _) | (with_reducible refine Kd.C_drew ?_))); (case side8 => exact HC0_9.out); (case side9 => repeat (first | exact (Kd.C_below HR0_12.out HB.out) | (with_reducible refine Kd.C_alloc ?_ _) | (with_reducible refine Kd.C_drewN ?_ _) | (with_reducible refine Kd.C_drew ?_))); (case side10 => exact HC0_12.out); rintro e w66 ⟨rfl, hb⟩; have n0_ := Aside0.mk (blk_below (g := gb124) (o := .cells #[.int .i64 a0_0, .int .i64 a0_1, .bool a0_2, .slice A0_3 l0_3.length c0_3, .bool a0_4, .slice A0_5 l0_5.length c0_5, .bool a0_6, .slice A0_7 l0_7.length c0_7, .bool a0_8, .slice A0_9 l0_9.length c0_9, .bool true, .int .i64 a0_11, .slice A0_12 l0_12.length c0_12, .int .i64 a0_13, .int .i64 a0_14] 37 (0, 0)) (by (with_reducible repeat (first | refine blk_drewN ?_ _ | refine blk_drew ?_ | refine blk_alloc ?_ _)); exact BK124.out) hb); have n1_ := Aside0.mk (blk_below (g := gb125) (o := .cells #[.int .i64 a1_0, .int .u32 a1_1, .int .u32 a1_2, .int .i64 a1_3, .int .i64 a1_4] 25 (0, 0)) (by (with_reducible repeat (first | refine blk_drewN ?_ _ | refine blk_drew ?_ | refine blk_alloc ?_ _)); exact BK125.out) hb); have n2_ := Aside0.mk (blk_below (g := gb126) (o := .cells #[.int .u32 x127000_15, .int .i64 x127001_15] 56 (0, 0)) (by (with_reducible repeat (first | refine blk_drewN ?_ _ | refine blk_drew ?_ | refine blk_alloc ?_ _)); exact BK126.out) hb); have n3_ := Aside0.mk (blk_below (g := gb127) (o := .cells #[.int .u32 x128000_15, .int .i64 x128001_15] 56 (0, 0)) (by (with_reducible repeat (first | refine blk_drewN ?_ _ | refine blk_drew ?_ | refine blk_alloc ?_ _)); exact BK127.out) hb); have n4_ := Aside0.mk (below_step (by repeat (first | (with_reducible first | exact HB.out | apply below_alloc | apply pw_below_drewN | apply below_drew1 | refine below_set ?_ GE124.out | refine below_set ?_ GE125.out | refine below_set ?_ GE126.out | refine below_set ?_ GE127.out) | exact HB.out)) hb); clear BK124; clear BK125; clear BK126; clear BK127; clear HB; have BK124 := n0_; have BK125 := n1_; have BK126 := n2_; have BK127 := n3_; have HB := n4_; clear n0_ n1_ n2_ n3_ n4_; (try clear hb); (try clear hb2); (try clear hk); (try clear hi)))
           go_meet
           case rel => exact ⟨_, (t131), (by first | rfl | (simp; done) | (simp [*]; done)), H', ⟨by have := HJ3.out; have := HJ15.out; first | omega | exact Nat.le_refl _⟩, ⟨by (with_reducible repeat (first | refine blk_drewN ?_ _ | refine blk_drew ?_ | refine blk_alloc ?_ _)); exact BK124.out⟩, ⟨by (with_reducible repeat (first | refine blk_drewN ?_ _ | refine blk_drew ?_ | refine blk_alloc ?_ _)); exact BK125.out⟩, ⟨by (with_reducible repeat (first | refine blk_drewN ?_ _ | refine blk_drew ?_ | refine blk_alloc ?_ _)); exact BK126.out⟩, ⟨by (with_reducible repeat (first | refine blk_drewN ?_ _ | refine blk_drew ?_ | refine blk_alloc ?_ _)); exact BK127.out⟩, ⟨by repeat (first | (with_reducible first | exact HB.out | apply below_alloc | apply pw_below_drewN | apply below_drew1 | refine below_set ?_ GE124.out | refine below_set ?_ GE125.out | refine below_set ?_ GE126.out | refine below_set ?_ GE127.out) | exact HB.out)⟩⟩
          ·
           replace c50 := Bool.eq_false_iff.mpr c50
           subst c50
           have H1 : (group_Fits.j2 kj15 a2 false a0_0 a0_1 a0_2 l0_3 a0_4 l0_5 a0_6 l0_7 a0_8 l0_9 true a0_11 l0_12 a0_13 a0_14) = some r := by rw [if_neg (show ¬ (false = true) by decide)] at H; exact H
           clear H
           have H := H1
           clear H1
           have H' := Aside0.mk H
           clear H
           have hnb67 := NB126_124.out
           have hnc67 := NB124_126.out
           have hnb68 := NB126_125.out
           have hnc68 := NB125_126.out
           have hnb69 := NB126_127.out
           have hnc69 := NB127_126.out
           have hcz70_0 : w34.cell? ⟨gb126, 0, none⟩ = some (.int .u32 x127000_15) := (blk_cell BK126.out 0).trans rfl
           have hcz70_1 : w34.cell? ⟨gb126, 1, none⟩ = some (.int .i64 x127001_15) := (blk_cell BK126.out 1).trans rfl
           have hfz70_0 := blk_frozen BK126.out 0
           have hfz70_1 := blk_frozen BK126.out 1
           go_wp2_with (first | (go_at_call 17; (with_reducible refine (group_ends_sender.calls kj15 a0_0 a0_1 a0_2 _ _ l0_3 a0_4 _ _ l0_5 a0_6 _ _ l0_7 a0_8 _ _ l0_9 true a0_11 _ _ l0_12 a0_13 a0_14 x127000_15 x127001_15 true _ ?side1 ?side2 ?side3 ?side4 ?side5 ?side6 ?side7 ?side8 ?side9 ?side10 A35.out).mono ?_); (case side1 => repeat (first | exact (Kd.C_below HR0_3.out HB.out) | (with_reducible refine Kd.C_alloc ?_ _) | (with_reducible refine Kd.C_drewN ?_ _) | (with_reducible refine Kd.C_drew ?_))); (case side2 => exact HC0_3.out); (case side3 => repeat (first | exact (Kd.C_below HR0_5.out HB.out) | (with_reducible refine Kd.C_alloc ?_ _) | (with_reducible refine Kd.C_drewN ?_ _) | (with_reducible refine Kd.C_drew ?_))); (case side4 => exact HC0_5.out); (case side5 => repeat (first | exact (Kd.C_below HR0_7.out HB.out) | (with_reducible refine Kd.C_alloc ?_ _) | (with_reducible refine Kd.C_drewN ?_ _) | (with_reducible refine Kd.C_drew ?_))); (case side6 => exact HC0_7.out); (case side7 => repeat (first | exact (Kd.C_below HR0_9.out HB.out) | (with_reducible refine Kd.C_alloc ?_ _) | (with_reducible refine Kd.C_drewN ?_ _) | (with_reducible refine Kd.C_drew ?_))); (case side8 => exact HC0_9.out); (case side9 => repeat (first | exact (Kd.C_below HR0_12.out HB.out) | (with_reducible refine Kd.C_alloc ?_ _) | (with_reducible refine Kd.C_drewN ?_ _) | (with_reducible refine Kd.C_drew ?_))); (case side10 => exact HC0_12.out); rintro e w71 ⟨rfl, hb⟩; skip; have n0_ := Aside0.mk (blk_below (g := gb124) (o := .cells #[.int .i64 a0_0, .int .i64 a0_1, .bool a0_2, .slice A0_3 l0_3.length c0_3, .bool a0_4, .slice A0_5 l0_5.length c0_5, .bool a0_6, .slice A0_7 l0_7.length c0_7, .bool a0_8, .slice A0_9 l0_9.length c0_9, .bool true, .int .i64 a0_11, .slice A0_12 l0_12.length c0_12, .int .i64 a0_13, .int .i64 a0_14] 37 (0, 0)) (by (with_reducible repeat (first | refine blk_drewN ?_ _ | refine blk_drew ?_ | refine blk_alloc ?_ _)); exact BK124.out) hb); have n1_ := Aside0.mk (blk_below (g := gb125) (o := .cells #[.int .i64 a1_0, .int .u32 a1_1, .int .u32 a1_2, .int .i64 a1_3, .int .i64 a1_4] 25 (0, 0)) (by (with_reducible repeat (first | refine blk_drewN ?_ _ | refine blk_drew ?_ | refine blk_alloc ?_ _)); exact BK125.out) hb); have n2_ := Aside0.mk (blk_below (g := gb126) (o := .cells #[.int .u32 x127000_15, .int .i64 x127001_15] 56 (0, 0)) (by (with_reducible repeat (first | refine blk_drewN ?_ _ | refine blk_drew ?_ | refine blk_alloc ?_ _)); exact BK126.out) hb); have n3_ := Aside0.mk (blk_below (g := gb127) (o := .cells #[.int .u32 x128000_15, .int .i64 x128001_15] 56 (0, 0)) (by (with_reducible repeat (first | refine blk_drewN ?_ _ | refine blk_drew ?_ | refine blk_alloc ?_ _)); exact BK127.out) hb); have n4_ := Aside0.mk (below_step (by repeat (first | (with_reducible first | exact HB.out | apply below_alloc | apply pw_below_drewN | apply below_drew1 | refine below_set ?_ GE124.out | refine below_set ?_ GE125.out | refine below_set ?_ GE126.out | refine below_set ?_ GE127.out) | exact HB.out)) hb); clear BK124; clear BK125; clear BK126; clear BK127; clear HB; have BK124 := n0_; have BK125 := n1_; have BK126 := n2_; have BK127 := n3_; have HB := n4_; clear n0_ n1_ n2_ n3_ n4_; (try clear hb); (try clear hb2); (try clear hk); (try clear hi); have hnb72 := NB127_124.out; have hnc72 := NB124_127.out; have hnb73 := NB127_125.out; have hnc73 := NB125_127.out; have hcz74_0 : w71.cell? ⟨gb127, 0, none⟩ = some (.int .u32 x128000_15) := (blk_cell BK127.out 0).trans rfl; have hcz74_1 : w71.cell? ⟨gb127, 1, none⟩ = some (.int .i64 x128001_15) := (blk_cell BK127.out 1).trans rfl; have hfz74_0 := blk_frozen BK127.out 0; have hfz74_1 := blk_frozen BK127.out 1) | (go_at_call 18; (with_reducible refine (group_ends_receiver.calls kj15 a0_0 a0_1 a0_2 _ _ l0_3 a0_4 _ _ l0_5 a0_6 _ _ l0_7 a0_8 _ _ l0_9 true a0_11 _ _ l0_12 a0_13 a0_14 x128000_15 x128001_15 false _ ?side1 ?side2 ?side3 ?side4 ?side5 ?side6 ?side7 ?side8 ?side9 ?side10 A37.out).mono ?_); (case side1 => repeat (first | exact (Kd.C_below HR0_3.out HB.out) | (with_reducible refine Kd.C_alloc ?_ _) | (with_reducible refine Kd.C_drewN ?_ _) | (with_reducible refine Kd.C_drew ?_))); (case side2 => exact HC0_3.out); (case side3 => repeat (first | exact (Kd.C_below HR0_5.out HB.out) | (with_reducible refine Kd.C_alloc ?_ _) | (with_reducible refine Kd.C_drewN ?_ _) | (with_reducible refine Kd.C_drew ?_))); (case side4 => exact HC0_5.out); (case side5 => repeat (first | exact (Kd.C_below HR0_7.out HB.out) | (with_reducible refine Kd.C_alloc ?_ _) | (with_reducible refine Kd.C_drewN ?_ _) | (with_reducible refine Kd.C_drew ?_))); (case side6 => exact HC0_7.out); (case side7 => repeat (first | exact (Kd.C_below HR0_9.out HB.out) | (with_reducible refine Kd.C_alloc ?_ _) | (with_reducible refine Kd.C_drewN ?_ _) | (with_reducible refine Kd.C_drew ?_))); (case side8 => exact HC0_9.out); (case side9 => repeat (first | exact (Kd.C_below HR0_12.out HB.out) | (with_reducible refine Kd.C_alloc ?_ _) | (with_reducible refine Kd.C_drewN ?_ _) | (with_reducible refine Kd.C_drew ?_))); (case side10 => exact HC0_12.out); rintro e w75 ⟨rfl, hb⟩; have n0_ := Aside0.mk (blk_below (g := gb124) (o := .cells #[.int .i64 a0_0, .int .i64 a0_1, .bool a0_2, .slice A0_3 l0_3.length c0_3, .bool a0_4, .slice A0_5 l0_5.length c0_5, .bool a0_6, .slice A0_7 l0_7.length c0_7, .bool a0_8, .slice A0_9 l0_9.length c0_9, .bool true, .int .i64 a0_11, .slice A0_12 l0_12.length c0_12, .int .i64 a0_13, .int .i64 a0_14] 37 (0, 0)) (by (with_reducible repeat (first | refine blk_drewN ?_ _ | refine blk_drew ?_ | refine blk_alloc ?_ _)); exact BK124.out) hb); have n1_ := Aside0.mk (blk_below (g := gb125) (o := .cells #[.int .i64 a1_0, .int .u32 a1_1, .int .u32 a1_2, .int .i64 a1_3, .int .i64 a1_4] 25 (0, 0)) (by (with_reducible repeat (first | refine blk_drewN ?_ _ | refine blk_drew ?_ | refine blk_alloc ?_ _)); exact BK125.out) hb); have n2_ := Aside0.mk (blk_below (g := gb126) (o := .cells #[.int .u32 x127000_15, .int .i64 x127001_15] 56 (0, 0)) (by (with_reducible repeat (first | refine blk_drewN ?_ _ | refine blk_drew ?_ | refine blk_alloc ?_ _)); exact BK126.out) hb); have n3_ := Aside0.mk (blk_below (g := gb127) (o := .cells #[.int .u32 x128000_15, .int .i64 x128001_15] 56 (0, 0)) (by (with_reducible repeat (first | refine blk_drewN ?_ _ | refine blk_drew ?_ | refine blk_alloc ?_ _)); exact BK127.out) hb); have n4_ := Aside0.mk (below_step (by repeat (first | (with_reducible first | exact HB.out | apply below_alloc | apply pw_below_drewN | apply below_drew1 | refine below_set ?_ GE124.out | refine below_set ?_ GE125.out | refine below_set ?_ GE126.out | refine below_set ?_ GE127.out) | exact HB.out)) hb); clear BK124; clear BK125; clear BK126; clear BK127; clear HB; have BK124 := n0_; have BK125 := n1_; have BK126 := n2_; have BK127 := n3_; have HB := n4_; clear n0_ n1_ n2_ n3_ n4_; (try clear hb); (try clear hb2); (try clear hk); (try clear hi); have hnb76 := NB124_125.out; have hnc76 := NB125_124.out; have hcz77_0 : w75.cell? ⟨gb124, 0, none⟩ = some (.int .i64 a0_0) := (blk_cell BK124.out 0).trans rfl; have hcz77_1 : w75.cell? ⟨gb124, 1, none⟩ = some (.int .i64 a0_1) := (blk_cell BK124.out 1).trans rfl; have hcz77_2 : w75.cell? ⟨gb124, 2, none⟩ = some (.bool a0_2) := (blk_cell BK124.out 2).trans rfl; have hcz77_3 : w75.cell? ⟨gb124, 3, none⟩ = some (.slice A0_3 l0_3.length c0_3) := (blk_cell BK124.out 3).trans rfl; have hcz77_4 : w75.cell? ⟨gb124, 4, none⟩ = some (.bool a0_4) := (blk_cell BK124.out 4).trans rfl; have hcz77_5 : w75.cell? ⟨gb124, 5, none⟩ = some (.slice A0_5 l0_5.length c0_5) := (blk_cell BK124.out 5).trans rfl; have hcz77_6 : w75.cell? ⟨gb124, 6, none⟩ = some (.bool a0_6) := (blk_cell BK124.out 6).trans rfl; have hcz77_7 : w75.cell? ⟨gb124, 7, none⟩ = some (.slice A0_7 l0_7.length c0_7) := (blk_cell BK124.out 7).trans rfl; have hcz77_8 : w75.cell? ⟨gb124, 8, none⟩ = some (.bool a0_8) := (blk_cell BK124.out 8).trans rfl; have hcz77_9 : w75.cell? ⟨gb124, 9, none⟩ = some (.slice A0_9 l0_9.length c0_9) := (blk_cell BK124.out 9).trans rfl; have hcz77_10 : w75.cell? ⟨gb124, 10, none⟩ = some (.bool true) := (blk_cell BK124.out 10).trans rfl; have hcz77_11 : w75.cell? ⟨gb124, 11, none⟩ = some (.int .i64 a0_11) := (blk_cell BK124.out 11).trans rfl; have hcz77_12 : w75.cell? ⟨gb124, 12, none⟩ = some (.slice A0_12 l0_12.length c0_12) := (blk_cell BK124.out 12).trans rfl; have hcz77_13 : w75.cell? ⟨gb124, 13, none⟩ = some (.int .i64 a0_13) := (blk_cell BK124.out 13).trans rfl; have hcz77_14 : w75.cell? ⟨gb124, 14, none⟩ = some (.int .i64 a0_14) := (blk_cell BK124.out 14).trans rfl; have hfz77_0 := blk_frozen BK124.out 0; have hfz77_1 := blk_frozen BK124.out 1; have hfz77_2 := blk_frozen BK124.out 2; have hfz77_3 := blk_frozen BK124.out 3; have hfz77_4 := blk_frozen BK124.out 4; have hfz77_5 := blk_frozen BK124.out 5; have hfz77_6 := blk_frozen BK124.out 6; have hfz77_7 := blk_frozen BK124.out 7; have hfz77_8 := blk_frozen BK124.out 8; have hfz77_9 := blk_frozen BK124.out 9; have hfz77_10 := blk_frozen BK124.out 10; have hfz77_11 := blk_frozen BK124.out 11; have hfz77_12 := blk_frozen BK124.out 12; have hfz77_13 := blk_frozen BK124.out 13; have hfz77_14 := blk_frozen BK124.out 14; have hcz78_0 : w75.cell? ⟨gb127, 0, none⟩ = some (.int .u32 x128000_15) := (blk_cell BK127.out 0).trans rfl; have hcz78_1 : w75.cell? ⟨gb127, 1, none⟩ = some (.int .i64 x128001_15) := (blk_cell BK127.out 1).trans rfl; have hfz78_0 := blk_frozen BK127.out 0; have hfz78_1 := blk_frozen BK127.out 1) | (go_at_call 17; (with_reducible refine (group_ends_sender.calls kj15 a0_0 a0_1 a0_2 _ _ l0_3 a0_4 _ _ l0_5 a0_6 _ _ l0_7 a0_8 _ _ l0_9 true a0_11 _ _ l0_12 a0_13 a0_14 x128000_15 x128001_15 false _ ?side1 ?side2 ?side3 ?side4 ?side5 ?side6 ?side7 ?side8 ?side9 ?side10 A49.out).mono ?_); (case side1 => repeat (first | exact (Kd.C_below HR0_3.out HB.out) | (with_reducible refine Kd.C_alloc ?_ _) | (with_reducible refine Kd.C_drewN ?_ _) | (with_reducible refine Kd.C_drew ?_))); (case side2 => exact HC0_3.out); (case side3 => repeat (first | exact (Kd.C_below HR0_5.out HB.out) | (with_reducible refine Kd.C_alloc ?_ _) | (with_reducible refine Kd.C_drewN ?_ _) | (with_reducible refine Kd.C_drew ?_))); (case side4 => exact HC0_5.out); (case side5 => repeat (first | exact (Kd.C_below HR0_7.out HB.out) | (with_reducible refine Kd.C_alloc ?_ _) | (with_reducible refine Kd.C_drewN ?_ _) | (with_reducible refine Kd.C_drew ?_))); (case side6 => exact HC0_7.out); (case side7 => repeat (first | exact (Kd.C_below HR0_9.out HB.out) | (with_reducible refine Kd.C_alloc ?_ _) | (with_reducible refine Kd.C_drewN ?_ _) | (with_reducible refine Kd.C_drew ?_))); (case side8 => exact HC0_9.out); (case side9 => repeat (first | exact (Kd.C_below HR0_12.out HB.out) | (with_reducible refine Kd.C_alloc ?_ _) | (with_reducible refine Kd.C_drewN ?_ _) | (with_reducible refine Kd.C_drew ?_))); (case side10 => exact HC0_12.out); rintro e w79 ⟨rfl, hb⟩; have n0_ := Aside0.mk (blk_below (g := gb124) (o := .cells #[.int .i64 a0_0, .int .i64 a0_1, .bool a0_2, .slice A0_3 l0_3.length c0_3, .bool a0_4, .slice A0_5 l0_5.length c0_5, .bool a0_6, .slice A0_7 l0_7.length c0_7, .bool a0_8, .slice A0_9 l0_9.length c0_9, .bool true, .int .i64 a0_11, .slice A0_12 l0_12.length c0_12, .int .i64 a0_13, .int .i64 a0_14] 37 (0, 0)) (by (with_reducible repeat (first | refine blk_drewN ?_ _ | refine blk_drew ?_ | refine blk_alloc ?_ _)); exact BK124.out) hb); have n1_ := Aside0.mk (blk_below (g := gb125) (o := .cells #[.int .i64 a1_0, .int .u32 a1_1, .int .u32 a1_2, .int .i64 a1_3, .int .i64 a1_4] 25 (0, 0)) (by (with_reducible repeat (first | refine blk_drewN ?_ _ | refine blk_drew ?_ | refine blk_alloc ?_ _)); exact BK125.out) hb); have n2_ := Aside0.mk (blk_below (g := gb126) (o := .cells #[.int .u32 x127000_15, .int .i64 x127001_15] 56 (0, 0)) (by (with_reducible repeat (first | refine blk_drewN ?_ _ | refine blk_drew ?_ | refine blk_alloc ?_ _)); exact BK126.out) hb); have n3_ := Aside0.mk (blk_below (g := gb127) (o := .cells #[.int .u32 x128000_15, .int .i64 x128001_15] 56 (0, 0)) (by (with_reducible repeat (first | refine blk_drewN ?_ _ | refine blk_drew ?_ | refine blk_alloc ?_ _)); exact BK127.out) hb); have n4_ := Aside0.mk (below_step (by repeat (first | (with_reducible first | exact HB.out | apply below_alloc | apply pw_below_drewN | apply below_drew1 | refine below_set ?_ GE124.out | refine below_set ?_ GE125.out | refine below_set ?_ GE126.out | refine below_set ?_ GE127.out) | exact HB.out)) hb); clear BK124; clear BK125; clear BK126; clear BK127; clear HB; have BK124 := n0_; have BK125 := n1_; have BK126 := n2_; have BK127 := n3_; have HB := n4_; clear n0_ n1_ n2_ n3_ n4_; (try clear hb); (try clear hb2); (try clear hk); (try clear hi)))
           go_meet
           case rel => exact ⟨_, (false), (by first | rfl | (simp; done) | (simp [*]; done)), H', ⟨by have := HJ3.out; have := HJ15.out; first | omega | exact Nat.le_refl _⟩, ⟨by (with_reducible repeat (first | refine blk_drewN ?_ _ | refine blk_drew ?_ | refine blk_alloc ?_ _)); exact BK124.out⟩, ⟨by (with_reducible repeat (first | refine blk_drewN ?_ _ | refine blk_drew ?_ | refine blk_alloc ?_ _)); exact BK125.out⟩, ⟨by (with_reducible repeat (first | refine blk_drewN ?_ _ | refine blk_drew ?_ | refine blk_alloc ?_ _)); exact BK126.out⟩, ⟨by (with_reducible repeat (first | refine blk_drewN ?_ _ | refine blk_drew ?_ | refine blk_alloc ?_ _)); exact BK127.out⟩, ⟨by repeat (first | (with_reducible first | exact HB.out | apply below_alloc | apply pw_below_drewN | apply below_drew1 | refine below_set ?_ GE124.out | refine below_set ?_ GE125.out | refine below_set ?_ GE126.out | refine below_set ?_ GE127.out) | exact HB.out)⟩⟩
         ·
          replace c48 := Bool.eq_false_iff.mpr c48
          subst c48
          have H1 : (group_Fits.j2 kj15 a2 false a0_0 a0_1 a0_2 l0_3 a0_4 l0_5 a0_6 l0_7 a0_8 l0_9 false a0_11 l0_12 a0_13 a0_14) = some r := by rw [if_neg (show ¬ (false = true) by decide)] at H; exact H
          clear H
          have H := H1
          clear H1
          have H' := Aside0.mk H
          clear H
          have hnb80 := NB126_124.out
          have hnc80 := NB124_126.out
          have hnb81 := NB126_125.out
          have hnc81 := NB125_126.out
          have hnb82 := NB126_127.out
          have hnc82 := NB127_126.out
          have hcz83_0 : w34.cell? ⟨gb126, 0, none⟩ = some (.int .u32 x127000_15) := (blk_cell BK126.out 0).trans rfl
          have hcz83_1 : w34.cell? ⟨gb126, 1, none⟩ = some (.int .i64 x127001_15) := (blk_cell BK126.out 1).trans rfl
          have hfz83_0 := blk_frozen BK126.out 0
          have hfz83_1 := blk_frozen BK126.out 1
          go_wp2_with (first | (go_at_call 17; (with_reducible refine (group_ends_sender.calls kj15 a0_0 a0_1 a0_2 _ _ l0_3 a0_4 _ _ l0_5 a0_6 _ _ l0_7 a0_8 _ _ l0_9 false a0_11 _ _ l0_12 a0_13 a0_14 x127000_15 x127001_15 true _ ?side1 ?side2 ?side3 ?side4 ?side5 ?side6 ?side7 ?side8 ?side9 ?side10 A35.out).mono ?_); (case side1 => repeat (first | exact (Kd.C_below HR0_3.out HB.out) | (with_reducible refine Kd.C_alloc ?_ _) | (with_reducible refine Kd.C_drewN ?_ _) | (with_reducible refine Kd.C_drew ?_))); (case side2 => exact HC0_3.out); (case side3 => repeat (first | exact (Kd.C_below HR0_5.out HB.out) | (with_reducible refine Kd.C_alloc ?_ _) | (with_reducible refine Kd.C_drewN ?_ _) | (with_reducible refine Kd.C_drew ?_))); (case side4 => exact HC0_5.out); (case side5 => repeat (first | exact (Kd.C_below HR0_7.out HB.out) | (with_reducible refine Kd.C_alloc ?_ _) | (with_reducible refine Kd.C_drewN ?_ _) | (with_reducible refine Kd.C_drew ?_))); (case side6 => exact HC0_7.out); (case side7 => repeat (first | exact (Kd.C_below HR0_9.out HB.out) | (with_reducible refine Kd.C_alloc ?_ _) | (with_reducible refine Kd.C_drewN ?_ _) | (with_reducible refine Kd.C_drew ?_))); (case side8 => exact HC0_9.out); (case side9 => repeat (first | exact (Kd.C_below HR0_12.out HB.out) | (with_reducible refine Kd.C_alloc ?_ _) | (with_reducible refine Kd.C_drewN ?_ _) | (with_reducible refine Kd.C_drew ?_))); (case side10 => exact HC0_12.out); rintro e w84 ⟨rfl, hb⟩; skip; have n0_ := Aside0.mk (blk_below (g := gb124) (o := .cells #[.int .i64 a0_0, .int .i64 a0_1, .bool a0_2, .slice A0_3 l0_3.length c0_3, .bool a0_4, .slice A0_5 l0_5.length c0_5, .bool a0_6, .slice A0_7 l0_7.length c0_7, .bool a0_8, .slice A0_9 l0_9.length c0_9, .bool false, .int .i64 a0_11, .slice A0_12 l0_12.length c0_12, .int .i64 a0_13, .int .i64 a0_14] 37 (0, 0)) (by (with_reducible repeat (first | refine blk_drewN ?_ _ | refine blk_drew ?_ | refine blk_alloc ?_ _)); exact BK124.out) hb); have n1_ := Aside0.mk (blk_below (g := gb125) (o := .cells #[.int .i64 a1_0, .int .u32 a1_1, .int .u32 a1_2, .int .i64 a1_3, .int .i64 a1_4] 25 (0, 0)) (by (with_reducible repeat (first | refine blk_drewN ?_ _ | refine blk_drew ?_ | refine blk_alloc ?_ _)); exact BK125.out) hb); have n2_ := Aside0.mk (blk_below (g := gb126) (o := .cells #[.int .u32 x127000_15, .int .i64 x127001_15] 56 (0, 0)) (by (with_reducible repeat (first | refine blk_drewN ?_ _ | refine blk_drew ?_ | refine blk_alloc ?_ _)); exact BK126.out) hb); have n3_ := Aside0.mk (blk_below (g := gb127) (o := .cells #[.int .u32 x128000_15, .int .i64 x128001_15] 56 (0, 0)) (by (with_reducible repeat (first | refine blk_drewN ?_ _ | refine blk_drew ?_ | refine blk_alloc ?_ _)); exact BK127.out) hb); have n4_ := Aside0.mk (below_step (by repeat (first | (with_reducible first | exact HB.out | apply below_alloc | apply pw_below_drewN | apply below_drew1 | refine below_set ?_ GE124.out | refine below_set ?_ GE125.out | refine below_set ?_ GE126.out | refine below_set ?_ GE127.out) | exact HB.out)) hb); clear BK124; clear BK125; clear BK126; clear BK127; clear HB; have BK124 := n0_; have BK125 := n1_; have BK126 := n2_; have BK127 := n3_; have HB := n4_; clear n0_ n1_ n2_ n3_ n4_; (try clear hb); (try clear hb2); (try clear hk); (try clear hi); have hnb85 := NB127_124.out; have hnc85 := NB124_127.out; have hnb86 := NB127_125.out; have hnc86 := NB125_127.out; have hcz87_0 : w84.cell? ⟨gb127, 0, none⟩ = some (.int .u32 x128000_15) := (blk_cell BK127.out 0).trans rfl; have hcz87_1 : w84.cell? ⟨gb127, 1, none⟩ = some (.int .i64 x128001_15) := (blk_cell BK127.out 1).trans rfl; have hfz87_0 := blk_frozen BK127.out 0; have hfz87_1 := blk_frozen BK127.out 1) | (go_at_call 18; (with_reducible refine (group_ends_receiver.calls kj15 a0_0 a0_1 a0_2 _ _ l0_3 a0_4 _ _ l0_5 a0_6 _ _ l0_7 a0_8 _ _ l0_9 false a0_11 _ _ l0_12 a0_13 a0_14 x128000_15 x128001_15 false _ ?side1 ?side2 ?side3 ?side4 ?side5 ?side6 ?side7 ?side8 ?side9 ?side10 A37.out).mono ?_); (case side1 => repeat (first | exact (Kd.C_below HR0_3.out HB.out) | (with_reducible refine Kd.C_alloc ?_ _) | (with_reducible refine Kd.C_drewN ?_ _) | (with_reducible refine Kd.C_drew ?_))); (case side2 => exact HC0_3.out); (case side3 => repeat (first | exact (Kd.C_below HR0_5.out HB.out) | (with_reducible refine Kd.C_alloc ?_ _) | (with_reducible refine Kd.C_drewN ?_ _) | (with_reducible refine Kd.C_drew ?_))); (case side4 => exact HC0_5.out); (case side5 => repeat (first | exact (Kd.C_below HR0_7.out HB.out) | (with_reducible refine Kd.C_alloc ?_ _) | (with_reducible refine Kd.C_drewN ?_ _) | (with_reducible refine Kd.C_drew ?_))); (case side6 => exact HC0_7.out); (case side7 => repeat (first | exact (Kd.C_below HR0_9.out HB.out) | (with_reducible refine Kd.C_alloc ?_ _) | (with_reducible refine Kd.C_drewN ?_ _) | (with_reducible refine Kd.C_drew ?_))); (case side8 => exact HC0_9.out); (case side9 => repeat (first | exact (Kd.C_below HR0_12.out HB.out) | (with_reducible refine Kd.C_alloc ?_ _) | (with_reducible refine Kd.C_drewN ?_ _) | (with_reducible refine Kd.C_drew ?_))); (case side10 => exact HC0_12.out); rintro e w88 ⟨rfl, hb⟩; have n0_ := Aside0.mk (blk_below (g := gb124) (o := .cells #[.int .i64 a0_0, .int .i64 a0_1, .bool a0_2, .slice A0_3 l0_3.length c0_3, .bool a0_4, .slice A0_5 l0_5.length c0_5, .bool a0_6, .slice A0_7 l0_7.length c0_7, .bool a0_8, .slice A0_9 l0_9.length c0_9, .bool false, .int .i64 a0_11, .slice A0_12 l0_12.length c0_12, .int .i64 a0_13, .int .i64 a0_14] 37 (0, 0)) (by (with_reducible repeat (first | refine blk_drewN ?_ _ | refine blk_drew ?_ | refine blk_alloc ?_ _)); exact BK124.out) hb); have n1_ := Aside0.mk (blk_below (g := gb125) (o := .cells #[.int .i64 a1_0, .int .u32 a1_1, .int .u32 a1_2, .int .i64 a1_3, .int .i64 a1_4] 25 (0, 0)) (by (with_reducible repeat (first | refine blk_drewN ?_ _ | refine blk_drew ?_ | refine blk_alloc ?_ _)); exact BK125.out) hb); have n2_ := Aside0.mk (blk_below (g := gb126) (o := .cells #[.int .u32 x127000_15, .int .i64 x127001_15] 56 (0, 0)) (by (with_reducible repeat (first | refine blk_drewN ?_ _ | refine blk_drew ?_ | refine blk_alloc ?_ _)); exact BK126.out) hb); have n3_ := Aside0.mk (blk_below (g := gb127) (o := .cells #[.int .u32 x128000_15, .int .i64 x128001_15] 56 (0, 0)) (by (with_reducible repeat (first | refine blk_drewN ?_ _ | refine blk_drew ?_ | refine blk_alloc ?_ _)); exact BK127.out) hb); have n4_ := Aside0.mk (below_step (by repeat (first | (with_reducible first | exact HB.out | apply below_alloc | apply pw_below_drewN | apply below_drew1 | refine below_set ?_ GE124.out | refine below_set ?_ GE125.out | refine below_set ?_ GE126.out | refine below_set ?_ GE127.out) | exact HB.out)) hb); clear BK124; clear BK125; clear BK126; clear BK127; clear HB; have BK124 := n0_; have BK125 := n1_; have BK126 := n2_; have BK127 := n3_; have HB := n4_; clear n0_ n1_ n2_ n3_ n4_; (try clear hb); (try clear hb2); (try clear hk); (try clear hi); have hnb89 := NB124_125.out; have hnc89 := NB125_124.out; have hcz90_0 : w88.cell? ⟨gb124, 0, none⟩ = some (.int .i64 a0_0) := (blk_cell BK124.out 0).trans rfl; have hcz90_1 : w88.cell? ⟨gb124, 1, none⟩ = some (.int .i64 a0_1) := (blk_cell BK124.out 1).trans rfl; have hcz90_2 : w88.cell? ⟨gb124, 2, none⟩ = some (.bool a0_2) := (blk_cell BK124.out 2).trans rfl; have hcz90_3 : w88.cell? ⟨gb124, 3, none⟩ = some (.slice A0_3 l0_3.length c0_3) := (blk_cell BK124.out 3).trans rfl; have hcz90_4 : w88.cell? ⟨gb124, 4, none⟩ = some (.bool a0_4) := (blk_cell BK124.out 4).trans rfl; have hcz90_5 : w88.cell? ⟨gb124, 5, none⟩ = some (.slice A0_5 l0_5.length c0_5) := (blk_cell BK124.out 5).trans rfl; have hcz90_6 : w88.cell? ⟨gb124, 6, none⟩ = some (.bool a0_6) := (blk_cell BK124.out 6).trans rfl; have hcz90_7 : w88.cell? ⟨gb124, 7, none⟩ = some (.slice A0_7 l0_7.length c0_7) := (blk_cell BK124.out 7).trans rfl; have hcz90_8 : w88.cell? ⟨gb124, 8, none⟩ = some (.bool a0_8) := (blk_cell BK124.out 8).trans rfl; have hcz90_9 : w88.cell? ⟨gb124, 9, none⟩ = some (.slice A0_9 l0_9.length c0_9) := (blk_cell BK124.out 9).trans rfl; have hcz90_10 : w88.cell? ⟨gb124, 10, none⟩ = some (.bool false) := (blk_cell BK124.out 10).trans rfl; have hcz90_11 : w88.cell? ⟨gb124, 11, none⟩ = some (.int .i64 a0_11) := (blk_cell BK124.out 11).trans rfl; have hcz90_12 : w88.cell? ⟨gb124, 12, none⟩ = some (.slice A0_12 l0_12.length c0_12) := (blk_cell BK124.out 12).trans rfl; have hcz90_13 : w88.cell? ⟨gb124, 13, none⟩ = some (.int .i64 a0_13) := (blk_cell BK124.out 13).trans rfl; have hcz90_14 : w88.cell? ⟨gb124, 14, none⟩ = some (.int .i64 a0_14) := (blk_cell BK124.out 14).trans rfl; have hfz90_0 := blk_frozen BK124.out 0; have hfz90_1 := blk_frozen BK124.out 1; have hfz90_2 := blk_frozen BK124.out 2; have hfz90_3 := blk_frozen BK124.out 3; have hfz90_4 := blk_frozen BK124.out 4; have hfz90_5 := blk_frozen BK124.out 5; have hfz90_6 := blk_frozen BK124.out 6; have hfz90_7 := blk_frozen BK124.out 7; have hfz90_8 := blk_frozen BK124.out 8; have hfz90_9 := blk_frozen BK124.out 9; have hfz90_10 := blk_frozen BK124.out 10; have hfz90_11 := blk_frozen BK124.out 11; have hfz90_12 := blk_frozen BK124.out 12; have hfz90_13 := blk_frozen BK124.out 13; have hfz90_14 := blk_frozen BK124.out 14))
          go_meet
          case rel => exact ⟨_, (false), (by first | rfl | (simp; done) | (simp [*]; done)), H', ⟨by have := HJ3.out; have := HJ15.out; first | omega | exact Nat.le_refl _⟩, ⟨by (with_reducible repeat (first | refine blk_drewN ?_ _ | refine blk_drew ?_ | refine blk_alloc ?_ _)); exact BK124.out⟩, ⟨by (with_reducible repeat (first | refine blk_drewN ?_ _ | refine blk_drew ?_ | refine blk_alloc ?_ _)); exact BK125.out⟩, ⟨by (with_reducible repeat (first | refine blk_drewN ?_ _ | refine blk_drew ?_ | refine blk_alloc ?_ _)); exact BK126.out⟩, ⟨by (with_reducible repeat (first | refine blk_drewN ?_ _ | refine blk_drew ?_ | refine blk_alloc ?_ _)); exact BK127.out⟩, ⟨by repeat (first | (with_reducible first | exact HB.out | apply below_alloc | apply pw_below_drewN | apply below_drew1 | refine below_set ?_ GE124.out | refine below_set ?_ GE125.out | refine below_set ?_ GE126.out | refine below_set ?_ GE127.out) | exact HB.out)⟩⟩
       ·
        replace c36 := Bool.eq_false_iff.mpr c36
        subst c36
        have H1 : (if a0_10 = true then ((group_ends_sender.f kj15 a0_0 a0_1 a0_2 l0_3 a0_4 l0_5 a0_6 l0_7 a0_8 l0_9 a0_10 a0_11 l0_12 a0_13 a0_14 x128000_15 x128001_15).bind fun t132 => (if t132 = true then ((group_ends_receiver.f kj15 a0_0 a0_1 a0_2 l0_3 a0_4 l0_5 a0_6 l0_7 a0_8 l0_9 a0_10 a0_11 l0_12 a0_13 a0_14 x127000_15 x127001_15).bind fun t133 => (group_Fits.j2 kj15 a2 t133 a0_0 a0_1 a0_2 l0_3 a0_4 l0_5 a0_6 l0_7 a0_8 l0_9 a0_10 a0_11 l0_12 a0_13 a0_14)) else (group_Fits.j2 kj15 a2 false a0_0 a0_1 a0_2 l0_3 a0_4 l0_5 a0_6 l0_7 a0_8 l0_9 a0_10 a0_11 l0_12 a0_13 a0_14))) else (group_Fits.j2 kj15 a2 false a0_0 a0_1 a0_2 l0_3 a0_4 l0_5 a0_6 l0_7 a0_8 l0_9 a0_10 a0_11 l0_12 a0_13 a0_14)) = some r := by rw [if_neg (show ¬ (false = true) by decide)] at H; exact H
        clear H
        have H := H1
        clear H1
        by_cases c91 : a0_10 = true
        ·
         subst c91
         have H1 : ((group_ends_sender.f kj15 a0_0 a0_1 a0_2 l0_3 a0_4 l0_5 a0_6 l0_7 a0_8 l0_9 true a0_11 l0_12 a0_13 a0_14 x128000_15 x128001_15).bind fun t132 => (if t132 = true then ((group_ends_receiver.f kj15 a0_0 a0_1 a0_2 l0_3 a0_4 l0_5 a0_6 l0_7 a0_8 l0_9 true a0_11 l0_12 a0_13 a0_14 x127000_15 x127001_15).bind fun t133 => (group_Fits.j2 kj15 a2 t133 a0_0 a0_1 a0_2 l0_3 a0_4 l0_5 a0_6 l0_7 a0_8 l0_9 true a0_11 l0_12 a0_13 a0_14)) else (group_Fits.j2 kj15 a2 false a0_0 a0_1 a0_2 l0_3 a0_4 l0_5 a0_6 l0_7 a0_8 l0_9 true a0_11 l0_12 a0_13 a0_14))) = some r := by rw [if_pos rfl] at H; exact H
         clear H
         have H := H1
         clear H1
         replace H := Option.bind_eq_some_iff.mp H
         obtain ⟨t132, A920, H⟩ := H
         replace H : (if t132 = true then ((group_ends_receiver.f kj15 a0_0 a0_1 a0_2 l0_3 a0_4 l0_5 a0_6 l0_7 a0_8 l0_9 true a0_11 l0_12 a0_13 a0_14 x127000_15 x127001_15).bind fun t133 => (group_Fits.j2 kj15 a2 t133 a0_0 a0_1 a0_2 l0_3 a0_4 l0_5 a0_6 l0_7 a0_8 l0_9 true a0_11 l0_12 a0_13 a0_14)) else (group_Fits.j2 kj15 a2 false a0_0 a0_1 a0_2 l0_3 a0_4 l0_5 a0_6 l0_7 a0_8 l0_9 true a0_11 l0_12 a0_13 a0_14)) = some r := H
         have A92 := Aside0.mk A920
         clear A920
         by_cases c93 : t132 = true
         ·
          subst c93
          have H1 : ((group_ends_receiver.f kj15 a0_0 a0_1 a0_2 l0_3 a0_4 l0_5 a0_6 l0_7 a0_8 l0_9 true a0_11 l0_12 a0_13 a0_14 x127000_15 x127001_15).bind fun t133 => (group_Fits.j2 kj15 a2 t133 a0_0 a0_1 a0_2 l0_3 a0_4 l0_5 a0_6 l0_7 a0_8 l0_9 true a0_11 l0_12 a0_13 a0_14)) = some r := by rw [if_pos rfl] at H; exact H
          clear H
          have H := H1
          clear H1
          replace H := Option.bind_eq_some_iff.mp H
          obtain ⟨t133, A940, H⟩ := H
          replace H : (group_Fits.j2 kj15 a2 t133 a0_0 a0_1 a0_2 l0_3 a0_4 l0_5 a0_6 l0_7 a0_8 l0_9 true a0_11 l0_12 a0_13 a0_14) = some r := H
          have A94 := Aside0.mk A940
          clear A940
          have H' := Aside0.mk H
          clear H
          have hnb95 := NB126_124.out
          have hnc95 := NB124_126.out
          have hnb96 := NB126_125.out
          have hnc96 := NB125_126.out
          have hnb97 := NB126_127.out
          have hnc97 := NB127_126.out
          have hcz98_0 : w34.cell? ⟨gb126, 0, none⟩ = some (.int .u32 x127000_15) := (blk_cell BK126.out 0).trans rfl
          have hcz98_1 : w34.cell? ⟨gb126, 1, none⟩ = some (.int .i64 x127001_15) := (blk_cell BK126.out 1).trans rfl
          have hfz98_0 := blk_frozen BK126.out 0
          have hfz98_1 := blk_frozen BK126.out 1
          go_wp2_with (first | (go_at_call 17; (with_reducible refine (group_ends_sender.calls kj15 a0_0 a0_1 a0_2 _ _ l0_3 a0_4 _ _ l0_5 a0_6 _ _ l0_7 a0_8 _ _ l0_9 true a0_11 _ _ l0_12 a0_13 a0_14 x127000_15 x127001_15 false _ ?side1 ?side2 ?side3 ?side4 ?side5 ?side6 ?side7 ?side8 ?side9 ?side10 A35.out).mono ?_); (case side1 => repeat (first | exact (Kd.C_below HR0_3.out HB.out) | (with_reducible refine Kd.C_alloc ?_ _) | (with_reducible refine Kd.C_drewN ?_ _) | (with_reducible refine Kd.C_drew ?_))); (case side2 => exact HC0_3.out); (case side3 => repeat (first | exact (Kd.C_below HR0_5.out HB.out) | (with_reducible refine Kd.C_alloc ?_ _) | (with_reducible refine Kd.C_drewN ?_ _) | (with_reducible refine Kd.C_drew ?_))); (case side4 => exact HC0_5.out); (case side5 => repeat (first | exact (Kd.C_below HR0_7.out HB.out) | (with_reducible refine Kd.C_alloc ?_ _) | (with_reducible refine Kd.C_drewN ?_ _) | (with_reducible refine Kd.C_drew ?_))); (case side6 => exact HC0_7.out); (case side7 => repeat (first | exact (Kd.C_below HR0_9.out HB.out) | (with_reducible refine Kd.C_alloc ?_ _) | (with_reducible refine Kd.C_drewN ?_ _) | (with_reducible refine Kd.C_drew ?_))); (case side8 => exact HC0_9.out); (case side9 => repeat (first | exact (Kd.C_below HR0_12.out HB.out) | (with_reducible refine Kd.C_alloc ?_ _) | (with_reducible refine Kd.C_drewN ?_ _) | (with_reducible refine Kd.C_drew ?_))); (case side10 => exact HC0_12.out); rintro e w99 ⟨rfl, hb⟩; skip; have n0_ := Aside0.mk (blk_below (g := gb124) (o := .cells #[.int .i64 a0_0, .int .i64 a0_1, .bool a0_2, .slice A0_3 l0_3.length c0_3, .bool a0_4, .slice A0_5 l0_5.length c0_5, .bool a0_6, .slice A0_7 l0_7.length c0_7, .bool a0_8, .slice A0_9 l0_9.length c0_9, .bool true, .int .i64 a0_11, .slice A0_12 l0_12.length c0_12, .int .i64 a0_13, .int .i64 a0_14] 37 (0, 0)) (by (with_reducible repeat (first | refine blk_drewN ?_ _ | refine blk_drew ?_ | refine blk_alloc ?_ _)); exact BK124.out) hb); have n1_ := Aside0.mk (blk_below (g := gb125) (o := .cells #[.int .i64 a1_0, .int .u32 a1_1, .int .u32 a1_2, .int .i64 a1_3, .int .i64 a1_4] 25 (0, 0)) (by (with_reducible repeat (first | refine blk_drewN ?_ _ | refine blk_drew ?_ | refine blk_alloc ?_ _)); exact BK125.out) hb); have n2_ := Aside0.mk (blk_below (g := gb126) (o := .cells #[.int .u32 x127000_15, .int .i64 x127001_15] 56 (0, 0)) (by (with_reducible repeat (first | refine blk_drewN ?_ _ | refine blk_drew ?_ | refine blk_alloc ?_ _)); exact BK126.out) hb); have n3_ := Aside0.mk (blk_below (g := gb127) (o := .cells #[.int .u32 x128000_15, .int .i64 x128001_15] 56 (0, 0)) (by (with_reducible repeat (first | refine blk_drewN ?_ _ | refine blk_drew ?_ | refine blk_alloc ?_ _)); exact BK127.out) hb); have n4_ := Aside0.mk (below_step (by repeat (first | (with_reducible first | exact HB.out | apply below_alloc | apply pw_below_drewN | apply below_drew1 | refine below_set ?_ GE124.out | refine below_set ?_ GE125.out | refine below_set ?_ GE126.out | refine below_set ?_ GE127.out) | exact HB.out)) hb); clear BK124; clear BK125; clear BK126; clear BK127; clear HB; have BK124 := n0_; have BK125 := n1_; have BK126 := n2_; have BK127 := n3_; have HB := n4_; clear n0_ n1_ n2_ n3_ n4_; (try clear hb); (try clear hb2); (try clear hk); (try clear hi); have hnb100 := NB124_125.out; have hnc100 := NB125_124.out; have hnb101 := NB124_127.out; have hnc101 := NB127_124.out; have hcz102_0 : w99.cell? ⟨gb124, 0, none⟩ = some (.int .i64 a0_0) := (blk_cell BK124.out 0).trans rfl; have hcz102_1 : w99.cell? ⟨gb124, 1, none⟩ = some (.int .i64 a0_1) := (blk_cell BK124.out 1).trans rfl; have hcz102_2 : w99.cell? ⟨gb124, 2, none⟩ = some (.bool a0_2) := (blk_cell BK124.out 2).trans rfl; have hcz102_3 : w99.cell? ⟨gb124, 3, none⟩ = some (.slice A0_3 l0_3.length c0_3) := (blk_cell BK124.out 3).trans rfl; have hcz102_4 : w99.cell? ⟨gb124, 4, none⟩ = some (.bool a0_4) := (blk_cell BK124.out 4).trans rfl; have hcz102_5 : w99.cell? ⟨gb124, 5, none⟩ = some (.slice A0_5 l0_5.length c0_5) := (blk_cell BK124.out 5).trans rfl; have hcz102_6 : w99.cell? ⟨gb124, 6, none⟩ = some (.bool a0_6) := (blk_cell BK124.out 6).trans rfl; have hcz102_7 : w99.cell? ⟨gb124, 7, none⟩ = some (.slice A0_7 l0_7.length c0_7) := (blk_cell BK124.out 7).trans rfl; have hcz102_8 : w99.cell? ⟨gb124, 8, none⟩ = some (.bool a0_8) := (blk_cell BK124.out 8).trans rfl; have hcz102_9 : w99.cell? ⟨gb124, 9, none⟩ = some (.slice A0_9 l0_9.length c0_9) := (blk_cell BK124.out 9).trans rfl; have hcz102_10 : w99.cell? ⟨gb124, 10, none⟩ = some (.bool true) := (blk_cell BK124.out 10).trans rfl; have hcz102_11 : w99.cell? ⟨gb124, 11, none⟩ = some (.int .i64 a0_11) := (blk_cell BK124.out 11).trans rfl; have hcz102_12 : w99.cell? ⟨gb124, 12, none⟩ = some (.slice A0_12 l0_12.length c0_12) := (blk_cell BK124.out 12).trans rfl; have hcz102_13 : w99.cell? ⟨gb124, 13, none⟩ = some (.int .i64 a0_13) := (blk_cell BK124.out 13).trans rfl; have hcz102_14 : w99.cell? ⟨gb124, 14, none⟩ = some (.int .i64 a0_14) := (blk_cell BK124.out 14).trans rfl; have hfz102_0 := blk_frozen BK124.out 0; have hfz102_1 := blk_frozen BK124.out 1; have hfz102_2 := blk_frozen BK124.out 2; have hfz102_3 := blk_frozen BK124.out 3; have hfz102_4 := blk_frozen BK124.out 4; have hfz102_5 := blk_frozen BK124.out 5; have hfz102_6 := blk_frozen BK124.out 6; have hfz102_7 := blk_frozen BK124.out 7; have hfz102_8 := blk_frozen BK124.out 8; have hfz102_9 := blk_frozen BK124.out 9; have hfz102_10 := blk_frozen BK124.out 10; have hfz102_11 := blk_frozen BK124.out 11; have hfz102_12 := blk_frozen BK124.out 12; have hfz102_13 := blk_frozen BK124.out 13; have hfz102_14 := blk_frozen BK124.out 14; have hnb103 := NB127_125.out; have hnc103 := NB125_127.out; have hcz104_0 : w99.cell? ⟨gb127, 0, none⟩ = some (.int .u32 x128000_15) := (blk_cell BK127.out 0).trans rfl; have hcz104_1 : w99.cell? ⟨gb127, 1, none⟩ = some (.int .i64 x128001_15) := (blk_cell BK127.out 1).trans rfl; have hfz104_0 := blk_frozen BK127.out 0; have hfz104_1 := blk_frozen BK127.out 1) | (go_at_call 17; (with_reducible refine (group_ends_sender.calls kj15 a0_0 a0_1 a0_2 _ _ l0_3 a0_4 _ _ l0_5 a0_6 _ _ l0_7 a0_8 _ _ l0_9 true a0_11 _ _ l0_12 a0_13 a0_14 x128000_15 x128001_15 true _ ?side1 ?side2 ?side3 ?side4 ?side5 ?side6 ?side7 ?side8 ?side9 ?side10 A92.out).mono ?_); (case side1 => repeat (first | exact (Kd.C_below HR0_3.out HB.out) | (with_reducible refine Kd.C_alloc ?_ _) | (with_reducible refine Kd.C_drewN ?_ _) | (with_reducible refine Kd.C_drew ?_))); (case side2 => exact HC0_3.out); (case side3 => repeat (first | exact (Kd.C_below HR0_5.out HB.out) | (with_reducible refine Kd.C_alloc ?_ _) | (with_reducible refine Kd.C_drewN ?_ _) | (with_reducible refine Kd.C_drew ?_))); (case side4 => exact HC0_5.out); (case side5 => repeat (first | exact (Kd.C_below HR0_7.out HB.out) | (with_reducible refine Kd.C_alloc ?_ _) | (with_reducible refine Kd.C_drewN ?_ _) | (with_reducible refine Kd.C_drew ?_))); (case side6 => exact HC0_7.out); (case side7 => repeat (first | exact (Kd.C_below HR0_9.out HB.out) | (with_reducible refine Kd.C_alloc ?_ _) | (with_reducible refine Kd.C_drewN ?_ _) | (with_reducible refine Kd.C_drew ?_))); (case side8 => exact HC0_9.out); (case side9 => repeat (first | exact (Kd.C_below HR0_12.out HB.out) | (with_reducible refine Kd.C_alloc ?_ _) | (with_reducible refine Kd.C_drewN ?_ _) | (with_reducible refine Kd.C_drew ?_))); (case side10 => exact HC0_12.out); rintro e w105 ⟨rfl, hb⟩; have n0_ := Aside0.mk (blk_below (g := gb124) (o := .cells #[.int .i64 a0_0, .int .i64 a0_1, .bool a0_2, .slice A0_3 l0_3.length c0_3, .bool a0_4, .slice A0_5 l0_5.length c0_5, .bool a0_6, .slice A0_7 l0_7.length c0_7, .bool a0_8, .slice A0_9 l0_9.length c0_9, .bool true, .int .i64 a0_11, .slice A0_12 l0_12.length c0_12, .int .i64 a0_13, .int .i64 a0_14] 37 (0, 0)) (by (with_reducible repeat (first | refine blk_drewN ?_ _ | refine blk_drew ?_ | refine blk_alloc ?_ _)); exact BK124.out) hb); have n1_ := Aside0.mk (blk_below (g := gb125) (o := .cells #[.int .i64 a1_0, .int .u32 a1_1, .int .u32 a1_2, .int .i64 a1_3, .int .i64 a1_4] 25 (0, 0)) (by (with_reducible repeat (first | refine blk_drewN ?_ _ | refine blk_drew ?_ | refine blk_alloc ?_ _)); exact BK125.out) hb); have n2_ := Aside0.mk (blk_below (g := gb126) (o := .cells #[.int .u32 x127000_15, .int .i64 x127001_15] 56 (0, 0)) (by (with_reducible repeat (first | refine blk_drewN ?_ _ | refine blk_drew ?_ | refine blk_alloc ?_ _)); exact BK126.out) hb); have n3_ := Aside0.mk (blk_below (g := gb127) (o := .cells #[.int .u32 x128000_15, .int .i64 x128001_15] 56 (0, 0)) (by (with_reducible repeat (first | refine blk_drewN ?_ _ | refine blk_drew ?_ | refine blk_alloc ?_ _)); exact BK127.out) hb); have n4_ := Aside0.mk (below_step (by repeat (first | (with_reducible first | exact HB.out | apply below_alloc | apply pw_below_drewN | apply below_drew1 | refine below_set ?_ GE124.out | refine below_set ?_ GE125.out | refine below_set ?_ GE126.out | refine below_set ?_ GE127.out) | exact HB.out)) hb); clear BK124; clear BK125; clear BK126; clear BK127; clear HB; have BK124 := n0_; have BK125 := n1_; have BK126 := n2_; have BK127 := n3_; have HB := n4_; clear n0_ n1_ n2_ n3_ n4_; (try clear hb); (try clear hb2); (try clear hk); (try clear hi); have hcz106_0 : w105.cell? ⟨gb126, 0, none⟩ = some (.int .u32 x127000_15) := (blk_cell BK126.out 0).trans rfl; have hcz106_1 : w105.cell? ⟨gb126, 1, none⟩ = some (.int .i64 x127001_15) := (blk_cell BK126.out 1).trans rfl; have hfz106_0 := blk_frozen BK126.out 0; have hfz106_1 := blk_frozen BK126.out 1) | (go_at_call 18; (with_reducible refine (group_ends_receiver.calls kj15 a0_0 a0_1 a0_2 _ _ l0_3 a0_4 _ _ l0_5 a0_6 _ _ l0_7 a0_8 _ _ l0_9 true a0_11 _ _ l0_12 a0_13 a0_14 x127000_15 x127001_15 t133 _ ?side1 ?side2 ?side3 ?side4 ?side5 ?side6 ?side7 ?side8 ?side9 ?side10 A94.out).mono ?_); (case side1 => repeat (first | exact (Kd.C_below HR0_3.out HB.out) | (with_reducible refine Kd.C_alloc ?_ _) | (with_reducible refine Kd.C_drewN ?_ _) | (with_reducible refine Kd.C_drew ?_))); (case side2 => exact HC0_3.out); (case side3 => repeat (first | exact (Kd.C_below HR0_5.out HB.out) | (with_reducible refine Kd.C_alloc ?_ _) | (with_reducible refine Kd.C_drewN ?_ _) | (with_reducible refine Kd.C_drew ?_))); (case side4 => exact HC0_5.out); (case side5 => repeat (first | exact (Kd.C_below HR0_7.out HB.out) | (with_reducible refine Kd.C_alloc ?_ _) | (with_reducible refine Kd.C_drewN ?_ _) | (with_reducible refine Kd.C_drew ?_))); (case side6 => exact HC0_7.out); (case side7 => repeat (first | exact (Kd.C_below HR0_9.out HB.out) | (with_reducible refine Kd.C_alloc ?_ _) | (with_reducible refine Kd.C_drewN ?_ _) | (with_reducible refine Kd.C_drew ?_))); (case side8 => exact HC0_9.out); (case side9 => repeat (first | exact (Kd.C_below HR0_12.out HB.out) | (with_reducible refine Kd.C_alloc ?_ _) | (with_reducible refine Kd.C_drewN ?_ _) | (with_reducible refine Kd.C_drew ?_))); (case side10 => exact HC0_12.out); rintro e w107 ⟨rfl, hb⟩; have n0_ := Aside0.mk (blk_below (g := gb124) (o := .cells #[.int .i64 a0_0, .int .i64 a0_1, .bool a0_2, .slice A0_3 l0_3.length c0_3, .bool a0_4, .slice A0_5 l0_5.length c0_5, .bool a0_6, .slice A0_7 l0_7.length c0_7, .bool a0_8, .slice A0_9 l0_9.length c0_9, .bool true, .int .i64 a0_11, .slice A0_12 l0_12.length c0_12, .int .i64 a0_13, .int .i64 a0_14] 37 (0, 0)) (by (with_reducible repeat (first | refine blk_drewN ?_ _ | refine blk_drew ?_ | refine blk_alloc ?_ _)); exact BK124.out) hb); have n1_ := Aside0.mk (blk_below (g := gb125) (o := .cells #[.int .i64 a1_0, .int .u32 a1_1, .int .u32 a1_2, .int .i64 a1_3, .int .i64 a1_4] 25 (0, 0)) (by (with_reducible repeat (first | refine blk_drewN ?_ _ | refine blk_drew ?_ | refine blk_alloc ?_ _)); exact BK125.out) hb); have n2_ := Aside0.mk (blk_below (g := gb126) (o := .cells #[.int .u32 x127000_15, .int .i64 x127001_15] 56 (0, 0)) (by (with_reducible repeat (first | refine blk_drewN ?_ _ | refine blk_drew ?_ | refine blk_alloc ?_ _)); exact BK126.out) hb); have n3_ := Aside0.mk (blk_below (g := gb127) (o := .cells #[.int .u32 x128000_15, .int .i64 x128001_15] 56 (0, 0)) (by (with_reducible repeat (first | refine blk_drewN ?_ _ | refine blk_drew ?_ | refine blk_alloc ?_ _)); exact BK127.out) hb); have n4_ := Aside0.mk (below_step (by repeat (first | (with_reducible first | exact HB.out | apply below_alloc | apply pw_below_drewN | apply below_drew1 | refine below_set ?_ GE124.out | refine below_set ?_ GE125.out | refine below_set ?_ GE126.out | refine below_set ?_ GE127.out) | exact HB.out)) hb); clear BK124; clear BK125; clear BK126; clear BK127; clear HB; have BK124 := n0_; have BK125 := n1_; have BK126 := n2_; have BK127 := n3_; have HB := n4_; clear n0_ n1_ n2_ n3_ n4_; (try clear hb); (try clear hb2); (try clear hk); (try clear hi)))
          go_meet
          case rel => exact ⟨_, (t133), (by first | rfl | (simp; done) | (simp [*]; done)), H', ⟨by have := HJ3.out; have := HJ15.out; first | omega | exact Nat.le_refl _⟩, ⟨by (with_reducible repeat (first | refine blk_drewN ?_ _ | refine blk_drew ?_ | refine blk_alloc ?_ _)); exact BK124.out⟩, ⟨by (with_reducible repeat (first | refine blk_drewN ?_ _ | refine blk_drew ?_ | refine blk_alloc ?_ _)); exact BK125.out⟩, ⟨by (with_reducible repeat (first | refine blk_drewN ?_ _ | refine blk_drew ?_ | refine blk_alloc ?_ _)); exact BK126.out⟩, ⟨by (with_reducible repeat (first | refine blk_drewN ?_ _ | refine blk_drew ?_ | refine blk_alloc ?_ _)); exact BK127.out⟩, ⟨by repeat (first | (with_reducible first | exact HB.out | apply below_alloc | apply pw_below_drewN | apply below_drew1 | refine below_set ?_ GE124.out | refine below_set ?_ GE125.out | refine below_set ?_ GE126.out | refine below_set ?_ GE127.out) | exact HB.out)⟩⟩
         ·
          replace c93 := Bool.eq_false_iff.mpr c93
          subst c93
          have H1 : (group_Fits.j2 kj15 a2 false a0_0 a0_1 a0_2 l0_3 a0_4 l0_5 a0_6 l0_7 a0_8 l0_9 true a0_11 l0_12 a0_13 a0_14) = some r := by rw [if_neg (show ¬ (false = true) by decide)] at H; exact H
          clear H
          have H := H1
          clear H1
          have H' := Aside0.mk H
          clear H
          have hnb108 := NB126_124.out
          have hnc108 := NB124_126.out
          have hnb109 := NB126_125.out
          have hnc109 := NB125_126.out
          have hnb110 := NB126_127.out
          have hnc110 := NB127_126.out
          have hcz111_0 : w34.cell? ⟨gb126, 0, none⟩ = some (.int .u32 x127000_15) := (blk_cell BK126.out 0).trans rfl
          have hcz111_1 : w34.cell? ⟨gb126, 1, none⟩ = some (.int .i64 x127001_15) := (blk_cell BK126.out 1).trans rfl
          have hfz111_0 := blk_frozen BK126.out 0
          have hfz111_1 := blk_frozen BK126.out 1
          go_wp2_with (first | (go_at_call 17; (with_reducible refine (group_ends_sender.calls kj15 a0_0 a0_1 a0_2 _ _ l0_3 a0_4 _ _ l0_5 a0_6 _ _ l0_7 a0_8 _ _ l0_9 true a0_11 _ _ l0_12 a0_13 a0_14 x127000_15 x127001_15 false _ ?side1 ?side2 ?side3 ?side4 ?side5 ?side6 ?side7 ?side8 ?side9 ?side10 A35.out).mono ?_); (case side1 => repeat (first | exact (Kd.C_below HR0_3.out HB.out) | (with_reducible refine Kd.C_alloc ?_ _) | (with_reducible refine Kd.C_drewN ?_ _) | (with_reducible refine Kd.C_drew ?_))); (case side2 => exact HC0_3.out); (case side3 => repeat (first | exact (Kd.C_below HR0_5.out HB.out) | (with_reducible refine Kd.C_alloc ?_ _) | (with_reducible refine Kd.C_drewN ?_ _) | (with_reducible refine Kd.C_drew ?_))); (case side4 => exact HC0_5.out); (case side5 => repeat (first | exact (Kd.C_below HR0_7.out HB.out) | (with_reducible refine Kd.C_alloc ?_ _) | (with_reducible refine Kd.C_drewN ?_ _) | (with_reducible refine Kd.C_drew ?_))); (case side6 => exact HC0_7.out); (case side7 => repeat (first | exact (Kd.C_below HR0_9.out HB.out) | (with_reducible refine Kd.C_alloc ?_ _) | (with_reducible refine Kd.C_drewN ?_ _) | (with_reducible refine Kd.C_drew ?_))); (case side8 => exact HC0_9.out); (case side9 => repeat (first | exact (Kd.C_below HR0_12.out HB.out) | (with_reducible refine Kd.C_alloc ?_ _) | (with_reducible refine Kd.C_drewN ?_ _) | (with_reducible refine Kd.C_drew ?_))); (case side10 => exact HC0_12.out); rintro e w112 ⟨rfl, hb⟩; skip; have n0_ := Aside0.mk (blk_below (g := gb124) (o := .cells #[.int .i64 a0_0, .int .i64 a0_1, .bool a0_2, .slice A0_3 l0_3.length c0_3, .bool a0_4, .slice A0_5 l0_5.length c0_5, .bool a0_6, .slice A0_7 l0_7.length c0_7, .bool a0_8, .slice A0_9 l0_9.length c0_9, .bool true, .int .i64 a0_11, .slice A0_12 l0_12.length c0_12, .int .i64 a0_13, .int .i64 a0_14] 37 (0, 0)) (by (with_reducible repeat (first | refine blk_drewN ?_ _ | refine blk_drew ?_ | refine blk_alloc ?_ _)); exact BK124.out) hb); have n1_ := Aside0.mk (blk_below (g := gb125) (o := .cells #[.int .i64 a1_0, .int .u32 a1_1, .int .u32 a1_2, .int .i64 a1_3, .int .i64 a1_4] 25 (0, 0)) (by (with_reducible repeat (first | refine blk_drewN ?_ _ | refine blk_drew ?_ | refine blk_alloc ?_ _)); exact BK125.out) hb); have n2_ := Aside0.mk (blk_below (g := gb126) (o := .cells #[.int .u32 x127000_15, .int .i64 x127001_15] 56 (0, 0)) (by (with_reducible repeat (first | refine blk_drewN ?_ _ | refine blk_drew ?_ | refine blk_alloc ?_ _)); exact BK126.out) hb); have n3_ := Aside0.mk (blk_below (g := gb127) (o := .cells #[.int .u32 x128000_15, .int .i64 x128001_15] 56 (0, 0)) (by (with_reducible repeat (first | refine blk_drewN ?_ _ | refine blk_drew ?_ | refine blk_alloc ?_ _)); exact BK127.out) hb); have n4_ := Aside0.mk (below_step (by repeat (first | (with_reducible first | exact HB.out | apply below_alloc | apply pw_below_drewN | apply below_drew1 | refine below_set ?_ GE124.out | refine below_set ?_ GE125.out | refine below_set ?_ GE126.out | refine below_set ?_ GE127.out) | exact HB.out)) hb); clear BK124; clear BK125; clear BK126; clear BK127; clear HB; have BK124 := n0_; have BK125 := n1_; have BK126 := n2_; have BK127 := n3_; have HB := n4_; clear n0_ n1_ n2_ n3_ n4_; (try clear hb); (try clear hb2); (try clear hk); (try clear hi); have hnb113 := NB124_125.out; have hnc113 := NB125_124.out; have hnb114 := NB124_127.out; have hnc114 := NB127_124.out; have hcz115_0 : w112.cell? ⟨gb124, 0, none⟩ = some (.int .i64 a0_0) := (blk_cell BK124.out 0).trans rfl; have hcz115_1 : w112.cell? ⟨gb124, 1, none⟩ = some (.int .i64 a0_1) := (blk_cell BK124.out 1).trans rfl; have hcz115_2 : w112.cell? ⟨gb124, 2, none⟩ = some (.bool a0_2) := (blk_cell BK124.out 2).trans rfl; have hcz115_3 : w112.cell? ⟨gb124, 3, none⟩ = some (.slice A0_3 l0_3.length c0_3) := (blk_cell BK124.out 3).trans rfl; have hcz115_4 : w112.cell? ⟨gb124, 4, none⟩ = some (.bool a0_4) := (blk_cell BK124.out 4).trans rfl; have hcz115_5 : w112.cell? ⟨gb124, 5, none⟩ = some (.slice A0_5 l0_5.length c0_5) := (blk_cell BK124.out 5).trans rfl; have hcz115_6 : w112.cell? ⟨gb124, 6, none⟩ = some (.bool a0_6) := (blk_cell BK124.out 6).trans rfl; have hcz115_7 : w112.cell? ⟨gb124, 7, none⟩ = some (.slice A0_7 l0_7.length c0_7) := (blk_cell BK124.out 7).trans rfl; have hcz115_8 : w112.cell? ⟨gb124, 8, none⟩ = some (.bool a0_8) := (blk_cell BK124.out 8).trans rfl; have hcz115_9 : w112.cell? ⟨gb124, 9, none⟩ = some (.slice A0_9 l0_9.length c0_9) := (blk_cell BK124.out 9).trans rfl; have hcz115_10 : w112.cell? ⟨gb124, 10, none⟩ = some (.bool true) := (blk_cell BK124.out 10).trans rfl; have hcz115_11 : w112.cell? ⟨gb124, 11, none⟩ = some (.int .i64 a0_11) := (blk_cell BK124.out 11).trans rfl; have hcz115_12 : w112.cell? ⟨gb124, 12, none⟩ = some (.slice A0_12 l0_12.length c0_12) := (blk_cell BK124.out 12).trans rfl; have hcz115_13 : w112.cell? ⟨gb124, 13, none⟩ = some (.int .i64 a0_13) := (blk_cell BK124.out 13).trans rfl; have hcz115_14 : w112.cell? ⟨gb124, 14, none⟩ = some (.int .i64 a0_14) := (blk_cell BK124.out 14).trans rfl; have hfz115_0 := blk_frozen BK124.out 0; have hfz115_1 := blk_frozen BK124.out 1; have hfz115_2 := blk_frozen BK124.out 2; have hfz115_3 := blk_frozen BK124.out 3; have hfz115_4 := blk_frozen BK124.out 4; have hfz115_5 := blk_frozen BK124.out 5; have hfz115_6 := blk_frozen BK124.out 6; have hfz115_7 := blk_frozen BK124.out 7; have hfz115_8 := blk_frozen BK124.out 8; have hfz115_9 := blk_frozen BK124.out 9; have hfz115_10 := blk_frozen BK124.out 10; have hfz115_11 := blk_frozen BK124.out 11; have hfz115_12 := blk_frozen BK124.out 12; have hfz115_13 := blk_frozen BK124.out 13; have hfz115_14 := blk_frozen BK124.out 14; have hnb116 := NB127_125.out; have hnc116 := NB125_127.out; have hcz117_0 : w112.cell? ⟨gb127, 0, none⟩ = some (.int .u32 x128000_15) := (blk_cell BK127.out 0).trans rfl; have hcz117_1 : w112.cell? ⟨gb127, 1, none⟩ = some (.int .i64 x128001_15) := (blk_cell BK127.out 1).trans rfl; have hfz117_0 := blk_frozen BK127.out 0; have hfz117_1 := blk_frozen BK127.out 1) | (go_at_call 17; (with_reducible refine (group_ends_sender.calls kj15 a0_0 a0_1 a0_2 _ _ l0_3 a0_4 _ _ l0_5 a0_6 _ _ l0_7 a0_8 _ _ l0_9 true a0_11 _ _ l0_12 a0_13 a0_14 x128000_15 x128001_15 false _ ?side1 ?side2 ?side3 ?side4 ?side5 ?side6 ?side7 ?side8 ?side9 ?side10 A92.out).mono ?_); (case side1 => repeat (first | exact (Kd.C_below HR0_3.out HB.out) | (with_reducible refine Kd.C_alloc ?_ _) | (with_reducible refine Kd.C_drewN ?_ _) | (with_reducible refine Kd.C_drew ?_))); (case side2 => exact HC0_3.out); (case side3 => repeat (first | exact (Kd.C_below HR0_5.out HB.out) | (with_reducible refine Kd.C_alloc ?_ _) | (with_reducible refine Kd.C_drewN ?_ _) | (with_reducible refine Kd.C_drew ?_))); (case side4 => exact HC0_5.out); (case side5 => repeat (first | exact (Kd.C_below HR0_7.out HB.out) | (with_reducible refine Kd.C_alloc ?_ _) | (with_reducible refine Kd.C_drewN ?_ _) | (with_reducible refine Kd.C_drew ?_))); (case side6 => exact HC0_7.out); (case side7 => repeat (first | exact (Kd.C_below HR0_9.out HB.out) | (with_reducible refine Kd.C_alloc ?_ _) | (with_reducible refine Kd.C_drewN ?_ _) | (with_reducible refine Kd.C_drew ?_))); (case side8 => exact HC0_9.out); (case side9 => repeat (first | exact (Kd.C_below HR0_12.out HB.out) | (with_reducible refine Kd.C_alloc ?_ _) | (with_reducible refine Kd.C_drewN ?_ _) | (with_reducible refine Kd.C_drew ?_))); (case side10 => exact HC0_12.out); rintro e w118 ⟨rfl, hb⟩; have n0_ := Aside0.mk (blk_below (g := gb124) (o := .cells #[.int .i64 a0_0, .int .i64 a0_1, .bool a0_2, .slice A0_3 l0_3.length c0_3, .bool a0_4, .slice A0_5 l0_5.length c0_5, .bool a0_6, .slice A0_7 l0_7.length c0_7, .bool a0_8, .slice A0_9 l0_9.length c0_9, .bool true, .int .i64 a0_11, .slice A0_12 l0_12.length c0_12, .int .i64 a0_13, .int .i64 a0_14] 37 (0, 0)) (by (with_reducible repeat (first | refine blk_drewN ?_ _ | refine blk_drew ?_ | refine blk_alloc ?_ _)); exact BK124.out) hb); have n1_ := Aside0.mk (blk_below (g := gb125) (o := .cells #[.int .i64 a1_0, .int .u32 a1_1, .int .u32 a1_2, .int .i64 a1_3, .int .i64 a1_4] 25 (0, 0)) (by (with_reducible repeat (first | refine blk_drewN ?_ _ | refine blk_drew ?_ | refine blk_alloc ?_ _)); exact BK125.out) hb); have n2_ := Aside0.mk (blk_below (g := gb126) (o := .cells #[.int .u32 x127000_15, .int .i64 x127001_15] 56 (0, 0)) (by (with_reducible repeat (first | refine blk_drewN ?_ _ | refine blk_drew ?_ | refine blk_alloc ?_ _)); exact BK126.out) hb); have n3_ := Aside0.mk (blk_below (g := gb127) (o := .cells #[.int .u32 x128000_15, .int .i64 x128001_15] 56 (0, 0)) (by (with_reducible repeat (first | refine blk_drewN ?_ _ | refine blk_drew ?_ | refine blk_alloc ?_ _)); exact BK127.out) hb); have n4_ := Aside0.mk (below_step (by repeat (first | (with_reducible first | exact HB.out | apply below_alloc | apply pw_below_drewN | apply below_drew1 | refine below_set ?_ GE124.out | refine below_set ?_ GE125.out | refine below_set ?_ GE126.out | refine below_set ?_ GE127.out) | exact HB.out)) hb); clear BK124; clear BK125; clear BK126; clear BK127; clear HB; have BK124 := n0_; have BK125 := n1_; have BK126 := n2_; have BK127 := n3_; have HB := n4_; clear n0_ n1_ n2_ n3_ n4_; (try clear hb); (try clear hb2); (try clear hk); (try clear hi)))
          go_meet
          case rel => exact ⟨_, (false), (by first | rfl | (simp; done) | (simp [*]; done)), H', ⟨by have := HJ3.out; have := HJ15.out; first | omega | exact Nat.le_refl _⟩, ⟨by (with_reducible repeat (first | refine blk_drewN ?_ _ | refine blk_drew ?_ | refine blk_alloc ?_ _)); exact BK124.out⟩, ⟨by (with_reducible repeat (first | refine blk_drewN ?_ _ | refine blk_drew ?_ | refine blk_alloc ?_ _)); exact BK125.out⟩, ⟨by (with_reducible repeat (first | refine blk_drewN ?_ _ | refine blk_drew ?_ | refine blk_alloc ?_ _)); exact BK126.out⟩, ⟨by (with_reducible repeat (first | refine blk_drewN ?_ _ | refine blk_drew ?_ | refine blk_alloc ?_ _)); exact BK127.out⟩, ⟨by repeat (first | (with_reducible first | exact HB.out | apply below_alloc | apply pw_below_drewN | apply below_drew1 | refine below_set ?_ GE124.out | refine below_set ?_ GE125.out | refine below_set ?_ GE126.out | refine below_set ?_ GE127.out) | exact HB.out)⟩⟩
        ·
         replace c91 := Bool.eq_false_iff.mpr c91
         subst c91
         have H1 : (group_Fits.j2 kj15 a2 false a0_0 a0_1 a0_2 l0_3 a0_4 l0_5 a0_6 l0_7 a0_8 l0_9 false a0_11 l0_12 a0_13 a0_14) = some r := by rw [if_neg (show ¬ (false = true) by decide)] at H; exact H
         clear H
         have H := H1
         clear H1
         have H' := Aside0.mk H
         clear H
         have hnb119 := NB126_124.out
         have hnc119 := NB124_126.out
         have hnb120 := NB126_125.out
         have hnc120 := NB125_126.out
         have hnb121 := NB126_127.out
         have hnc121 := NB127_126.out
         have hcz122_0 : w34.cell? ⟨gb126, 0, none⟩ = some (.int .u32 x127000_15) := (blk_cell BK126.out 0).trans rfl
         have hcz122_1 : w34.cell? ⟨gb126, 1, none⟩ = some (.int .i64 x127001_15) := (blk_cell BK126.out 1).trans rfl
         have hfz122_0 := blk_frozen BK126.out 0
         have hfz122_1 := blk_frozen BK126.out 1
         go_wp2_with (first | (go_at_call 17; (with_reducible refine (group_ends_sender.calls kj15 a0_0 a0_1 a0_2 _ _ l0_3 a0_4 _ _ l0_5 a0_6 _ _ l0_7 a0_8 _ _ l0_9 false a0_11 _ _ l0_12 a0_13 a0_14 x127000_15 x127001_15 false _ ?side1 ?side2 ?side3 ?side4 ?side5 ?side6 ?side7 ?side8 ?side9 ?side10 A35.out).mono ?_); (case side1 => repeat (first | exact (Kd.C_below HR0_3.out HB.out) | (with_reducible refine Kd.C_alloc ?_ _) | (with_reducible refine Kd.C_drewN ?_ _) | (with_reducible refine Kd.C_drew ?_))); (case side2 => exact HC0_3.out); (case side3 => repeat (first | exact (Kd.C_below HR0_5.out HB.out) | (with_reducible refine Kd.C_alloc ?_ _) | (with_reducible refine Kd.C_drewN ?_ _) | (with_reducible refine Kd.C_drew ?_))); (case side4 => exact HC0_5.out); (case side5 => repeat (first | exact (Kd.C_below HR0_7.out HB.out) | (with_reducible refine Kd.C_alloc ?_ _) | (with_reducible refine Kd.C_drewN ?_ _) | (with_reducible refine Kd.C_drew ?_))); (case side6 => exact HC0_7.out); (case side7 => repeat (first | exact (Kd.C_below HR0_9.out HB.out) | (with_reducible refine Kd.C_alloc ?_ _) | (with_reducible refine Kd.C_drewN ?_ _) | (with_reducible refine Kd.C_drew ?_))); (case side8 => exact HC0_9.out); (case side9 => repeat (first | exact (Kd.C_below HR0_12.out HB.out) | (with_reducible refine Kd.C_alloc ?_ _) | (with_reducible refine Kd.C_drewN ?_ _) | (with_reducible refine Kd.C_drew ?_))); (case side10 => exact HC0_12.out); rintro e w123 ⟨rfl, hb⟩; skip; have n0_ := Aside0.mk (blk_below (g := gb124) (o := .cells #[.int .i64 a0_0, .int .i64 a0_1, .bool a0_2, .slice A0_3 l0_3.length c0_3, .bool a0_4, .slice A0_5 l0_5.length c0_5, .bool a0_6, .slice A0_7 l0_7.length c0_7, .bool a0_8, .slice A0_9 l0_9.length c0_9, .bool false, .int .i64 a0_11, .slice A0_12 l0_12.length c0_12, .int .i64 a0_13, .int .i64 a0_14] 37 (0, 0)) (by (with_reducible repeat (first | refine blk_drewN ?_ _ | refine blk_drew ?_ | refine blk_alloc ?_ _)); exact BK124.out) hb); have n1_ := Aside0.mk (blk_below (g := gb125) (o := .cells #[.int .i64 a1_0, .int .u32 a1_1, .int .u32 a1_2, .int .i64 a1_3, .int .i64 a1_4] 25 (0, 0)) (by (with_reducible repeat (first | refine blk_drewN ?_ _ | refine blk_drew ?_ | refine blk_alloc ?_ _)); exact BK125.out) hb); have n2_ := Aside0.mk (blk_below (g := gb126) (o := .cells #[.int .u32 x127000_15, .int .i64 x127001_15] 56 (0, 0)) (by (with_reducible repeat (first | refine blk_drewN ?_ _ | refine blk_drew ?_ | refine blk_alloc ?_ _)); exact BK126.out) hb); have n3_ := Aside0.mk (blk_below (g := gb127) (o := .cells #[.int .u32 x128000_15, .int .i64 x128001_15] 56 (0, 0)) (by (with_reducible repeat (first | refine blk_drewN ?_ _ | refine blk_drew ?_ | refine blk_alloc ?_ _)); exact BK127.out) hb); have n4_ := Aside0.mk (below_step (by repeat (first | (with_reducible first | exact HB.out | apply below_alloc | apply pw_below_drewN | apply below_drew1 | refine below_set ?_ GE124.out | refine below_set ?_ GE125.out | refine below_set ?_ GE126.out | refine below_set ?_ GE127.out) | exact HB.out)) hb); clear BK124; clear BK125; clear BK126; clear BK127; clear HB; have BK124 := n0_; have BK125 := n1_; have BK126 := n2_; have BK127 := n3_; have HB := n4_; clear n0_ n1_ n2_ n3_ n4_; (try clear hb); (try clear hb2); (try clear hk); (try clear hi); have hnb124 := NB124_125.out; have hnc124 := NB125_124.out; have hnb125 := NB124_127.out; have hnc125 := NB127_124.out; have hcz126_0 : w123.cell? ⟨gb124, 0, none⟩ = some (.int .i64 a0_0) := (blk_cell BK124.out 0).trans rfl; have hcz126_1 : w123.cell? ⟨gb124, 1, none⟩ = some (.int .i64 a0_1) := (blk_cell BK124.out 1).trans rfl; have hcz126_2 : w123.cell? ⟨gb124, 2, none⟩ = some (.bool a0_2) := (blk_cell BK124.out 2).trans rfl; have hcz126_3 : w123.cell? ⟨gb124, 3, none⟩ = some (.slice A0_3 l0_3.length c0_3) := (blk_cell BK124.out 3).trans rfl; have hcz126_4 : w123.cell? ⟨gb124, 4, none⟩ = some (.bool a0_4) := (blk_cell BK124.out 4).trans rfl; have hcz126_5 : w123.cell? ⟨gb124, 5, none⟩ = some (.slice A0_5 l0_5.length c0_5) := (blk_cell BK124.out 5).trans rfl; have hcz126_6 : w123.cell? ⟨gb124, 6, none⟩ = some (.bool a0_6) := (blk_cell BK124.out 6).trans rfl; have hcz126_7 : w123.cell? ⟨gb124, 7, none⟩ = some (.slice A0_7 l0_7.length c0_7) := (blk_cell BK124.out 7).trans rfl; have hcz126_8 : w123.cell? ⟨gb124, 8, none⟩ = some (.bool a0_8) := (blk_cell BK124.out 8).trans rfl; have hcz126_9 : w123.cell? ⟨gb124, 9, none⟩ = some (.slice A0_9 l0_9.length c0_9) := (blk_cell BK124.out 9).trans rfl; have hcz126_10 : w123.cell? ⟨gb124, 10, none⟩ = some (.bool false) := (blk_cell BK124.out 10).trans rfl; have hcz126_11 : w123.cell? ⟨gb124, 11, none⟩ = some (.int .i64 a0_11) := (blk_cell BK124.out 11).trans rfl; have hcz126_12 : w123.cell? ⟨gb124, 12, none⟩ = some (.slice A0_12 l0_12.length c0_12) := (blk_cell BK124.out 12).trans rfl; have hcz126_13 : w123.cell? ⟨gb124, 13, none⟩ = some (.int .i64 a0_13) := (blk_cell BK124.out 13).trans rfl; have hcz126_14 : w123.cell? ⟨gb124, 14, none⟩ = some (.int .i64 a0_14) := (blk_cell BK124.out 14).trans rfl; have hfz126_0 := blk_frozen BK124.out 0; have hfz126_1 := blk_frozen BK124.out 1; have hfz126_2 := blk_frozen BK124.out 2; have hfz126_3 := blk_frozen BK124.out 3; have hfz126_4 := blk_frozen BK124.out 4; have hfz126_5 := blk_frozen BK124.out 5; have hfz126_6 := blk_frozen BK124.out 6; have hfz126_7 := blk_frozen BK124.out 7; have hfz126_8 := blk_frozen BK124.out 8; have hfz126_9 := blk_frozen BK124.out 9; have hfz126_10 := blk_frozen BK124.out 10; have hfz126_11 := blk_frozen BK124.out 11; have hfz126_12 := blk_frozen BK124.out 12; have hfz126_13 := blk_frozen BK124.out 13; have hfz126_14 := blk_frozen BK124.out 14))
         go_meet
         case rel => exact ⟨_, (false), (by first | rfl | (simp; done) | (simp [*]; done)), H', ⟨by have := HJ3.out; have := HJ15.out; first | omega | exact Nat.le_refl _⟩, ⟨by (with_reducible repeat (first | refine blk_drewN ?_ _ | refine blk_drew ?_ | refine blk_alloc ?_ _)); exact BK124.out⟩, ⟨by (with_reducible repeat (first | refine blk_drewN ?_ _ | refine blk_drew ?_ | refine blk_alloc ?_ _)); exact BK125.out⟩, ⟨by (with_reducible repeat (first | refine blk_drewN ?_ _ | refine blk_drew ?_ | refine blk_alloc ?_ _)); exact BK126.out⟩, ⟨by (with_reducible repeat (first | refine blk_drewN ?_ _ | refine blk_drew ?_ | refine blk_alloc ?_ _)); exact BK127.out⟩, ⟨by repeat (first | (with_reducible first | exact HB.out | apply below_alloc | apply pw_below_drewN | apply below_drew1 | refine below_set ?_ GE124.out | refine below_set ?_ GE125.out | refine below_set ?_ GE126.out | refine below_set ?_ GE127.out) | exact HB.out)⟩⟩
      case rest =>
       clear HC33
       try clear c1
       try clear c2
       try clear p2
       try clear c3
       try clear c4
       try clear c5
       try clear c6
       try clear c7
       try clear c7b0
       try clear c8
       try clear c8b0
       try clear c9
       try clear c9b0
       try clear c9b1
       try clear c10
       try clear c11
       try clear c12
       try clear c15
       try clear c17
       try clear c25
       try clear c25b0
       try clear c25b1
       try clear c26
       try clear c27
       try clear c28
       try clear c30
       try clear c31
       try clear c36
       try clear c38
       try clear c39
       try clear c40
       try clear c41
       try clear c44
       try clear c45
       try clear c48
       try clear c50
       try clear c52
       try clear c53
       try clear c54
       try clear c57
       try clear c58
       try clear c61
       try clear c67
       try clear c68
       try clear c69
       try clear c72
       try clear c73
       try clear c76
       try clear c80
       try clear c81
       try clear c82
       try clear c85
       try clear c86
       try clear c89
       try clear c91
       try clear c93
       try clear c95
       try clear c96
       try clear c97
       try clear c100
       try clear c101
       try clear c103
       try clear c108
       try clear c109
       try clear c110
       try clear c113
       try clear c114
       try clear c116
       try clear c119
       try clear c120
       try clear c121
       try clear c124
       try clear c125
       try clear hcz102_0
       try clear hcz102_1
       try clear hcz102_10
       try clear hcz102_11
       try clear hcz102_12
       try clear hcz102_13
       try clear hcz102_14
       try clear hcz102_2
       try clear hcz102_3
       try clear hcz102_4
       try clear hcz102_5
       try clear hcz102_6
       try clear hcz102_7
       try clear hcz102_8
       try clear hcz102_9
       try clear hcz104_0
       try clear hcz104_1
       try clear hcz106_0
       try clear hcz106_1
       try clear hcz111_0
       try clear hcz111_1
       try clear hcz115_0
       try clear hcz115_1
       try clear hcz115_10
       try clear hcz115_11
       try clear hcz115_12
       try clear hcz115_13
       try clear hcz115_14
       try clear hcz115_2
       try clear hcz115_3
       try clear hcz115_4
       try clear hcz115_5
       try clear hcz115_6
       try clear hcz115_7
       try clear hcz115_8
       try clear hcz115_9
       try clear hcz117_0
       try clear hcz117_1
       try clear hcz11_0
       try clear hcz11_1
       try clear hcz11_10
       try clear hcz11_11
       try clear hcz11_12
       try clear hcz11_13
       try clear hcz11_14
       try clear hcz11_2
       try clear hcz11_3
       try clear hcz11_4
       try clear hcz11_5
       try clear hcz11_6
       try clear hcz11_7
       try clear hcz11_8
       try clear hcz11_9
       try clear hcz122_0
       try clear hcz122_1
       try clear hcz126_0
       try clear hcz126_1
       try clear hcz126_10
       try clear hcz126_11
       try clear hcz126_12
       try clear hcz126_13
       try clear hcz126_14
       try clear hcz126_2
       try clear hcz126_3
       try clear hcz126_4
       try clear hcz126_5
       try clear hcz126_6
       try clear hcz126_7
       try clear hcz126_8
       try clear hcz126_9
       try clear hcz13_0
       try clear hcz13_1
       try clear hcz13_10
       try clear hcz13_11
       try clear hcz13_12
       try clear hcz13_13
       try clear hcz13_14
       try clear hcz13_2
       try clear hcz13_3
       try clear hcz13_4
       try clear hcz13_5
       try clear hcz13_6
       try clear hcz13_7
       try clear hcz13_8
       try clear hcz13_9
       try clear hcz14_0
       try clear hcz14_1
       try clear hcz14_2
       try clear hcz14_3
       try clear hcz14_4
       try clear hcz29_0
       try clear hcz29_1
       try clear hcz32_0
       try clear hcz32_1
       try clear hcz42_0
       try clear hcz42_1
       try clear hcz46_0
       try clear hcz46_1
       try clear hcz55_0
       try clear hcz55_1
       try clear hcz59_0
       try clear hcz59_1
       try clear hcz62_0
       try clear hcz62_1
       try clear hcz62_10
       try clear hcz62_11
       try clear hcz62_12
       try clear hcz62_13
       try clear hcz62_14
       try clear hcz62_2
       try clear hcz62_3
       try clear hcz62_4
       try clear hcz62_5
       try clear hcz62_6
       try clear hcz62_7
       try clear hcz62_8
       try clear hcz62_9
       try clear hcz63_0
       try clear hcz63_1
       try clear hcz65_0
       try clear hcz65_1
       try clear hcz70_0
       try clear hcz70_1
       try clear hcz74_0
       try clear hcz74_1
       try clear hcz77_0
       try clear hcz77_1
       try clear hcz77_10
       try clear hcz77_11
       try clear hcz77_12
       try clear hcz77_13
       try clear hcz77_14
       try clear hcz77_2
       try clear hcz77_3
       try clear hcz77_4
       try clear hcz77_5
       try clear hcz77_6
       try clear hcz77_7
       try clear hcz77_8
       try clear hcz77_9
       try clear hcz78_0
       try clear hcz78_1
       try clear hcz83_0
       try clear hcz83_1
       try clear hcz87_0
       try clear hcz87_1
       try clear hcz90_0
       try clear hcz90_1
       try clear hcz90_10
       try clear hcz90_11
       try clear hcz90_12
       try clear hcz90_13
       try clear hcz90_14
       try clear hcz90_2
       try clear hcz90_3
       try clear hcz90_4
       try clear hcz90_5
       try clear hcz90_6
       try clear hcz90_7
       try clear hcz90_8
       try clear hcz90_9
       try clear hcz98_0
       try clear hcz98_1
       try clear hfz102_0
       try clear hfz102_1
       try clear hfz102_10
       try clear hfz102_11
       try clear hfz102_12
       try clear hfz102_13
       try clear hfz102_14
       try clear hfz102_2
       try clear hfz102_3
       try clear hfz102_4
       try clear hfz102_5
       try clear hfz102_6
       try clear hfz102_7
       try clear hfz102_8
       try clear hfz102_9
       try clear hfz104_0
       try clear hfz104_1
       try clear hfz106_0
       try clear hfz106_1
       try clear hfz111_0
       try clear hfz111_1
       try clear hfz115_0
       try clear hfz115_1
       try clear hfz115_10
       try clear hfz115_11
       try clear hfz115_12
       try clear hfz115_13
       try clear hfz115_14
       try clear hfz115_2
       try clear hfz115_3
       try clear hfz115_4
       try clear hfz115_5
       try clear hfz115_6
       try clear hfz115_7
       try clear hfz115_8
       try clear hfz115_9
       try clear hfz117_0
       try clear hfz117_1
       try clear hfz11_0
       try clear hfz11_1
       try clear hfz11_10
       try clear hfz11_11
       try clear hfz11_12
       try clear hfz11_13
       try clear hfz11_14
       try clear hfz11_2
       try clear hfz11_3
       try clear hfz11_4
       try clear hfz11_5
       try clear hfz11_6
       try clear hfz11_7
       try clear hfz11_8
       try clear hfz11_9
       try clear hfz122_0
       try clear hfz122_1
       try clear hfz126_0
       try clear hfz126_1
       try clear hfz126_10
       try clear hfz126_11
       try clear hfz126_12
       try clear hfz126_13
       try clear hfz126_14
       try clear hfz126_2
       try clear hfz126_3
       try clear hfz126_4
       try clear hfz126_5
       try clear hfz126_6
       try clear hfz126_7
       try clear hfz126_8
       try clear hfz126_9
       try clear hfz13_0
       try clear hfz13_1
       try clear hfz13_10
       try clear hfz13_11
       try clear hfz13_12
       try clear hfz13_13
       try clear hfz13_14
       try clear hfz13_2
       try clear hfz13_3
       try clear hfz13_4
       try clear hfz13_5
       try clear hfz13_6
       try clear hfz13_7
       try clear hfz13_8
       try clear hfz13_9
       try clear hfz14_0
       try clear hfz14_1
       try clear hfz14_2
       try clear hfz14_3
       try clear hfz14_4
       try clear hfz29_0
       try clear hfz29_1
       try clear hfz32_0
       try clear hfz32_1
       try clear hfz42_0
       try clear hfz42_1
       try clear hfz46_0
       try clear hfz46_1
       try clear hfz55_0
       try clear hfz55_1
       try clear hfz59_0
       try clear hfz59_1
       try clear hfz62_0
       try clear hfz62_1
       try clear hfz62_10
       try clear hfz62_11
       try clear hfz62_12
       try clear hfz62_13
       try clear hfz62_14
       try clear hfz62_2
       try clear hfz62_3
       try clear hfz62_4
       try clear hfz62_5
       try clear hfz62_6
       try clear hfz62_7
       try clear hfz62_8
       try clear hfz62_9
       try clear hfz63_0
       try clear hfz63_1
       try clear hfz65_0
       try clear hfz65_1
       try clear hfz70_0
       try clear hfz70_1
       try clear hfz74_0
       try clear hfz74_1
       try clear hfz77_0
       try clear hfz77_1
       try clear hfz77_10
       try clear hfz77_11
       try clear hfz77_12
       try clear hfz77_13
       try clear hfz77_14
       try clear hfz77_2
       try clear hfz77_3
       try clear hfz77_4
       try clear hfz77_5
       try clear hfz77_6
       try clear hfz77_7
       try clear hfz77_8
       try clear hfz77_9
       try clear hfz78_0
       try clear hfz78_1
       try clear hfz83_0
       try clear hfz83_1
       try clear hfz87_0
       try clear hfz87_1
       try clear hfz90_0
       try clear hfz90_1
       try clear hfz90_10
       try clear hfz90_11
       try clear hfz90_12
       try clear hfz90_13
       try clear hfz90_14
       try clear hfz90_2
       try clear hfz90_3
       try clear hfz90_4
       try clear hfz90_5
       try clear hfz90_6
       try clear hfz90_7
       try clear hfz90_8
       try clear hfz90_9
       try clear hfz98_0
       try clear hfz98_1
       try clear p2
       obtain ⟨kq, x11_32, rfl, HA, HJ32, BK124, BK125, BK126, BK127, HB⟩ := hcut
       cases kq with
       | zero => exact absurd HA.out (by simp [group_Fits.j2])
       | succ kj32 =>
        have H := HA.out
        clear HA
        simp only [group_Fits.j2] at H
        by_cases c127 : x11_32 = true
        ·
         subst c127
         have H1 : (if a0_11 = 0 then (some true) else (if a0_11 = 1 then (if a2 = 0 then (some true) else (if a0_11 = 2 then (some (a2 == 1)) else (some false))) else (if a0_11 = 2 then (some (a2 == 1)) else (some false)))) = some r := by rw [if_pos rfl] at H; exact H
         clear H
         have H := H1
         clear H1
         by_cases c128 : a0_11 = 0
         ·
          rw [if_pos c128] at H
          have c128b0 : (a0_11 == 0) = true := beq_iff_eq.mpr c128
          have c128b1 : (a0_11 != 0) = false := bne_eq_false_iff_eq.mpr c128
          clear c128
          obtain rfl := Option.some.inj H
          have hnb129 := NB124_125.out
          have hnc129 := NB125_124.out
          have hnb130 := NB124_126.out
          have hnc130 := NB126_124.out
          have hnb131 := NB124_127.out
          have hnc131 := NB127_124.out
          have hcz132_0 : wc.cell? ⟨gb124, 0, none⟩ = some (.int .i64 a0_0) := (blk_cell BK124.out 0).trans rfl
          have hcz132_1 : wc.cell? ⟨gb124, 1, none⟩ = some (.int .i64 a0_1) := (blk_cell BK124.out 1).trans rfl
          have hcz132_2 : wc.cell? ⟨gb124, 2, none⟩ = some (.bool a0_2) := (blk_cell BK124.out 2).trans rfl
          have hcz132_3 : wc.cell? ⟨gb124, 3, none⟩ = some (.slice A0_3 l0_3.length c0_3) := (blk_cell BK124.out 3).trans rfl
          have hcz132_4 : wc.cell? ⟨gb124, 4, none⟩ = some (.bool a0_4) := (blk_cell BK124.out 4).trans rfl
          have hcz132_5 : wc.cell? ⟨gb124, 5, none⟩ = some (.slice A0_5 l0_5.length c0_5) := (blk_cell BK124.out 5).trans rfl
          have hcz132_6 : wc.cell? ⟨gb124, 6, none⟩ = some (.bool a0_6) := (blk_cell BK124.out 6).trans rfl
          have hcz132_7 : wc.cell? ⟨gb124, 7, none⟩ = some (.slice A0_7 l0_7.length c0_7) := (blk_cell BK124.out 7).trans rfl
          have hcz132_8 : wc.cell? ⟨gb124, 8, none⟩ = some (.bool a0_8) := (blk_cell BK124.out 8).trans rfl
          have hcz132_9 : wc.cell? ⟨gb124, 9, none⟩ = some (.slice A0_9 l0_9.length c0_9) := (blk_cell BK124.out 9).trans rfl
          have hcz132_10 : wc.cell? ⟨gb124, 10, none⟩ = some (.bool a0_10) := (blk_cell BK124.out 10).trans rfl
          have hcz132_11 : wc.cell? ⟨gb124, 11, none⟩ = some (.int .i64 a0_11) := (blk_cell BK124.out 11).trans rfl
          have hcz132_12 : wc.cell? ⟨gb124, 12, none⟩ = some (.slice A0_12 l0_12.length c0_12) := (blk_cell BK124.out 12).trans rfl
          have hcz132_13 : wc.cell? ⟨gb124, 13, none⟩ = some (.int .i64 a0_13) := (blk_cell BK124.out 13).trans rfl
          have hcz132_14 : wc.cell? ⟨gb124, 14, none⟩ = some (.int .i64 a0_14) := (blk_cell BK124.out 14).trans rfl
          have hfz132_0 := blk_frozen BK124.out 0
          have hfz132_1 := blk_frozen BK124.out 1
          have hfz132_2 := blk_frozen BK124.out 2
          have hfz132_3 := blk_frozen BK124.out 3
          have hfz132_4 := blk_frozen BK124.out 4
          have hfz132_5 := blk_frozen BK124.out 5
          have hfz132_6 := blk_frozen BK124.out 6
          have hfz132_7 := blk_frozen BK124.out 7
          have hfz132_8 := blk_frozen BK124.out 8
          have hfz132_9 := blk_frozen BK124.out 9
          have hfz132_10 := blk_frozen BK124.out 10
          have hfz132_11 := blk_frozen BK124.out 11
          have hfz132_12 := blk_frozen BK124.out 12
          have hfz132_13 := blk_frozen BK124.out 13
          have hfz132_14 := blk_frozen BK124.out 14
          go_wp2
          go_ret
          exact ⟨by first | rfl | (simp [errW_none, errW_some] <;> rfl) | (simp [*, errW_none, errW_some] <;> rfl), by repeat (first | (with_reducible first | exact HB.out | apply below_alloc | apply pw_below_drewN | apply below_drew1 | refine below_set ?_ GE124.out | refine below_set ?_ GE125.out | refine below_set ?_ GE126.out | refine below_set ?_ GE127.out) | exact HB.out)⟩
         ·
          rw [if_neg c128] at H
          have c128b0 : (a0_11 == 0) = false := beq_eq_false_iff_ne.mpr c128
          have c128b1 : (a0_11 != 0) = true := bne_iff_ne.mpr c128
          by_cases c133 : a0_11 = 1
          ·
           rw [if_pos c133] at H
           have c133b0 : (a0_11 == 1) = true := beq_iff_eq.mpr c133
           have c133b1 : (a0_11 != 1) = false := bne_eq_false_iff_eq.mpr c133
           clear c133
           by_cases c134 : a2 = 0
           ·
            rw [if_pos c134] at H
            have c134b0 : (a2 == 0) = true := beq_iff_eq.mpr c134
            have c134b1 : (a2 != 0) = false := bne_eq_false_iff_eq.mpr c134
            clear c134
            obtain rfl := Option.some.inj H
            have hnb135 := NB124_125.out
            have hnc135 := NB125_124.out
            have hnb136 := NB124_126.out
            have hnc136 := NB126_124.out
            have hnb137 := NB124_127.out
            have hnc137 := NB127_124.out
            have hcz138_0 : wc.cell? ⟨gb124, 0, none⟩ = some (.int .i64 a0_0) := (blk_cell BK124.out 0).trans rfl
            have hcz138_1 : wc.cell? ⟨gb124, 1, none⟩ = some (.int .i64 a0_1) := (blk_cell BK124.out 1).trans rfl
            have hcz138_2 : wc.cell? ⟨gb124, 2, none⟩ = some (.bool a0_2) := (blk_cell BK124.out 2).trans rfl
            have hcz138_3 : wc.cell? ⟨gb124, 3, none⟩ = some (.slice A0_3 l0_3.length c0_3) := (blk_cell BK124.out 3).trans rfl
            have hcz138_4 : wc.cell? ⟨gb124, 4, none⟩ = some (.bool a0_4) := (blk_cell BK124.out 4).trans rfl
            have hcz138_5 : wc.cell? ⟨gb124, 5, none⟩ = some (.slice A0_5 l0_5.length c0_5) := (blk_cell BK124.out 5).trans rfl
            have hcz138_6 : wc.cell? ⟨gb124, 6, none⟩ = some (.bool a0_6) := (blk_cell BK124.out 6).trans rfl
            have hcz138_7 : wc.cell? ⟨gb124, 7, none⟩ = some (.slice A0_7 l0_7.length c0_7) := (blk_cell BK124.out 7).trans rfl
            have hcz138_8 : wc.cell? ⟨gb124, 8, none⟩ = some (.bool a0_8) := (blk_cell BK124.out 8).trans rfl
            have hcz138_9 : wc.cell? ⟨gb124, 9, none⟩ = some (.slice A0_9 l0_9.length c0_9) := (blk_cell BK124.out 9).trans rfl
            have hcz138_10 : wc.cell? ⟨gb124, 10, none⟩ = some (.bool a0_10) := (blk_cell BK124.out 10).trans rfl
            have hcz138_11 : wc.cell? ⟨gb124, 11, none⟩ = some (.int .i64 a0_11) := (blk_cell BK124.out 11).trans rfl
            have hcz138_12 : wc.cell? ⟨gb124, 12, none⟩ = some (.slice A0_12 l0_12.length c0_12) := (blk_cell BK124.out 12).trans rfl
            have hcz138_13 : wc.cell? ⟨gb124, 13, none⟩ = some (.int .i64 a0_13) := (blk_cell BK124.out 13).trans rfl
            have hcz138_14 : wc.cell? ⟨gb124, 14, none⟩ = some (.int .i64 a0_14) := (blk_cell BK124.out 14).trans rfl
            have hfz138_0 := blk_frozen BK124.out 0
            have hfz138_1 := blk_frozen BK124.out 1
            have hfz138_2 := blk_frozen BK124.out 2
            have hfz138_3 := blk_frozen BK124.out 3
            have hfz138_4 := blk_frozen BK124.out 4
            have hfz138_5 := blk_frozen BK124.out 5
            have hfz138_6 := blk_frozen BK124.out 6
            have hfz138_7 := blk_frozen BK124.out 7
            have hfz138_8 := blk_frozen BK124.out 8
            have hfz138_9 := blk_frozen BK124.out 9
            have hfz138_10 := blk_frozen BK124.out 10
            have hfz138_11 := blk_frozen BK124.out 11
            have hfz138_12 := blk_frozen BK124.out 12
            have hfz138_13 := blk_frozen BK124.out 13
            have hfz138_14 := blk_frozen BK124.out 14
            go_wp2
            go_ret
            exact ⟨by first | rfl | (simp [errW_none, errW_some] <;> rfl) | (simp [*, errW_none, errW_some] <;> rfl), by repeat (first | (with_reducible first | exact HB.out | apply below_alloc | apply pw_below_drewN | apply below_drew1 | refine below_set ?_ GE124.out | refine below_set ?_ GE125.out | refine below_set ?_ GE126.out | refine below_set ?_ GE127.out) | exact HB.out)⟩
           ·
            rw [if_neg c134] at H
            have c134b0 : (a2 == 0) = false := beq_eq_false_iff_ne.mpr c134
            have c134b1 : (a2 != 0) = true := bne_iff_ne.mpr c134
            by_cases c139 : a0_11 = 2
            ·
             rw [if_pos c139] at H
             have c139b0 : (a0_11 == 2) = true := beq_iff_eq.mpr c139
             have c139b1 : (a0_11 != 2) = false := bne_eq_false_iff_eq.mpr c139
             clear c139
             obtain rfl := Option.some.inj H
             have hnb140 := NB124_125.out
             have hnc140 := NB125_124.out
             have hnb141 := NB124_126.out
             have hnc141 := NB126_124.out
             have hnb142 := NB124_127.out
             have hnc142 := NB127_124.out
             have hcz143_0 : wc.cell? ⟨gb124, 0, none⟩ = some (.int .i64 a0_0) := (blk_cell BK124.out 0).trans rfl
             have hcz143_1 : wc.cell? ⟨gb124, 1, none⟩ = some (.int .i64 a0_1) := (blk_cell BK124.out 1).trans rfl
             have hcz143_2 : wc.cell? ⟨gb124, 2, none⟩ = some (.bool a0_2) := (blk_cell BK124.out 2).trans rfl
             have hcz143_3 : wc.cell? ⟨gb124, 3, none⟩ = some (.slice A0_3 l0_3.length c0_3) := (blk_cell BK124.out 3).trans rfl
             have hcz143_4 : wc.cell? ⟨gb124, 4, none⟩ = some (.bool a0_4) := (blk_cell BK124.out 4).trans rfl
             have hcz143_5 : wc.cell? ⟨gb124, 5, none⟩ = some (.slice A0_5 l0_5.length c0_5) := (blk_cell BK124.out 5).trans rfl
             have hcz143_6 : wc.cell? ⟨gb124, 6, none⟩ = some (.bool a0_6) := (blk_cell BK124.out 6).trans rfl
             have hcz143_7 : wc.cell? ⟨gb124, 7, none⟩ = some (.slice A0_7 l0_7.length c0_7) := (blk_cell BK124.out 7).trans rfl
             have hcz143_8 : wc.cell? ⟨gb124, 8, none⟩ = some (.bool a0_8) := (blk_cell BK124.out 8).trans rfl
             have hcz143_9 : wc.cell? ⟨gb124, 9, none⟩ = some (.slice A0_9 l0_9.length c0_9) := (blk_cell BK124.out 9).trans rfl
             have hcz143_10 : wc.cell? ⟨gb124, 10, none⟩ = some (.bool a0_10) := (blk_cell BK124.out 10).trans rfl
             have hcz143_11 : wc.cell? ⟨gb124, 11, none⟩ = some (.int .i64 a0_11) := (blk_cell BK124.out 11).trans rfl
             have hcz143_12 : wc.cell? ⟨gb124, 12, none⟩ = some (.slice A0_12 l0_12.length c0_12) := (blk_cell BK124.out 12).trans rfl
             have hcz143_13 : wc.cell? ⟨gb124, 13, none⟩ = some (.int .i64 a0_13) := (blk_cell BK124.out 13).trans rfl
             have hcz143_14 : wc.cell? ⟨gb124, 14, none⟩ = some (.int .i64 a0_14) := (blk_cell BK124.out 14).trans rfl
             have hfz143_0 := blk_frozen BK124.out 0
             have hfz143_1 := blk_frozen BK124.out 1
             have hfz143_2 := blk_frozen BK124.out 2
             have hfz143_3 := blk_frozen BK124.out 3
             have hfz143_4 := blk_frozen BK124.out 4
             have hfz143_5 := blk_frozen BK124.out 5
             have hfz143_6 := blk_frozen BK124.out 6
             have hfz143_7 := blk_frozen BK124.out 7
             have hfz143_8 := blk_frozen BK124.out 8
             have hfz143_9 := blk_frozen BK124.out 9
             have hfz143_10 := blk_frozen BK124.out 10
             have hfz143_11 := blk_frozen BK124.out 11
             have hfz143_12 := blk_frozen BK124.out 12
             have hfz143_13 := blk_frozen BK124.out 13
             have hfz143_14 := blk_frozen BK124.out 14
             go_wp2
             go_ret
             exact ⟨by first | rfl | (simp [errW_none, errW_some] <;> rfl) | (simp [*, errW_none, errW_some] <;> rfl), by repeat (first | (with_reducible first | exact HB.out | apply below_alloc | apply pw_below_drewN | apply below_drew1 | refine below_set ?_ GE124.out | refine below_set ?_ GE125.out | refine below_set ?_ GE126.out | refine below_set ?_ GE127.out) | exact HB.out)⟩
            ·
             rw [if_neg c139] at H
             have c139b0 : (a0_11 == 2) = false := beq_eq_false_iff_ne.mpr c139
             have c139b1 : (a0_11 != 2) = true := bne_iff_ne.mpr c139
             obtain rfl := Option.some.inj H
             have hnb144 := NB124_125.out
             have hnc144 := NB125_124.out
             have hnb145 := NB124_126.out
             have hnc145 := NB126_124.out
             have hnb146 := NB124_127.out
             have hnc146 := NB127_124.out
             have hcz147_0 : wc.cell? ⟨gb124, 0, none⟩ = some (.int .i64 a0_0) := (blk_cell BK124.out 0).trans rfl
             have hcz147_1 : wc.cell? ⟨gb124, 1, none⟩ = some (.int .i64 a0_1) := (blk_cell BK124.out 1).trans rfl
             have hcz147_2 : wc.cell? ⟨gb124, 2, none⟩ = some (.bool a0_2) := (blk_cell BK124.out 2).trans rfl
             have hcz147_3 : wc.cell? ⟨gb124, 3, none⟩ = some (.slice A0_3 l0_3.length c0_3) := (blk_cell BK124.out 3).trans rfl
             have hcz147_4 : wc.cell? ⟨gb124, 4, none⟩ = some (.bool a0_4) := (blk_cell BK124.out 4).trans rfl
             have hcz147_5 : wc.cell? ⟨gb124, 5, none⟩ = some (.slice A0_5 l0_5.length c0_5) := (blk_cell BK124.out 5).trans rfl
             have hcz147_6 : wc.cell? ⟨gb124, 6, none⟩ = some (.bool a0_6) := (blk_cell BK124.out 6).trans rfl
             have hcz147_7 : wc.cell? ⟨gb124, 7, none⟩ = some (.slice A0_7 l0_7.length c0_7) := (blk_cell BK124.out 7).trans rfl
             have hcz147_8 : wc.cell? ⟨gb124, 8, none⟩ = some (.bool a0_8) := (blk_cell BK124.out 8).trans rfl
             have hcz147_9 : wc.cell? ⟨gb124, 9, none⟩ = some (.slice A0_9 l0_9.length c0_9) := (blk_cell BK124.out 9).trans rfl
             have hcz147_10 : wc.cell? ⟨gb124, 10, none⟩ = some (.bool a0_10) := (blk_cell BK124.out 10).trans rfl
             have hcz147_11 : wc.cell? ⟨gb124, 11, none⟩ = some (.int .i64 a0_11) := (blk_cell BK124.out 11).trans rfl
             have hcz147_12 : wc.cell? ⟨gb124, 12, none⟩ = some (.slice A0_12 l0_12.length c0_12) := (blk_cell BK124.out 12).trans rfl
             have hcz147_13 : wc.cell? ⟨gb124, 13, none⟩ = some (.int .i64 a0_13) := (blk_cell BK124.out 13).trans rfl
             have hcz147_14 : wc.cell? ⟨gb124, 14, none⟩ = some (.int .i64 a0_14) := (blk_cell BK124.out 14).trans rfl
             have hfz147_0 := blk_frozen BK124.out 0
             have hfz147_1 := blk_frozen BK124.out 1
             have hfz147_2 := blk_frozen BK124.out 2
             have hfz147_3 := blk_frozen BK124.out 3
             have hfz147_4 := blk_frozen BK124.out 4
             have hfz147_5 := blk_frozen BK124.out 5
             have hfz147_6 := blk_frozen BK124.out 6
             have hfz147_7 := blk_frozen BK124.out 7
             have hfz147_8 := blk_frozen BK124.out 8
             have hfz147_9 := blk_frozen BK124.out 9
             have hfz147_10 := blk_frozen BK124.out 10
             have hfz147_11 := blk_frozen BK124.out 11
             have hfz147_12 := blk_frozen BK124.out 12
             have hfz147_13 := blk_frozen BK124.out 13
             have hfz147_14 := blk_frozen BK124.out 14
             go_wp2
             go_ret
             exact ⟨by first | rfl | (simp [errW_none, errW_some] <;> rfl) | (simp [*, errW_none, errW_some] <;> rfl), by repeat (first | (with_reducible first | exact HB.out | apply below_alloc | apply pw_below_drewN | apply below_drew1 | refine below_set ?_ GE124.out | refine below_set ?_ GE125.out | refine below_set ?_ GE126.out | refine below_set ?_ GE127.out) | exact HB.out)⟩
          ·
           rw [if_neg c133] at H
           have c133b0 : (a0_11 == 1) = false := beq_eq_false_iff_ne.mpr c133
           have c133b1 : (a0_11 != 1) = true := bne_iff_ne.mpr c133
           by_cases c148 : a0_11 = 2
           ·
            rw [if_pos c148] at H
            have c148b0 : (a0_11 == 2) = true := beq_iff_eq.mpr c148
            have c148b1 : (a0_11 != 2) = false := bne_eq_false_iff_eq.mpr c148
            clear c148
            obtain rfl := Option.some.inj H
            have hnb149 := NB124_125.out
            have hnc149 := NB125_124.out
            have hnb150 := NB124_126.out
            have hnc150 := NB126_124.out
            have hnb151 := NB124_127.out
            have hnc151 := NB127_124.out
            have hcz152_0 : wc.cell? ⟨gb124, 0, none⟩ = some (.int .i64 a0_0) := (blk_cell BK124.out 0).trans rfl
            have hcz152_1 : wc.cell? ⟨gb124, 1, none⟩ = some (.int .i64 a0_1) := (blk_cell BK124.out 1).trans rfl
            have hcz152_2 : wc.cell? ⟨gb124, 2, none⟩ = some (.bool a0_2) := (blk_cell BK124.out 2).trans rfl
            have hcz152_3 : wc.cell? ⟨gb124, 3, none⟩ = some (.slice A0_3 l0_3.length c0_3) := (blk_cell BK124.out 3).trans rfl
            have hcz152_4 : wc.cell? ⟨gb124, 4, none⟩ = some (.bool a0_4) := (blk_cell BK124.out 4).trans rfl
            have hcz152_5 : wc.cell? ⟨gb124, 5, none⟩ = some (.slice A0_5 l0_5.length c0_5) := (blk_cell BK124.out 5).trans rfl
            have hcz152_6 : wc.cell? ⟨gb124, 6, none⟩ = some (.bool a0_6) := (blk_cell BK124.out 6).trans rfl
            have hcz152_7 : wc.cell? ⟨gb124, 7, none⟩ = some (.slice A0_7 l0_7.length c0_7) := (blk_cell BK124.out 7).trans rfl
            have hcz152_8 : wc.cell? ⟨gb124, 8, none⟩ = some (.bool a0_8) := (blk_cell BK124.out 8).trans rfl
            have hcz152_9 : wc.cell? ⟨gb124, 9, none⟩ = some (.slice A0_9 l0_9.length c0_9) := (blk_cell BK124.out 9).trans rfl
            have hcz152_10 : wc.cell? ⟨gb124, 10, none⟩ = some (.bool a0_10) := (blk_cell BK124.out 10).trans rfl
            have hcz152_11 : wc.cell? ⟨gb124, 11, none⟩ = some (.int .i64 a0_11) := (blk_cell BK124.out 11).trans rfl
            have hcz152_12 : wc.cell? ⟨gb124, 12, none⟩ = some (.slice A0_12 l0_12.length c0_12) := (blk_cell BK124.out 12).trans rfl
            have hcz152_13 : wc.cell? ⟨gb124, 13, none⟩ = some (.int .i64 a0_13) := (blk_cell BK124.out 13).trans rfl
            have hcz152_14 : wc.cell? ⟨gb124, 14, none⟩ = some (.int .i64 a0_14) := (blk_cell BK124.out 14).trans rfl
            have hfz152_0 := blk_frozen BK124.out 0
            have hfz152_1 := blk_frozen BK124.out 1
            have hfz152_2 := blk_frozen BK124.out 2
            have hfz152_3 := blk_frozen BK124.out 3
            have hfz152_4 := blk_frozen BK124.out 4
            have hfz152_5 := blk_frozen BK124.out 5
            have hfz152_6 := blk_frozen BK124.out 6
            have hfz152_7 := blk_frozen BK124.out 7
            have hfz152_8 := blk_frozen BK124.out 8
            have hfz152_9 := blk_frozen BK124.out 9
            have hfz152_10 := blk_frozen BK124.out 10
            have hfz152_11 := blk_frozen BK124.out 11
            have hfz152_12 := blk_frozen BK124.out 12
            have hfz152_13 := blk_frozen BK124.out 13
            have hfz152_14 := blk_frozen BK124.out 14
            go_wp2
            go_ret
            exact ⟨by first | rfl | (simp [errW_none, errW_some] <;> rfl) | (simp [*, errW_none, errW_some] <;> rfl), by repeat (first | (with_reducible first | exact HB.out | apply below_alloc | apply pw_below_drewN | apply below_drew1 | refine below_set ?_ GE124.out | refine below_set ?_ GE125.out | refine below_set ?_ GE126.out | refine below_set ?_ GE127.out) | exact HB.out)⟩
           ·
            rw [if_neg c148] at H
            have c148b0 : (a0_11 == 2) = false := beq_eq_false_iff_ne.mpr c148
            have c148b1 : (a0_11 != 2) = true := bne_iff_ne.mpr c148
            obtain rfl := Option.some.inj H
            have hnb153 := NB124_125.out
            have hnc153 := NB125_124.out
            have hnb154 := NB124_126.out
            have hnc154 := NB126_124.out
            have hnb155 := NB124_127.out
            have hnc155 := NB127_124.out
            have hcz156_0 : wc.cell? ⟨gb124, 0, none⟩ = some (.int .i64 a0_0) := (blk_cell BK124.out 0).trans rfl
            have hcz156_1 : wc.cell? ⟨gb124, 1, none⟩ = some (.int .i64 a0_1) := (blk_cell BK124.out 1).trans rfl
            have hcz156_2 : wc.cell? ⟨gb124, 2, none⟩ = some (.bool a0_2) := (blk_cell BK124.out 2).trans rfl
            have hcz156_3 : wc.cell? ⟨gb124, 3, none⟩ = some (.slice A0_3 l0_3.length c0_3) := (blk_cell BK124.out 3).trans rfl
            have hcz156_4 : wc.cell? ⟨gb124, 4, none⟩ = some (.bool a0_4) := (blk_cell BK124.out 4).trans rfl
            have hcz156_5 : wc.cell? ⟨gb124, 5, none⟩ = some (.slice A0_5 l0_5.length c0_5) := (blk_cell BK124.out 5).trans rfl
            have hcz156_6 : wc.cell? ⟨gb124, 6, none⟩ = some (.bool a0_6) := (blk_cell BK124.out 6).trans rfl
            have hcz156_7 : wc.cell? ⟨gb124, 7, none⟩ = some (.slice A0_7 l0_7.length c0_7) := (blk_cell BK124.out 7).trans rfl
            have hcz156_8 : wc.cell? ⟨gb124, 8, none⟩ = some (.bool a0_8) := (blk_cell BK124.out 8).trans rfl
            have hcz156_9 : wc.cell? ⟨gb124, 9, none⟩ = some (.slice A0_9 l0_9.length c0_9) := (blk_cell BK124.out 9).trans rfl
            have hcz156_10 : wc.cell? ⟨gb124, 10, none⟩ = some (.bool a0_10) := (blk_cell BK124.out 10).trans rfl
            have hcz156_11 : wc.cell? ⟨gb124, 11, none⟩ = some (.int .i64 a0_11) := (blk_cell BK124.out 11).trans rfl
            have hcz156_12 : wc.cell? ⟨gb124, 12, none⟩ = some (.slice A0_12 l0_12.length c0_12) := (blk_cell BK124.out 12).trans rfl
            have hcz156_13 : wc.cell? ⟨gb124, 13, none⟩ = some (.int .i64 a0_13) := (blk_cell BK124.out 13).trans rfl
            have hcz156_14 : wc.cell? ⟨gb124, 14, none⟩ = some (.int .i64 a0_14) := (blk_cell BK124.out 14).trans rfl
            have hfz156_0 := blk_frozen BK124.out 0
            have hfz156_1 := blk_frozen BK124.out 1
            have hfz156_2 := blk_frozen BK124.out 2
            have hfz156_3 := blk_frozen BK124.out 3
            have hfz156_4 := blk_frozen BK124.out 4
            have hfz156_5 := blk_frozen BK124.out 5
            have hfz156_6 := blk_frozen BK124.out 6
            have hfz156_7 := blk_frozen BK124.out 7
            have hfz156_8 := blk_frozen BK124.out 8
            have hfz156_9 := blk_frozen BK124.out 9
            have hfz156_10 := blk_frozen BK124.out 10
            have hfz156_11 := blk_frozen BK124.out 11
            have hfz156_12 := blk_frozen BK124.out 12
            have hfz156_13 := blk_frozen BK124.out 13
            have hfz156_14 := blk_frozen BK124.out 14
            go_wp2
            go_ret
            exact ⟨by first | rfl | (simp [errW_none, errW_some] <;> rfl) | (simp [*, errW_none, errW_some] <;> rfl), by repeat (first | (with_reducible first | exact HB.out | apply below_alloc | apply pw_below_drewN | apply below_drew1 | refine below_set ?_ GE124.out | refine below_set ?_ GE125.out | refine below_set ?_ GE126.out | refine below_set ?_ GE127.out) | exact HB.out)⟩
        ·
         replace c127 := Bool.eq_false_iff.mpr c127
         subst c127
         have H1 : (some false) = some r := by rw [if_neg (show ¬ (false = true) by decide)] at H; exact H
         clear H
         have H := H1
         clear H1
         obtain rfl := Option.some.inj H
         go_wp2
         go_ret
         exact ⟨by first | rfl | (simp [errW_none, errW_some] <;> rfl) | (simp [*, errW_none, errW_some] <;> rfl), by repeat (first | (with_reducible first | exact HB.out | apply below_alloc | apply pw_below_drewN | apply below_drew1 | refine below_set ?_ GE124.out | refine below_set ?_ GE125.out | refine below_set ?_ GE126.out | refine below_set ?_ GE127.out) | exact HB.out)⟩


end Go.Proofs.Ytbbafhpnlmmjjaa.HA
