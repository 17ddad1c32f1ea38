/- What is proved: each Go function of this text answers as the plain Lean function beside it (a law: its given row, out of the plain statement). Conditions: those that stand in each theorem. Written by my drive.py, which calls the printer of the kit for what that covers. -/
import Derived.Test.YtgolimfljndnmaaHDx0
import Derived.Test.YtgolimfljndnmaaHDx4
import Derived.Test.YtgolimfljndnmaaHDx6
import Derived.Test.YtgolimfljndnmaaHDx9
import Derived.Test.YtgolimfljndnmaaHDx17
namespace Go.Proofs.Ytgolimfljndnmaa.HD
open Go.RowKit Go.Proofs.YtgolimfljndnmaaW.PrintWords Go.Proofs.YtgolimfljndnmaaW.PrintLast Go.Proofs.YtgolimfljndnmaaW.PrintMore
attribute [local go_sem] max2_int min2_int max_two min_two max_three min_three max_four min_four   -- for this text's walks alone
set_option linter.unusedVariables false
set_option linter.unusedSimpArgs false

/-! ### rampartlaw05_DgramCut: function 11 -/
def rampartlaw05_DgramCut.j0 : Nat → Int → Int → ByteArray → Bool → Option (Bool)
 | 0, _, _, _, _ => none
 | k + 1, x1, x2, x7, x33 => if x33 = true then (some false) else ((rampartlaw00_Place.f x1 (x7.size : Int)).bind fun t257 => (if 0 ≤ t257 then (if t257 ≤ (x7.size : Int) then ((dgram_GetUDP.f k 1 2 (x7.extract 0 (t257 : Int).toNat)).bind fun bt258 => ((rampartlaw00_Place.f x2 9).bind fun t266 => (if 0 ≤ (wrap64 (1 + t266)) then (if (wrap64 (1 + t266) : Int).toNat ≤ 281474976710656 then ((some (List.replicate (wrap64 (1 + t266) : Int).toNat 0 : List Int)).bind fun y267 => (if x7.size + (strOfNums y267).size ≤ 9223372036854775807 then ((dgram_GetUDP.f k 1 2 (x7 ++ (strOfNums y267))).bind fun bt270 => (if t257 < 8 then (if bt258.2.2.2.2.2.2 = 2 then (if bt258.2.2.2.2.2.1.toList = ([] : List UInt8) then (if bt270.2.2.2.2.2.2 = 3 then (if bt270.2.2.2.2.2.1.toList = ([] : List UInt8) then ((rampartlaw05_awake.f k).bind fun t278 => (some t278)) else (some false)) else (some false)) else (some false)) else (some false)) else (if bt258.2.2.2.2.2.2 = 3 then (if bt258.2.2.2.2.2.1.toList = ([] : List UInt8) then (if bt270.2.2.2.2.2.2 = 3 then (if bt270.2.2.2.2.2.1.toList = ([] : List UInt8) then ((rampartlaw05_awake.f k).bind fun t279 => (some t279)) else (some false)) else (some false)) else (some false)) else (some false)))) else (none))) else (none)) else (none)))) else (none)) else (none)))
def rampartlaw05_DgramCut.f (k : Nat) (a0 : ByteArray) (a1 : Int) (a2 : Int) : Option (Bool) := if (a0.size : Int) > 500 then ((rampartlaw05_awake.f k).bind fun t254 => (some t254)) else ((dgram_PutUDP.f k 1 2 9 53 0 0 0 a0).bind fun bt255 => (if bt255.2 = 0 then (rampartlaw05_DgramCut.j0 k a1 a2 bt255.1 (decide ((bt255.1.size : Int) < 8))) else (rampartlaw05_DgramCut.j0 k a1 a2 bt255.1 true)))
theorem rampartlaw05_DgramCut.mono_l : ∀ k, (∀ y0 y1 y2 y3, LeO (rampartlaw05_DgramCut.j0 k y0 y1 y2 y3) (rampartlaw05_DgramCut.j0 (k + 1) y0 y1 y2 y3))
 | 0 => fun _ _ _ _ r h => by simp [rampartlaw05_DgramCut.j0] at h
 | k + 1 => by
  have ih0 := rampartlaw05_DgramCut.mono_l k
  ·
   intro y0 y1 y2 y3
   unfold rampartlaw05_DgramCut.j0
   repeat' first
   | (with_reducible exact ih0 _ _ _ _)
   | (with_reducible exact dgram_GetUDP.mono _ _ _ _)
   | (with_reducible exact dgram_PutUDP.mono _ _ _ _ _ _ _ _ _)
   | (with_reducible exact rampartlaw05_awake.mono _)
   | (with_reducible exact LeO.refl _)
   | (with_reducible exact LeO.none _)
   | (with_reducible refine LeO.ite ?_ ?_)
   | (with_reducible refine LeO.bind ?_ (fun _ => ?_))
   | exact ih0 _ _ _ _
   | exact dgram_GetUDP.mono _ _ _ _
   | exact dgram_PutUDP.mono _ _ _ _ _ _ _ _ _
   | exact rampartlaw05_awake.mono _
   | exact LeO.none _
   | refine LeO.ite ?_ ?_
   | refine LeO.bind ?_ (fun _ => ?_)
theorem rampartlaw05_DgramCut.mono : ∀ a0 a1 a2 k, LeO (rampartlaw05_DgramCut.f k a0 a1 a2) (rampartlaw05_DgramCut.f (k + 1) a0 a1 a2) := by
 intro a0 a1 a2 k
 have ih0 := rampartlaw05_DgramCut.mono_l k
 unfold rampartlaw05_DgramCut.f
 repeat' first
   | (with_reducible exact ih0 _ _ _ _)
   | (with_reducible exact dgram_GetUDP.mono _ _ _ _)
   | (with_reducible exact dgram_PutUDP.mono _ _ _ _ _ _ _ _ _)
   | (with_reducible exact rampartlaw05_awake.mono _)
   | (with_reducible exact LeO.refl _)
   | (with_reducible exact LeO.none _)
   | (with_reducible refine LeO.ite ?_ ?_)
   | (with_reducible refine LeO.bind ?_ (fun _ => ?_))
   | exact ih0 _ _ _ _
   | exact dgram_GetUDP.mono _ _ _ _
   | exact dgram_PutUDP.mono _ _ _ _ _ _ _ _ _
   | exact rampartlaw05_awake.mono _
   | exact LeO.none _
   | refine LeO.ite ?_ ?_
   | refine LeO.bind ?_ (fun _ => ?_)
set_option maxHeartbeats 8000000 in
set_option maxRecDepth 100000 in
theorem rampartlaw05_DgramCut.calls (k : Nat) (a0 : ByteArray) (a1 : Int) (a2 : Int) (r : Bool) (w : World) (h : rampartlaw05_DgramCut.f k a0 a1 a2 = some r) (HR0 : r = true) :
  Calls Try.prog 11 #[.string a0, .int .i64 a1, .int .i64 a2] w fun e w' => e = .returned (.bool r) ∧ Below w.heap.size w w' := by
 have HR := Aside0.mk HR0
 clear HR0
 have hu53 := Try.underlying53
 have HB := Aside0.mk (Below.refl w.heap.size w)
 have H : (if (a0.size : Int) > 500 then ((rampartlaw05_awake.f k).bind fun t254 => (some t254)) else ((dgram_PutUDP.f k 1 2 9 53 0 0 0 a0).bind fun bt255 => (if bt255.2 = 0 then (rampartlaw05_DgramCut.j0 k a1 a2 bt255.1 (decide ((bt255.1.size : Int) < 8))) else (rampartlaw05_DgramCut.j0 k a1 a2 bt255.1 true)))) = some r := h
 clear h
 by_cases c4 : (a0.size : Int) > 500
 ·
  rw [if_pos c4] at H
  have c4b0 : decide (500 < (a0.size : Int)) = true := decide_eq_true c4
  have c4b1 : decide (500 < a0.size) = true := decide_eq_true (by omega)
  clear c4
  replace H := Option.bind_eq_some_iff.mp H
  obtain ⟨t254, A50, H⟩ := H
  replace H : (some t254) = some r := H
  have A5 := Aside0.mk A50
  clear A50
  obtain rfl := Option.some.inj H
  go_enter Try.func11, Try.ntmps11
  go_wp2_with (first | ((with_reducible refine gate_callee (f := 32) rfl ?_); refine goesL_ (some 20) rfl rfl Try.func32 (by kernel_rfl) rfl #[] rfl (by (try simp only [List.map_toArray, List.map_cons, List.map_nil]); first | done | rfl | (simp only [List.length_drop, List.length_take]; rfl)) ?_; (with_reducible refine (rampartlaw05_awake.calls k  t254 _ A5.out (by first | rfl | exact HR.out)).mono ?_); rintro e w6 ⟨rfl, hb⟩; refine ⟨_, rfl, ?_⟩; have n0_ := Aside0.mk (below_step (by repeat (first | (with_reducible first | exact HB.out | apply below_alloc | apply pw_below_drewN | apply below_drew1) | exact HB.out)) hb); clear HB; have HB := n0_; clear n0_; (try clear hb); (try clear hb2); (try clear hk); (try clear hi)))
  go_ret
  exact ⟨by first | rfl | (simp [errW_none, errW_some] <;> rfl) | (simp [*, errW_none, errW_some] <;> rfl), by repeat (first | (with_reducible first | exact HB.out | apply below_alloc | apply pw_below_drewN | apply below_drew1) | exact HB.out)⟩
 ·
  rw [if_neg c4] at H
  have c4b0 : decide (500 < (a0.size : Int)) = false := decide_eq_false c4
  have c4b1 : decide (500 < a0.size) = false := decide_eq_false (by omega)
  clear c4
  replace H := Option.bind_eq_some_iff.mp H
  obtain ⟨⟨t255, t256⟩, A70, H⟩ := H
  replace H : (if t256 = 0 then (rampartlaw05_DgramCut.j0 k a1 a2 t255 (decide ((t255.size : Int) < 8))) else (rampartlaw05_DgramCut.j0 k a1 a2 t255 true)) = some r := H
  have A7 := Aside0.mk A70
  clear A70
  have HC8 := Aside0.mk H
  clear H
  go_enter Try.func11, Try.ntmps11
  go_upto_region 4 with (first | ((with_reducible refine gate_callee (f := 33) rfl ?_); refine goesL_ (some 24) rfl rfl Try.func33 (by kernel_rfl) rfl #[.int .u32 1, .int .u32 2, .agg #[.int .i64 9, .int .i64 53, .int .i64 0, .int .i64 0, .int .u32 0], .string a0] rfl (by (try simp only [List.map_toArray, List.map_cons, List.map_nil]); first | done | rfl | (simp only [List.length_drop, List.length_take]; rfl)) ?_; (with_reducible refine (dgram_PutUDP.calls k 1 2 9 53 0 0 0 a0 t255 t256 _ A7.out).mono ?_); rintro e w9 ⟨rfl, hb⟩; refine ⟨_, rfl, ?_⟩; have n0_ := Aside0.mk (below_step (by repeat (first | (with_reducible first | exact HB.out | apply below_alloc | apply pw_below_drewN | apply below_drew1) | exact HB.out)) hb); clear HB; have HB := n0_; clear n0_; (try clear hb); (try clear hb2); (try clear hk); (try clear hi)))
  (try simp only [Act.put, List.setIfInBounds_toArray, List.set_cons_zero, List.set_cons_succ])
  go_cut [33] (fun v33 wc => ∃ (kq : Nat) (x33_7 : Bool), v33 = .bool x33_7 ∧ Aside0 (rampartlaw05_DgramCut.j0 kq a1 a2 t255 x33_7 = some r) ∧ Aside0 (kq ≤ k) ∧ Aside0 (Below w.heap.size w wc))
  case first =>
   have H := HC8.out
   clear HC8
   by_cases c10 : t256 = 0
   ·
    rw [if_pos c10] at H
    have c10b0 : (t256 == 0) = true := beq_iff_eq.mpr c10
    have c10b1 : (t256 != 0) = false := bne_eq_false_iff_eq.mpr c10
    clear c10
    (first | rw [c10b0] | (simp only [i64_w, i32_w]; rw [c10b0]) | skip)
    have H' := Aside0.mk H
    clear H
    go_wp2
    go_meet
    case rel => exact ⟨_, (decide ((t255.size : Int) < 8)), (by first | rfl | (simp; done) | (simp [*]; done)), H', ⟨by first | omega | exact Nat.le_refl _⟩, ⟨by repeat (first | (with_reducible first | exact HB.out | apply below_alloc | apply pw_below_drewN | apply below_drew1) | exact HB.out)⟩⟩
   ·
    rw [if_neg c10] at H
    have c10b0 : (t256 == 0) = false := beq_eq_false_iff_ne.mpr c10
    have c10b1 : (t256 != 0) = true := bne_iff_ne.mpr c10
    (first | rw [c10b0] | (simp only [i64_w, i32_w]; rw [c10b0]) | skip)
    have H' := Aside0.mk H
    clear H
    go_wp2
    go_meet
    case rel => exact ⟨_, (true), (by first | rfl | (simp; done) | (simp [*]; done)), H', ⟨by first | omega | exact Nat.le_refl _⟩, ⟨by repeat (first | (with_reducible first | exact HB.out | apply below_alloc | apply pw_below_drewN | apply below_drew1) | exact HB.out)⟩⟩
  case rest =>
   clear HC8
   try clear c1
   try clear p2
   try clear c3
   try clear c4
   try clear c4b0
   try clear c4b1
   try clear c10
   try clear c10b0
   try clear c10b1
   obtain ⟨kq, x33_7, rfl, HA, HJ7, HB⟩ := hcut
   cases kq with
   | zero => exact absurd HA.out (by simp [rampartlaw05_DgramCut.j0])
   | succ kj7 =>
    have H := HA.out
    clear HA
    simp only [rampartlaw05_DgramCut.j0] at H
    by_cases c11 : x33_7 = true
    ·
     subst c11
     have H1 : (some false) = some r := by rw [if_pos rfl] at H; exact H
     clear H
     have H := H1
     clear H1
     exact absurd ((Option.some.inj H).trans HR.out) (by decide)
    ·
     replace c11 := Bool.eq_false_iff.mpr c11
     subst c11
     have H1 : ((rampartlaw00_Place.f a1 (t255.size : Int)).bind fun t257 => (if 0 ≤ t257 then (if t257 ≤ (t255.size : Int) then ((dgram_GetUDP.f kj7 1 2 (t255.extract 0 (t257 : Int).toNat)).bind fun bt258 => ((rampartlaw00_Place.f a2 9).bind fun t266 => (if 0 ≤ (wrap64 (1 + t266)) then (if (wrap64 (1 + t266) : Int).toNat ≤ 281474976710656 then ((some (List.replicate (wrap64 (1 + t266) : Int).toNat 0 : List Int)).bind fun y267 => (if t255.size + (strOfNums y267).size ≤ 9223372036854775807 then ((dgram_GetUDP.f kj7 1 2 (t255 ++ (strOfNums y267))).bind fun bt270 => (if t257 < 8 then (if bt258.2.2.2.2.2.2 = 2 then (if bt258.2.2.2.2.2.1.toList = ([] : List UInt8) then (if bt270.2.2.2.2.2.2 = 3 then (if bt270.2.2.2.2.2.1.toList = ([] : List UInt8) then ((rampartlaw05_awake.f kj7).bind fun t278 => (some t278)) else (some false)) else (some false)) else (some false)) else (some false)) else (if bt258.2.2.2.2.2.2 = 3 then (if bt258.2.2.2.2.2.1.toList = ([] : List UInt8) then (if bt270.2.2.2.2.2.2 = 3 then (if bt270.2.2.2.2.2.1.toList = ([] : List UInt8) then ((rampartlaw05_awake.f kj7).bind fun t279 => (some t279)) else (some false)) else (some false)) else (some false)) else (some false)))) else (none))) else (none)) else (none)))) else (none)) else (none))) = some r := by rw [if_neg (show ¬ (false = true) by decide)] at H; exact H
     clear H
     have H := H1
     clear H1
     replace H := Option.bind_eq_some_iff.mp H
     obtain ⟨t257, A120, H⟩ := H
     replace H : (if 0 ≤ t257 then (if t257 ≤ (t255.size : Int) then ((dgram_GetUDP.f kj7 1 2 (t255.extract 0 (t257 : Int).toNat)).bind fun bt258 => ((rampartlaw00_Place.f a2 9).bind fun t266 => (if 0 ≤ (wrap64 (1 + t266)) then (if (wrap64 (1 + t266) : Int).toNat ≤ 281474976710656 then ((some (List.replicate (wrap64 (1 + t266) : Int).toNat 0 : List Int)).bind fun y267 => (if t255.size + (strOfNums y267).size ≤ 9223372036854775807 then ((dgram_GetUDP.f kj7 1 2 (t255 ++ (strOfNums y267))).bind fun bt270 => (if t257 < 8 then (if bt258.2.2.2.2.2.2 = 2 then (if bt258.2.2.2.2.2.1.toList = ([] : List UInt8) then (if bt270.2.2.2.2.2.2 = 3 then (if bt270.2.2.2.2.2.1.toList = ([] : List UInt8) then ((rampartlaw05_awake.f kj7).bind fun t278 => (some t278)) else (some false)) else (some false)) else (some false)) else (some false)) else (if bt258.2.2.2.2.2.2 = 3 then (if bt258.2.2.2.2.2.1.toList = ([] : List UInt8) then (if bt270.2.2.2.2.2.2 = 3 then (if bt270.2.2.2.2.2.1.toList = ([] : List UInt8) then ((rampartlaw05_awake.f kj7).bind fun t279 => (some t279)) else (some false)) else (some false)) else (some false)) else (some false)))) else (none))) else (none)) else (none)))) else (none)) else (none)) = some r := H
     have A12 := Aside0.mk A120
     clear A120
     by_cases c13 : 0 ≤ t257
     ·
      rw [if_pos c13] at H
      have c13b0 := eq_true c13
      have c13b1 : decide (0 ≤ t257) = true := decide_eq_true c13
      clear c13
      by_cases c14 : t257 ≤ (t255.size : Int)
      ·
       rw [if_pos c14] at H
       have c14b0 := eq_true c14
       have c14b1 : decide (t257 ≤ (t255.size : Int)) = true := decide_eq_true c14
       clear c14
       replace H := Option.bind_eq_some_iff.mp H
       obtain ⟨⟨t258, t259, t260, t261, t262, t263, t264⟩, A150, H⟩ := H
       replace H : ((rampartlaw00_Place.f a2 9).bind fun t266 => (if 0 ≤ (wrap64 (1 + t266)) then (if (wrap64 (1 + t266) : Int).toNat ≤ 281474976710656 then ((some (List.replicate (wrap64 (1 + t266) : Int).toNat 0 : List Int)).bind fun y267 => (if t255.size + (strOfNums y267).size ≤ 9223372036854775807 then ((dgram_GetUDP.f kj7 1 2 (t255 ++ (strOfNums y267))).bind fun bt270 => (if t257 < 8 then (if t264 = 2 then (if t263.toList = ([] : List UInt8) then (if bt270.2.2.2.2.2.2 = 3 then (if bt270.2.2.2.2.2.1.toList = ([] : List UInt8) then ((rampartlaw05_awake.f kj7).bind fun t278 => (some t278)) else (some false)) else (some false)) else (some false)) else (some false)) else (if t264 = 3 then (if t263.toList = ([] : List UInt8) then (if bt270.2.2.2.2.2.2 = 3 then (if bt270.2.2.2.2.2.1.toList = ([] : List UInt8) then ((rampartlaw05_awake.f kj7).bind fun t279 => (some t279)) else (some false)) else (some false)) else (some false)) else (some false)))) else (none))) else (none)) else (none))) = some r := H
       have A15 := Aside0.mk A150
       clear A150
       replace H := Option.bind_eq_some_iff.mp H
       obtain ⟨t266, A160, H⟩ := H
       replace H : (if 0 ≤ (wrap64 (1 + t266)) then (if (wrap64 (1 + t266) : Int).toNat ≤ 281474976710656 then ((some (List.replicate (wrap64 (1 + t266) : Int).toNat 0 : List Int)).bind fun y267 => (if t255.size + (strOfNums y267).size ≤ 9223372036854775807 then ((dgram_GetUDP.f kj7 1 2 (t255 ++ (strOfNums y267))).bind fun bt270 => (if t257 < 8 then (if t264 = 2 then (if t263.toList = ([] : List UInt8) then (if bt270.2.2.2.2.2.2 = 3 then (if bt270.2.2.2.2.2.1.toList = ([] : List UInt8) then ((rampartlaw05_awake.f kj7).bind fun t278 => (some t278)) else (some false)) else (some false)) else (some false)) else (some false)) else (if t264 = 3 then (if t263.toList = ([] : List UInt8) then (if bt270.2.2.2.2.2.2 = 3 then (if bt270.2.2.2.2.2.1.toList = ([] : List UInt8) then ((rampartlaw05_awake.f kj7).bind fun t279 => (some t279)) else (some false)) else (some false)) else (some false)) else (some false)))) else (none))) else (none)) else (none)) = some r := H
       have A16 := Aside0.mk A160
       clear A160
       obtain ⟨ji17, hji17⟩ : ∃ j_ : Int, (wrap64 (1 + t266)) = j_ := ⟨_, rfl⟩
       replace H : (if 0 ≤ (ji17) then (if (ji17 : Int).toNat ≤ 281474976710656 then ((some (List.replicate (ji17 : Int).toNat 0 : List Int)).bind fun y267 => (if t255.size + (strOfNums y267).size ≤ 9223372036854775807 then ((dgram_GetUDP.f kj7 1 2 (t255 ++ (strOfNums y267))).bind fun bt270 => (if t257 < 8 then (if t264 = 2 then (if t263.toList = ([] : List UInt8) then (if bt270.2.2.2.2.2.2 = 3 then (if bt270.2.2.2.2.2.1.toList = ([] : List UInt8) then ((rampartlaw05_awake.f kj7).bind fun t278 => (some t278)) else (some false)) else (some false)) else (some false)) else (some false)) else (if t264 = 3 then (if t263.toList = ([] : List UInt8) then (if bt270.2.2.2.2.2.2 = 3 then (if bt270.2.2.2.2.2.1.toList = ([] : List UInt8) then ((rampartlaw05_awake.f kj7).bind fun t279 => (some t279)) else (some false)) else (some false)) else (some false)) else (some false)))) else (none))) else (none)) else (none)) = some r := by first | (rw [hji17] at H; exact H) | (simp only [hji17] at H ⊢; exact H)
       (try rw [hji17] at A12)
       (try rw [hji17] at A15)
       (try rw [hji17] at A16)
       have hji17w : (IntKind.i64.wrap (1 + t266)) = ji17 := (i64_w _).trans hji17
       by_cases c18 : 0 ≤ (ji17)
       ·
        rw [if_pos c18] at H
        have c18b0 := eq_true c18
        have c18b1 : decide (0 ≤ (ji17)) = true := decide_eq_true c18
        clear c18
        by_cases c19 : (ji17 : Int).toNat ≤ 281474976710656
        ·
         rw [if_pos c19] at H
         have c19b0 := eq_true c19
         have c19b1 : decide ((ji17 : Int).toNat ≤ 281474976710656) = true := decide_eq_true c19
         clear c19
         obtain ⟨y267, hy267⟩ : ∃ y_ : List Int, y_ = (List.replicate (ji17 : Int).toNat 0) := ⟨_, rfl⟩
         replace H : (if t255.size + (strOfNums y267).size ≤ 9223372036854775807 then ((dgram_GetUDP.f kj7 1 2 (t255 ++ (strOfNums y267))).bind fun bt270 => (if t257 < 8 then (if t264 = 2 then (if t263.toList = ([] : List UInt8) then (if bt270.2.2.2.2.2.2 = 3 then (if bt270.2.2.2.2.2.1.toList = ([] : List UInt8) then ((rampartlaw05_awake.f kj7).bind fun t278 => (some t278)) else (some false)) else (some false)) else (some false)) else (some false)) else (if t264 = 3 then (if t263.toList = ([] : List UInt8) then (if bt270.2.2.2.2.2.2 = 3 then (if bt270.2.2.2.2.2.1.toList = ([] : List UInt8) then ((rampartlaw05_awake.f kj7).bind fun t279 => (some t279)) else (some false)) else (some false)) else (some false)) else (some false)))) else (none)) = some r := by first | (rw [hy267]; with_reducible exact H) | (have H2_ := (Option.bind_some _ _).symm.trans H; rw [hy267]; with_reducible exact H2_) | (have H2_ := (Option.bind_some _ _).symm.trans H; with_reducible exact H2_) | with_reducible exact H | (rw [hy267]; exact H) | exact H
         have Ny267 := Aside0.mk hy267
         clear hy267
         by_cases c20 : t255.size + (strOfNums y267).size ≤ 9223372036854775807
         ·
          rw [if_pos c20] at H
          have c20b0 := eq_true c20
          have c20b1 : decide (t255.size + (strOfNums y267).size ≤ 9223372036854775807) = true := decide_eq_true c20
          try have c20b2 : (9223372036854775807 < t255.size + (strOfNums y267).size) = False := eq_false (Nat.not_lt.2 c20)
          replace H := Option.bind_eq_some_iff.mp H
          obtain ⟨⟨t270, t271, t272, t273, t274, t275, t276⟩, A210, H⟩ := H
          replace H : (if t257 < 8 then (if t264 = 2 then (if t263.toList = ([] : List UInt8) then (if t276 = 3 then (if t275.toList = ([] : List UInt8) then ((rampartlaw05_awake.f kj7).bind fun t278 => (some t278)) else (some false)) else (some false)) else (some false)) else (some false)) else (if t264 = 3 then (if t263.toList = ([] : List UInt8) then (if t276 = 3 then (if t275.toList = ([] : List UInt8) then ((rampartlaw05_awake.f kj7).bind fun t279 => (some t279)) else (some false)) else (some false)) else (some false)) else (some false))) = some r := H
          have A21 := Aside0.mk A210
          clear A210
          by_cases c22 : t257 < 8
          ·
           rw [if_pos c22] at H
           have c22b0 : decide (t257 < 8) = true := decide_eq_true c22
           clear c22
           by_cases c23 : t264 = 2
           ·
            rw [if_pos c23] at H
            have c23b0 : (t264 == 2) = true := beq_iff_eq.mpr c23
            have c23b1 : (t264 != 2) = false := bne_eq_false_iff_eq.mpr c23
            clear c23
            by_cases c24 : t263.toList = ([] : List UInt8)
            ·
             rw [if_pos c24] at H
             have c24b0 : (t263.toList == ([] : List UInt8)) = true := beq_iff_eq.mpr c24
             have c24b1 : (t263.toList != ([] : List UInt8)) = false := bne_eq_false_iff_eq.mpr c24
             clear c24
             by_cases c25 : t276 = 3
             ·
              rw [if_pos c25] at H
              have c25b0 : (t276 == 3) = true := beq_iff_eq.mpr c25
              have c25b1 : (t276 != 3) = false := bne_eq_false_iff_eq.mpr c25
              clear c25
              by_cases c26 : t275.toList = ([] : List UInt8)
              ·
               rw [if_pos c26] at H
               have c26b0 : (t275.toList == ([] : List UInt8)) = true := beq_iff_eq.mpr c26
               have c26b1 : (t275.toList != ([] : List UInt8)) = false := bne_eq_false_iff_eq.mpr c26
               clear c26
               replace H := Option.bind_eq_some_iff.mp H
               obtain ⟨t278, A270, H⟩ := H
               replace H : (some t278) = some r := H
               have A27 := Aside0.mk A270
               clear A270
               obtain rfl := Option.some.inj H
               go_wp2_with (first | ((with_reducible refine gate_callee (f := 23) rfl ?_); refine goesL_ (some 37) rfl rfl Try.func23 (by kernel_rfl) rfl #[.int .i64 a1, .int .i64 (t255.size : Int)] rfl (by (try simp only [List.map_toArray, List.map_cons, List.map_nil]); first | done | rfl | (simp only [List.length_drop, List.length_take]; rfl)) ?_; (with_reducible refine (rampartlaw00_Place.calls a1 (t255.size : Int) t257 _ A12.out).mono ?_); rintro e w' ⟨rfl, ⟨nd, rfl⟩⟩; refine ⟨_, rfl, ?_⟩; (try (rw [drewN_self wc]; generalize hq_ : World.drewN wc _ = wc; have n0_ : Aside0 (Below w.heap.size w wc) := ⟨by rw [← hq_]; exact (by repeat (first | (with_reducible first | exact HB.out | apply below_alloc | apply pw_below_drewN | apply below_drew1) | exact HB.out))⟩; clear HB hq_; have HB := n0_; clear n0_))) | ((with_reducible refine gate_callee (f := 34) rfl ?_); refine goesL_ (some 42) rfl rfl Try.func34 (by kernel_rfl) rfl #[.int .u32 1, .int .u32 2, .string (t255.extract 0 (t257 : Int).toNat)] rfl (by (try simp only [List.map_toArray, List.map_cons, List.map_nil]); first | done | rfl | (simp only [List.length_drop, List.length_take]; rfl)) ?_; (with_reducible refine (dgram_GetUDP.calls kj7 1 2 (t255.extract 0 (t257 : Int).toNat) t258 t259 t260 t261 t262 t263 t264 _ A15.out).mono ?_); rintro e w28 ⟨rfl, hb⟩; refine ⟨_, rfl, ?_⟩; have n0_ := Aside0.mk (below_step (by repeat (first | (with_reducible first | exact HB.out | apply below_alloc | apply pw_below_drewN | apply below_drew1) | exact HB.out)) hb); clear HB; have HB := n0_; clear n0_; (try clear hb); (try clear hb2); (try clear hk); (try clear hi)) | ((with_reducible refine gate_dst (N := 10) rfl ?_); (try (refine gate_guard (by rfl) ?_; dsimp only)); refine box_event ?hg (N := 10) ?hd (cs := #[.int .i64 0, .int .i64 0, .int .i64 0, .int .i64 0, .int .u32 0]) (t := 53) ?hr ?_; (case hd => rfl); (case hg => rfl); (case hr => first | (go_simp; done) | (go_simp; rfl)); intro gb265 hg w29 hbox hb; have n0_ := Aside0.mk (below_step (by repeat (first | (with_reducible first | exact HB.out | apply below_alloc | apply pw_below_drewN | apply below_drew1) | exact HB.out)) hb); have n1_ := Aside0.mk (hbox); have n2_ := Aside0.mk ((by rw [hg]; exact (below_size (by repeat (first | (with_reducible first | exact HB.out | apply below_alloc | apply pw_below_drewN | apply below_drew1) | exact HB.out))) : w.heap.size ≤ gb265)); have n3_ := Aside0.mk ((by rw [hg]; exact (below_size (by repeat (first | (with_reducible first | exact HB.out | apply below_alloc | apply pw_below_drewN | apply below_drew1) | exact HB.out))) : w.heap.size ≤ gb265)); clear HB; have HB := n0_; have BK265 := n1_; have GW265 := n2_; have GE265 := n3_; clear n0_ n1_ n2_ n3_; clear hb hbox hg; have hcz30_0 : w29.cell? ⟨gb265, 0, none⟩ = some (.int .i64 0) := (blk_cell BK265.out 0).trans rfl; have hcz30_1 : w29.cell? ⟨gb265, 1, none⟩ = some (.int .i64 0) := (blk_cell BK265.out 1).trans rfl; have hcz30_2 : w29.cell? ⟨gb265, 2, none⟩ = some (.int .i64 0) := (blk_cell BK265.out 2).trans rfl; have hcz30_3 : w29.cell? ⟨gb265, 3, none⟩ = some (.int .i64 0) := (blk_cell BK265.out 3).trans rfl; have hcz30_4 : w29.cell? ⟨gb265, 4, none⟩ = some (.int .u32 0) := (blk_cell BK265.out 4).trans rfl; have hfz30_0 := blk_frozen BK265.out 0; have hfz30_1 := blk_frozen BK265.out 1; have hfz30_2 := blk_frozen BK265.out 2; have hfz30_3 := blk_frozen BK265.out 3; have hfz30_4 := blk_frozen BK265.out 4) | ((with_reducible refine gate_callee (f := 23) rfl ?_); refine goesL_ (some 49) rfl rfl Try.func23 (by kernel_rfl) rfl #[.int .i64 a2, .int .i64 9] rfl (by (try simp only [List.map_toArray, List.map_cons, List.map_nil]); first | done | rfl | (simp only [List.length_drop, List.length_take]; rfl)) ?_; (with_reducible refine (rampartlaw00_Place.calls a2 9 t266 _ A16.out).mono ?_); rintro e w' ⟨rfl, ⟨nd, rfl⟩⟩; refine ⟨_, rfl, ?_⟩) | ((with_reducible refine gate_dst (N := 51) rfl ?_); (try (refine gate_guard (by rfl) ?_; dsimp only)); refine Kd.R_make (Kd.int .u8) _ 5 rfl (N := 51) rfl 34 _ _ rfl ji17 rfl rfl Try.underlying34 (.int .u8 0) 1 info5 rfl (by decide) (by omega) 0 (ok := fun _ => True) (okp := fun _ => True) rfl (fun _ hk => hk) trivial (of_decide_eq_true (by first | (with_reducible assumption) | assumption)) (Nat.le_trans (Nat.mul_le_mul_right _ (of_decide_eq_true (by first | (with_reducible assumption) | assumption) : ji17.toNat ≤ 281474976710656)) (by omega)) (Below.refl _ _) (Nat.le_refl _) ?_; intro v268 w31 ho32 hb hg_ hnew_; clear hg_ hnew_; (first | rw [← Ny267.out] at ho32 | (simp only [Int.reduceToNat] at ho32; rw [← Ny267.out] at ho32)); have n0_ := Aside0.mk (Kd.R_lower ho32 (below_size (by repeat (first | (with_reducible first | exact HB.out | apply below_alloc | apply pw_below_drewN | apply below_drew1 | refine below_set ?_ GE265.out) | exact HB.out)))); have n1_ := Aside0.mk (blk_below (g := gb265) (o := .cells #[.int .i64 t258, .int .i64 t259, .int .i64 t260, .int .i64 t261, .int .u32 t262] 53 (0, 0)) (by (with_reducible repeat (first | refine blk_drewN ?_ _ | refine blk_drew ?_ | refine blk_alloc ?_ _)); refine blk_put (cs := #[.int .i64 t258, .int .i64 t259, .int .i64 t260, .int .i64 t261, .int .u32 0]) ?_ 4 _ rfl; (with_reducible repeat (first | refine blk_drewN ?_ _ | refine blk_drew ?_ | refine blk_alloc ?_ _)); refine blk_put (cs := #[.int .i64 t258, .int .i64 t259, .int .i64 t260, .int .i64 0, .int .u32 0]) ?_ 3 _ rfl; (with_reducible repeat (first | refine blk_drewN ?_ _ | refine blk_drew ?_ | refine blk_alloc ?_ _)); refine blk_put (cs := #[.int .i64 t258, .int .i64 t259, .int .i64 0, .int .i64 0, .int .u32 0]) ?_ 2 _ rfl; (with_reducible repeat (first | refine blk_drewN ?_ _ | refine blk_drew ?_ | refine blk_alloc ?_ _)); refine blk_put (cs := #[.int .i64 t258, .int .i64 0, .int .i64 0, .int .i64 0, .int .u32 0]) ?_ 1 _ rfl; (with_reducible repeat (first | refine blk_drewN ?_ _ | refine blk_drew ?_ | refine blk_alloc ?_ _)); refine blk_put (cs := #[.int .i64 0, .int .i64 0, .int .i64 0, .int .i64 0, .int .u32 0]) ?_ 0 _ rfl; (with_reducible repeat (first | refine blk_drewN ?_ _ | refine blk_drew ?_ | refine blk_alloc ?_ _)); exact BK265.out) hb); have n2_ := Aside0.mk (below_step (by repeat (first | (with_reducible first | exact HB.out | apply below_alloc | apply pw_below_drewN | apply below_drew1 | refine below_set ?_ GE265.out) | exact HB.out)) hb); clear BK265; clear HB; have HO269 := n0_; have BK265 := n1_; have HB := n2_; clear n0_ n1_ n2_; clear hb ho32; have hcv33 := own_string (P := Try.prog) Try.underlying34 Try.underlying5 Try.underlying9 (Kd.own_of_R HO269.out)) | ((with_reducible refine gate_callee (f := 34) rfl ?_); refine goesL_ (some 54) rfl rfl Try.func34 (by kernel_rfl) rfl #[.int .u32 1, .int .u32 2, .string (t255 ++ (strOfNums y267))] rfl (by (try simp only [List.map_toArray, List.map_cons, List.map_nil]); first | done | rfl | (simp only [List.length_drop, List.length_take]; rfl)) ?_; (with_reducible refine (dgram_GetUDP.calls kj7 1 2 (t255 ++ (strOfNums y267)) t270 t271 t272 t273 t274 t275 t276 _ A21.out).mono ?_); rintro e w34 ⟨rfl, hb⟩; refine ⟨_, rfl, ?_⟩; have n0_ := Aside0.mk (Kd.R_below (by (with_reducible repeat (first | apply Kd.R_alloc | apply Kd.R_drewN | apply Kd.R_drew)); exact HO269.out) hb); have n1_ := Aside0.mk (blk_below (g := gb265) (o := .cells #[.int .i64 t258, .int .i64 t259, .int .i64 t260, .int .i64 t261, .int .u32 t262] 53 (0, 0)) (by (with_reducible repeat (first | refine blk_drewN ?_ _ | refine blk_drew ?_ | refine blk_alloc ?_ _)); exact BK265.out) hb); have n2_ := Aside0.mk (below_step (by repeat (first | (with_reducible first | exact HB.out | apply below_alloc | apply pw_below_drewN | apply below_drew1 | refine below_set ?_ GE265.out) | exact HB.out)) hb); clear HO269; clear BK265; clear HB; have HO269 := n0_; have BK265 := n1_; have HB := n2_; clear n0_ n1_ n2_; (try clear hb); (try clear hb2); (try clear hk); (try clear hi)) | ((with_reducible refine gate_dst (N := 13) rfl ?_); (try (refine gate_guard (by rfl) ?_; dsimp only)); refine box_event ?hg (N := 13) ?hd (cs := #[.int .i64 0, .int .i64 0, .int .i64 0, .int .i64 0, .int .u32 0]) (t := 53) ?hr ?_; (case hd => rfl); (case hg => rfl); (case hr => first | (go_simp; done) | (go_simp; rfl)); intro gb277 hg w35 hbox hb; have n0_ := Aside0.mk (Kd.R_below (by (with_reducible repeat (first | apply Kd.R_alloc | apply Kd.R_drewN | apply Kd.R_drew)); exact HO269.out) hb); have n1_ := Aside0.mk (blk_below (g := gb265) (o := .cells #[.int .i64 t258, .int .i64 t259, .int .i64 t260, .int .i64 t261, .int .u32 t262] 53 (0, 0)) (by (with_reducible repeat (first | refine blk_drewN ?_ _ | refine blk_drew ?_ | refine blk_alloc ?_ _)); exact BK265.out) hb); have n2_ := Aside0.mk (below_step (by repeat (first | (with_reducible first | exact HB.out | apply below_alloc | apply pw_below_drewN | apply below_drew1 | refine below_set ?_ GE265.out) | exact HB.out)) hb); have n3_ := Aside0.mk (hbox); have n4_ := Aside0.mk ((by rw [hg]; exact (below_size (by repeat (first | (with_reducible first | exact HB.out | apply below_alloc | apply pw_below_drewN | apply below_drew1 | refine below_set ?_ GE265.out) | exact HB.out))) : w.heap.size ≤ gb277)); have n5_ := Aside0.mk ((by rw [hg]; exact (below_size (by repeat (first | (with_reducible first | exact HB.out | apply below_alloc | apply pw_below_drewN | apply below_drew1 | refine below_set ?_ GE265.out) | exact HB.out))) : w.heap.size ≤ gb277)); have n6_ := Aside0.mk ((by rw [hg]; exact Nat.ne_of_lt (blk_lt (g := gb265) (o := .cells #[.int .i64 t258, .int .i64 t259, .int .i64 t260, .int .i64 t261, .int .u32 t262] 53 (0, 0)) (by (with_reducible repeat (first | refine blk_drewN ?_ _ | refine blk_drew ?_ | refine blk_alloc ?_ _)); exact BK265.out)) : gb265 ≠ gb277)); have n7_ := Aside0.mk ((by rw [hg]; exact Nat.ne_of_gt (blk_lt (g := gb265) (o := .cells #[.int .i64 t258, .int .i64 t259, .int .i64 t260, .int .i64 t261, .int .u32 t262] 53 (0, 0)) (by (with_reducible repeat (first | refine blk_drewN ?_ _ | refine blk_drew ?_ | refine blk_alloc ?_ _)); exact BK265.out)) : gb277 ≠ gb265)); clear HO269; clear BK265; clear HB; have HO269 := n0_; have BK265 := n1_; have HB := n2_; have BK277 := n3_; have GW277 := n4_; have GE277 := n5_; have NB265_277 := n6_; have NB277_265 := n7_; clear n0_ n1_ n2_ n3_ n4_ n5_ n6_ n7_; clear hb hbox hg; have hnb36 := NB277_265.out; have hnc36 := NB265_277.out; have hcz37_0 : w35.cell? ⟨gb277, 0, none⟩ = some (.int .i64 0) := (blk_cell BK277.out 0).trans rfl; have hcz37_1 : w35.cell? ⟨gb277, 1, none⟩ = some (.int .i64 0) := (blk_cell BK277.out 1).trans rfl; have hcz37_2 : w35.cell? ⟨gb277, 2, none⟩ = some (.int .i64 0) := (blk_cell BK277.out 2).trans rfl; have hcz37_3 : w35.cell? ⟨gb277, 3, none⟩ = some (.int .i64 0) := (blk_cell BK277.out 3).trans rfl; have hcz37_4 : w35.cell? ⟨gb277, 4, none⟩ = some (.int .u32 0) := (blk_cell BK277.out 4).trans rfl; have hfz37_0 := blk_frozen BK277.out 0; have hfz37_1 := blk_frozen BK277.out 1; have hfz37_2 := blk_frozen BK277.out 2; have hfz37_3 := blk_frozen BK277.out 3; have hfz37_4 := blk_frozen BK277.out 4) | (go_at_call 32; (with_reducible refine (rampartlaw05_awake.calls kj7  t278 _ A27.out (by first | rfl | exact HR.out)).mono ?_); rintro e w38 ⟨rfl, hb⟩; have n0_ := Aside0.mk (Kd.R_below (by (with_reducible repeat (first | apply Kd.R_alloc | apply Kd.R_drewN | apply Kd.R_drew)); exact (Kd.R_mono (Kd.R_far (p := ⟨gb277, 4, none⟩) (Kd.R_far (p := ⟨gb277, 3, none⟩) (Kd.R_far (p := ⟨gb277, 2, none⟩) (Kd.R_far (p := ⟨gb277, 1, none⟩) (Kd.R_far (p := ⟨gb277, 0, none⟩) (Kd.R_types HO269.out BK277.out (by decide)) (fun _ hk => hk.2) (.int .i64 t270)) (fun _ hk => hk.2) (.int .i64 t271)) (fun _ hk => hk.2) (.int .i64 t272)) (fun _ hk => hk.2) (.int .i64 t273)) (fun _ hk => hk.2) (.int .u32 t274)) (fun _ h_ => h_.1))) hb); have n1_ := Aside0.mk (blk_below (g := gb265) (o := .cells #[.int .i64 t258, .int .i64 t259, .int .i64 t260, .int .i64 t261, .int .u32 t262] 53 (0, 0)) (by (with_reducible repeat (first | refine blk_drewN ?_ _ | refine blk_drew ?_ | refine blk_alloc ?_ _)); refine blk_far ?_ NB265_277.out _; (with_reducible repeat (first | refine blk_drewN ?_ _ | refine blk_drew ?_ | refine blk_alloc ?_ _)); refine blk_far ?_ NB265_277.out _; (with_reducible repeat (first | refine blk_drewN ?_ _ | refine blk_drew ?_ | refine blk_alloc ?_ _)); refine blk_far ?_ NB265_277.out _; (with_reducible repeat (first | refine blk_drewN ?_ _ | refine blk_drew ?_ | refine blk_alloc ?_ _)); refine blk_far ?_ NB265_277.out _; (with_reducible repeat (first | refine blk_drewN ?_ _ | refine blk_drew ?_ | refine blk_alloc ?_ _)); refine blk_far ?_ NB265_277.out _; (with_reducible repeat (first | refine blk_drewN ?_ _ | refine blk_drew ?_ | refine blk_alloc ?_ _)); exact BK265.out) hb); have n2_ := Aside0.mk (blk_below (g := gb277) (o := .cells #[.int .i64 t270, .int .i64 t271, .int .i64 t272, .int .i64 t273, .int .u32 t274] 53 (0, 0)) (by (with_reducible repeat (first | refine blk_drewN ?_ _ | refine blk_drew ?_ | refine blk_alloc ?_ _)); refine blk_put (cs := #[.int .i64 t270, .int .i64 t271, .int .i64 t272, .int .i64 t273, .int .u32 0]) ?_ 4 _ rfl; (with_reducible repeat (first | refine blk_drewN ?_ _ | refine blk_drew ?_ | refine blk_alloc ?_ _)); refine blk_put (cs := #[.int .i64 t270, .int .i64 t271, .int .i64 t272, .int .i64 0, .int .u32 0]) ?_ 3 _ rfl; (with_reducible repeat (first | refine blk_drewN ?_ _ | refine blk_drew ?_ | refine blk_alloc ?_ _)); refine blk_put (cs := #[.int .i64 t270, .int .i64 t271, .int .i64 0, .int .i64 0, .int .u32 0]) ?_ 2 _ rfl; (with_reducible repeat (first | refine blk_drewN ?_ _ | refine blk_drew ?_ | refine blk_alloc ?_ _)); refine blk_put (cs := #[.int .i64 t270, .int .i64 0, .int .i64 0, .int .i64 0, .int .u32 0]) ?_ 1 _ rfl; (with_reducible repeat (first | refine blk_drewN ?_ _ | refine blk_drew ?_ | refine blk_alloc ?_ _)); refine blk_put (cs := #[.int .i64 0, .int .i64 0, .int .i64 0, .int .i64 0, .int .u32 0]) ?_ 0 _ rfl; (with_reducible repeat (first | refine blk_drewN ?_ _ | refine blk_drew ?_ | refine blk_alloc ?_ _)); exact BK277.out) hb); have n3_ := Aside0.mk (below_step (by repeat (first | (with_reducible first | exact HB.out | apply below_alloc | apply pw_below_drewN | apply below_drew1 | refine below_set ?_ GE265.out | refine below_set ?_ GE277.out) | exact HB.out)) hb); clear HO269; clear BK265; clear BK277; clear HB; have HO269 := n0_; have BK265 := n1_; have BK277 := n2_; have HB := n3_; clear n0_ n1_ n2_ n3_; (try clear hb); (try clear hb2); (try clear hk); (try clear hi)))
               go_ret
               exact ⟨by first | rfl | (simp [errW_none, errW_some] <;> rfl) | (simp only [← hji17]; first | rfl | (simp [errW_none, errW_some] <;> rfl)) | (simp [*, errW_none, errW_some] <;> rfl), by repeat (first | (with_reducible first | exact HB.out | apply below_alloc | apply pw_below_drewN | apply below_drew1 | refine below_set ?_ GE265.out | refine below_set ?_ GE277.out) | exact HB.out)⟩
              ·
               rw [if_neg c26] at H
               have c26b0 : (t275.toList == ([] : List UInt8)) = false := beq_eq_false_iff_ne.mpr c26
               have c26b1 : (t275.toList != ([] : List UInt8)) = true := bne_iff_ne.mpr c26
               exact absurd ((Option.some.inj H).trans HR.out) (by decide)
             ·
              rw [if_neg c25] at H
              have c25b0 : (t276 == 3) = false := beq_eq_false_iff_ne.mpr c25
              have c25b1 : (t276 != 3) = true := bne_iff_ne.mpr c25
              exact absurd ((Option.some.inj H).trans HR.out) (by decide)
            ·
             rw [if_neg c24] at H
             have c24b0 : (t263.toList == ([] : List UInt8)) = false := beq_eq_false_iff_ne.mpr c24
             have c24b1 : (t263.toList != ([] : List UInt8)) = true := bne_iff_ne.mpr c24
             exact absurd ((Option.some.inj H).trans HR.out) (by decide)
           ·
            rw [if_neg c23] at H
            have c23b0 : (t264 == 2) = false := beq_eq_false_iff_ne.mpr c23
            have c23b1 : (t264 != 2) = true := bne_iff_ne.mpr c23
            exact absurd ((Option.some.inj H).trans HR.out) (by decide)
          ·
           rw [if_neg c22] at H
           have c22b0 : decide (t257 < 8) = false := decide_eq_false c22
           clear c22
           by_cases c39 : t264 = 3
           ·
            rw [if_pos c39] at H
            have c39b0 : (t264 == 3) = true := beq_iff_eq.mpr c39
            have c39b1 : (t264 != 3) = false := bne_eq_false_iff_eq.mpr c39
            clear c39
            by_cases c40 : t263.toList = ([] : List UInt8)
            ·
             rw [if_pos c40] at H
             have c40b0 : (t263.toList == ([] : List UInt8)) = true := beq_iff_eq.mpr c40
             have c40b1 : (t263.toList != ([] : List UInt8)) = false := bne_eq_false_iff_eq.mpr c40
             clear c40
             by_cases c41 : t276 = 3
             ·
              rw [if_pos c41] at H
              have c41b0 : (t276 == 3) = true := beq_iff_eq.mpr c41
              have c41b1 : (t276 != 3) = false := bne_eq_false_iff_eq.mpr c41
              clear c41
              by_cases c42 : t275.toList = ([] : List UInt8)
              ·
               rw [if_pos c42] at H
               have c42b0 : (t275.toList == ([] : List UInt8)) = true := beq_iff_eq.mpr c42
               have c42b1 : (t275.toList != ([] : List UInt8)) = false := bne_eq_false_iff_eq.mpr c42
               clear c42
               replace H := Option.bind_eq_some_iff.mp H
               obtain ⟨t279, A430, H⟩ := H
               replace H : (some t279) = some r := H
               have A43 := Aside0.mk A430
               clear A430
               obtain rfl := Option.some.inj H
               go_wp2_with (first | ((with_reducible refine gate_callee (f := 23) rfl ?_); refine goesL_ (some 37) rfl rfl Try.func23 (by kernel_rfl) rfl #[.int .i64 a1, .int .i64 (t255.size : Int)] rfl (by (try simp only [List.map_toArray, List.map_cons, List.map_nil]); first | done | rfl | (simp only [List.length_drop, List.length_take]; rfl)) ?_; (with_reducible refine (rampartlaw00_Place.calls a1 (t255.size : Int) t257 _ A12.out).mono ?_); rintro e w' ⟨rfl, ⟨nd, rfl⟩⟩; refine ⟨_, rfl, ?_⟩; (try (rw [drewN_self wc]; generalize hq_ : World.drewN wc _ = wc; have n0_ : Aside0 (Below w.heap.size w wc) := ⟨by rw [← hq_]; exact (by repeat (first | (with_reducible first | exact HB.out | apply below_alloc | apply pw_below_drewN | apply below_drew1) | exact HB.out))⟩; clear HB hq_; have HB := n0_; clear n0_))) | ((with_reducible refine gate_callee (f := 34) rfl ?_); refine goesL_ (some 42) rfl rfl Try.func34 (by kernel_rfl) rfl #[.int .u32 1, .int .u32 2, .string (t255.extract 0 (t257 : Int).toNat)] rfl (by (try simp only [List.map_toArray, List.map_cons, List.map_nil]); first | done | rfl | (simp only [List.length_drop, List.length_take]; rfl)) ?_; (with_reducible refine (dgram_GetUDP.calls kj7 1 2 (t255.extract 0 (t257 : Int).toNat) t258 t259 t260 t261 t262 t263 t264 _ A15.out).mono ?_); rintro e w44 ⟨rfl, hb⟩; refine ⟨_, rfl, ?_⟩; have n0_ := Aside0.mk (below_step (by repeat (first | (with_reducible first | exact HB.out | apply below_alloc | apply pw_below_drewN | apply below_drew1) | exact HB.out)) hb); clear HB; have HB := n0_; clear n0_; (try clear hb); (try clear hb2); (try clear hk); (try clear hi)) | ((with_reducible refine gate_dst (N := 10) rfl ?_); (try (refine gate_guard (by rfl) ?_; dsimp only)); refine box_event ?hg (N := 10) ?hd (cs := #[.int .i64 0, .int .i64 0, .int .i64 0, .int .i64 0, .int .u32 0]) (t := 53) ?hr ?_; (case hd => rfl); (case hg => rfl); (case hr => first | (go_simp; done) | (go_simp; rfl)); intro gb265 hg w45 hbox hb; have n0_ := Aside0.mk (below_step (by repeat (first | (with_reducible first | exact HB.out | apply below_alloc | apply pw_below_drewN | apply below_drew1) | exact HB.out)) hb); have n1_ := Aside0.mk (hbox); have n2_ := Aside0.mk ((by rw [hg]; exact (below_size (by repeat (first | (with_reducible first | exact HB.out | apply below_alloc | apply pw_below_drewN | apply below_drew1) | exact HB.out))) : w.heap.size ≤ gb265)); have n3_ := Aside0.mk ((by rw [hg]; exact (below_size (by repeat (first | (with_reducible first | exact HB.out | apply below_alloc | apply pw_below_drewN | apply below_drew1) | exact HB.out))) : w.heap.size ≤ gb265)); clear HB; have HB := n0_; have BK265 := n1_; have GW265 := n2_; have GE265 := n3_; clear n0_ n1_ n2_ n3_; clear hb hbox hg; have hcz46_0 : w45.cell? ⟨gb265, 0, none⟩ = some (.int .i64 0) := (blk_cell BK265.out 0).trans rfl; have hcz46_1 : w45.cell? ⟨gb265, 1, none⟩ = some (.int .i64 0) := (blk_cell BK265.out 1).trans rfl; have hcz46_2 : w45.cell? ⟨gb265, 2, none⟩ = some (.int .i64 0) := (blk_cell BK265.out 2).trans rfl; have hcz46_3 : w45.cell? ⟨gb265, 3, none⟩ = some (.int .i64 0) := (blk_cell BK265.out 3).trans rfl; have hcz46_4 : w45.cell? ⟨gb265, 4, none⟩ = some (.int .u32 0) := (blk_cell BK265.out 4).trans rfl; have hfz46_0 := blk_frozen BK265.out 0; have hfz46_1 := blk_frozen BK265.out 1; have hfz46_2 := blk_frozen BK265.out 2; have hfz46_3 := blk_frozen BK265.out 3; have hfz46_4 := blk_frozen BK265.out 4) | ((with_reducible refine gate_callee (f := 23) rfl ?_); refine goesL_ (some 49) rfl rfl Try.func23 (by kernel_rfl) rfl #[.int .i64 a2, .int .i64 9] rfl (by (try simp only [List.map_toArray, List.map_cons, List.map_nil]); first | done | rfl | (simp only [List.length_drop, List.length_take]; rfl)) ?_; (with_reducible refine (rampartlaw00_Place.calls a2 9 t266 _ A16.out).mono ?_); rintro e w' ⟨rfl, ⟨nd, rfl⟩⟩; refine ⟨_, rfl, ?_⟩) | ((with_reducible refine gate_dst (N := 51) rfl ?_); (try (refine gate_guard (by rfl) ?_; dsimp only)); refine Kd.R_make (Kd.int .u8) _ 5 rfl (N := 51) rfl 34 _ _ rfl ji17 rfl rfl Try.underlying34 (.int .u8 0) 1 info5 rfl (by decide) (by omega) 0 (ok := fun _ => True) (okp := fun _ => True) rfl (fun _ hk => hk) trivial (of_decide_eq_true (by first | (with_reducible assumption) | assumption)) (Nat.le_trans (Nat.mul_le_mul_right _ (of_decide_eq_true (by first | (with_reducible assumption) | assumption) : ji17.toNat ≤ 281474976710656)) (by omega)) (Below.refl _ _) (Nat.le_refl _) ?_; intro v268 w47 ho48 hb hg_ hnew_; clear hg_ hnew_; (first | rw [← Ny267.out] at ho48 | (simp only [Int.reduceToNat] at ho48; rw [← Ny267.out] at ho48)); have n0_ := Aside0.mk (Kd.R_lower ho48 (below_size (by repeat (first | (with_reducible first | exact HB.out | apply below_alloc | apply pw_below_drewN | apply below_drew1 | refine below_set ?_ GE265.out) | exact HB.out)))); have n1_ := Aside0.mk (blk_below (g := gb265) (o := .cells #[.int .i64 t258, .int .i64 t259, .int .i64 t260, .int .i64 t261, .int .u32 t262] 53 (0, 0)) (by (with_reducible repeat (first | refine blk_drewN ?_ _ | refine blk_drew ?_ | refine blk_alloc ?_ _)); refine blk_put (cs := #[.int .i64 t258, .int .i64 t259, .int .i64 t260, .int .i64 t261, .int .u32 0]) ?_ 4 _ rfl; (with_reducible repeat (first | refine blk_drewN ?_ _ | refine blk_drew ?_ | refine blk_alloc ?_ _)); refine blk_put (cs := #[.int .i64 t258, .int .i64 t259, .int .i64 t260, .int .i64 0, .int .u32 0]) ?_ 3 _ rfl; (with_reducible repeat (first | refine blk_drewN ?_ _ | refine blk_drew ?_ | refine blk_alloc ?_ _)); refine blk_put (cs := #[.int .i64 t258, .int .i64 t259, .int .i64 0, .int .i64 0, .int .u32 0]) ?_ 2 _ rfl; (with_reducible repeat (first | refine blk_drewN ?_ _ | refine blk_drew ?_ | refine blk_alloc ?_ _)); refine blk_put (cs := #[.int .i64 t258, .int .i64 0, .int .i64 0, .int .i64 0, .int .u32 0]) ?_ 1 _ rfl; (with_reducible repeat (first | refine blk_drewN ?_ _ | refine blk_drew ?_ | refine blk_alloc ?_ _)); refine blk_put (cs := #[.int .i64 0, .int .i64 0, .int .i64 0, .int .i64 0, .int .u32 0]) ?_ 0 _ rfl; (with_reducible repeat (first | refine blk_drewN ?_ _ | refine blk_drew ?_ | refine blk_alloc ?_ _)); exact BK265.out) hb); have n2_ := Aside0.mk (below_step (by repeat (first | (with_reducible first | exact HB.out | apply below_alloc | apply pw_below_drewN | apply below_drew1 | refine below_set ?_ GE265.out) | exact HB.out)) hb); clear BK265; clear HB; have HO269 := n0_; have BK265 := n1_; have HB := n2_; clear n0_ n1_ n2_; clear hb ho48; have hcv49 := own_string (P := Try.prog) Try.underlying34 Try.underlying5 Try.underlying9 (Kd.own_of_R HO269.out)) | ((with_reducible refine gate_callee (f := 34) rfl ?_); refine goesL_ (some 54) rfl rfl Try.func34 (by kernel_rfl) rfl #[.int .u32 1, .int .u32 2, .string (t255 ++ (strOfNums y267))] rfl (by (try simp only [List.map_toArray, List.map_cons, List.map_nil]); first | done | rfl | (simp only [List.length_drop, List.length_take]; rfl)) ?_; (with_reducible refine (dgram_GetUDP.calls kj7 1 2 (t255 ++ (strOfNums y267)) t270 t271 t272 t273 t274 t275 t276 _ A21.out).mono ?_); rintro e w50 ⟨rfl, hb⟩; refine ⟨_, rfl, ?_⟩; have n0_ := Aside0.mk (Kd.R_below (by (with_reducible repeat (first | apply Kd.R_alloc | apply Kd.R_drewN | apply Kd.R_drew)); exact HO269.out) hb); have n1_ := Aside0.mk (blk_below (g := gb265) (o := .cells #[.int .i64 t258, .int .i64 t259, .int .i64 t260, .int .i64 t261, .int .u32 t262] 53 (0, 0)) (by (with_reducible repeat (first | refine blk_drewN ?_ _ | refine blk_drew ?_ | refine blk_alloc ?_ _)); exact BK265.out) hb); have n2_ := Aside0.mk (below_step (by repeat (first | (with_reducible first | exact HB.out | apply below_alloc | apply pw_below_drewN | apply below_drew1 | refine below_set ?_ GE265.out) | exact HB.out)) hb); clear HO269; clear BK265; clear HB; have HO269 := n0_; have BK265 := n1_; have HB := n2_; clear n0_ n1_ n2_; (try clear hb); (try clear hb2); (try clear hk); (try clear hi)) | ((with_reducible refine gate_dst (N := 13) rfl ?_); (try (refine gate_guard (by rfl) ?_; dsimp only)); refine box_event ?hg (N := 13) ?hd (cs := #[.int .i64 0, .int .i64 0, .int .i64 0, .int .i64 0, .int .u32 0]) (t := 53) ?hr ?_; (case hd => rfl); (case hg => rfl); (case hr => first | (go_simp; done) | (go_simp; rfl)); intro gb277 hg w51 hbox hb; have n0_ := Aside0.mk (Kd.R_below (by (with_reducible repeat (first | apply Kd.R_alloc | apply Kd.R_drewN | apply Kd.R_drew)); exact HO269.out) hb); have n1_ := Aside0.mk (blk_below (g := gb265) (o := .cells #[.int .i64 t258, .int .i64 t259, .int .i64 t260, .int .i64 t261, .int .u32 t262] 53 (0, 0)) (by (with_reducible repeat (first | refine blk_drewN ?_ _ | refine blk_drew ?_ | refine blk_alloc ?_ _)); exact BK265.out) hb); have n2_ := Aside0.mk (below_step (by repeat (first | (with_reducible first | exact HB.out | apply below_alloc | apply pw_below_drewN | apply below_drew1 | refine below_set ?_ GE265.out) | exact HB.out)) hb); have n3_ := Aside0.mk (hbox); have n4_ := Aside0.mk ((by rw [hg]; exact (below_size (by repeat (first | (with_reducible first | exact HB.out | apply below_alloc | apply pw_below_drewN | apply below_drew1 | refine below_set ?_ GE265.out) | exact HB.out))) : w.heap.size ≤ gb277)); have n5_ := Aside0.mk ((by rw [hg]; exact (below_size (by repeat (first | (with_reducible first | exact HB.out | apply below_alloc | apply pw_below_drewN | apply below_drew1 | refine below_set ?_ GE265.out) | exact HB.out))) : w.heap.size ≤ gb277)); have n6_ := Aside0.mk ((by rw [hg]; exact Nat.ne_of_lt (blk_lt (g := gb265) (o := .cells #[.int .i64 t258, .int .i64 t259, .int .i64 t260, .int .i64 t261, .int .u32 t262] 53 (0, 0)) (by (with_reducible repeat (first | refine blk_drewN ?_ _ | refine blk_drew ?_ | refine blk_alloc ?_ _)); exact BK265.out)) : gb265 ≠ gb277)); have n7_ := Aside0.mk ((by rw [hg]; exact Nat.ne_of_gt (blk_lt (g := gb265) (o := .cells #[.int .i64 t258, .int .i64 t259, .int .i64 t260, .int .i64 t261, .int .u32 t262] 53 (0, 0)) (by (with_reducible repeat (first | refine blk_drewN ?_ _ | refine blk_drew ?_ | refine blk_alloc ?_ _)); exact BK265.out)) : gb277 ≠ gb265)); clear HO269; clear BK265; clear HB; have HO269 := n0_; have BK265 := n1_; have HB := n2_; have BK277 := n3_; have GW277 := n4_; have GE277 := n5_; have NB265_277 := n6_; have NB277_265 := n7_; clear n0_ n1_ n2_ n3_ n4_ n5_ n6_ n7_; clear hb hbox hg; have hnb52 := NB277_265.out; have hnc52 := NB265_277.out; have hcz53_0 : w51.cell? ⟨gb277, 0, none⟩ = some (.int .i64 0) := (blk_cell BK277.out 0).trans rfl; have hcz53_1 : w51.cell? ⟨gb277, 1, none⟩ = some (.int .i64 0) := (blk_cell BK277.out 1).trans rfl; have hcz53_2 : w51.cell? ⟨gb277, 2, none⟩ = some (.int .i64 0) := (blk_cell BK277.out 2).trans rfl; have hcz53_3 : w51.cell? ⟨gb277, 3, none⟩ = some (.int .i64 0) := (blk_cell BK277.out 3).trans rfl; have hcz53_4 : w51.cell? ⟨gb277, 4, none⟩ = some (.int .u32 0) := (blk_cell BK277.out 4).trans rfl; have hfz53_0 := blk_frozen BK277.out 0; have hfz53_1 := blk_frozen BK277.out 1; have hfz53_2 := blk_frozen BK277.out 2; have hfz53_3 := blk_frozen BK277.out 3; have hfz53_4 := blk_frozen BK277.out 4) | (go_at_call 32; (with_reducible refine (rampartlaw05_awake.calls kj7  t279 _ A43.out (by first | rfl | exact HR.out)).mono ?_); rintro e w54 ⟨rfl, hb⟩; have n0_ := Aside0.mk (Kd.R_below (by (with_reducible repeat (first | apply Kd.R_alloc | apply Kd.R_drewN | apply Kd.R_drew)); exact (Kd.R_mono (Kd.R_far (p := ⟨gb277, 4, none⟩) (Kd.R_far (p := ⟨gb277, 3, none⟩) (Kd.R_far (p := ⟨gb277, 2, none⟩) (Kd.R_far (p := ⟨gb277, 1, none⟩) (Kd.R_far (p := ⟨gb277, 0, none⟩) (Kd.R_types HO269.out BK277.out (by decide)) (fun _ hk => hk.2) (.int .i64 t270)) (fun _ hk => hk.2) (.int .i64 t271)) (fun _ hk => hk.2) (.int .i64 t272)) (fun _ hk => hk.2) (.int .i64 t273)) (fun _ hk => hk.2) (.int .u32 t274)) (fun _ h_ => h_.1))) hb); have n1_ := Aside0.mk (blk_below (g := gb265) (o := .cells #[.int .i64 t258, .int .i64 t259, .int .i64 t260, .int .i64 t261, .int .u32 t262] 53 (0, 0)) (by (with_reducible repeat (first | refine blk_drewN ?_ _ | refine blk_drew ?_ | refine blk_alloc ?_ _)); refine blk_far ?_ NB265_277.out _; (with_reducible repeat (first | refine blk_drewN ?_ _ | refine blk_drew ?_ | refine blk_alloc ?_ _)); refine blk_far ?_ NB265_277.out _; (with_reducible repeat (first | refine blk_drewN ?_ _ | refine blk_drew ?_ | refine blk_alloc ?_ _)); refine blk_far ?_ NB265_277.out _; (with_reducible repeat (first | refine blk_drewN ?_ _ | refine blk_drew ?_ | refine blk_alloc ?_ _)); refine blk_far ?_ NB265_277.out _; (with_reducible repeat (first | refine blk_drewN ?_ _ | refine blk_drew ?_ | refine blk_alloc ?_ _)); refine blk_far ?_ NB265_277.out _; (with_reducible repeat (first | refine blk_drewN ?_ _ | refine blk_drew ?_ | refine blk_alloc ?_ _)); exact BK265.out) hb); have n2_ := Aside0.mk (blk_below (g := gb277) (o := .cells #[.int .i64 t270, .int .i64 t271, .int .i64 t272, .int .i64 t273, .int .u32 t274] 53 (0, 0)) (by (with_reducible repeat (first | refine blk_drewN ?_ _ | refine blk_drew ?_ | refine blk_alloc ?_ _)); refine blk_put (cs := #[.int .i64 t270, .int .i64 t271, .int .i64 t272, .int .i64 t273, .int .u32 0]) ?_ 4 _ rfl; (with_reducible repeat (first | refine blk_drewN ?_ _ | refine blk_drew ?_ | refine blk_alloc ?_ _)); refine blk_put (cs := #[.int .i64 t270, .int .i64 t271, .int .i64 t272, .int .i64 0, .int .u32 0]) ?_ 3 _ rfl; (with_reducible repeat (first | refine blk_drewN ?_ _ | refine blk_drew ?_ | refine blk_alloc ?_ _)); refine blk_put (cs := #[.int .i64 t270, .int .i64 t271, .int .i64 0, .int .i64 0, .int .u32 0]) ?_ 2 _ rfl; (with_reducible repeat (first | refine blk_drewN ?_ _ | refine blk_drew ?_ | refine blk_alloc ?_ _)); refine blk_put (cs := #[.int .i64 t270, .int .i64 0, .int .i64 0, .int .i64 0, .int .u32 0]) ?_ 1 _ rfl; (with_reducible repeat (first | refine blk_drewN ?_ _ | refine blk_drew ?_ | refine blk_alloc ?_ _)); refine blk_put (cs := #[.int .i64 0, .int .i64 0, .int .i64 0, .int .i64 0, .int .u32 0]) ?_ 0 _ rfl; (with_reducible repeat (first | refine blk_drewN ?_ _ | refine blk_drew ?_ | refine blk_alloc ?_ _)); exact BK277.out) hb); have n3_ := Aside0.mk (below_step (by repeat (first | (with_reducible first | exact HB.out | apply below_alloc | apply pw_below_drewN | apply below_drew1 | refine below_set ?_ GE265.out | refine below_set ?_ GE277.out) | exact HB.out)) hb); clear HO269; clear BK265; clear BK277; clear HB; have HO269 := n0_; have BK265 := n1_; have BK277 := n2_; have HB := n3_; clear n0_ n1_ n2_ n3_; (try clear hb); (try clear hb2); (try clear hk); (try clear hi)))
               go_ret
               exact ⟨by first | rfl | (simp [errW_none, errW_some] <;> rfl) | (simp only [← hji17]; first | rfl | (simp [errW_none, errW_some] <;> rfl)) | (simp [*, errW_none, errW_some] <;> rfl), by repeat (first | (with_reducible first | exact HB.out | apply below_alloc | apply pw_below_drewN | apply below_drew1 | refine below_set ?_ GE265.out | refine below_set ?_ GE277.out) | exact HB.out)⟩
              ·
               rw [if_neg c42] at H
               have c42b0 : (t275.toList == ([] : List UInt8)) = false := beq_eq_false_iff_ne.mpr c42
               have c42b1 : (t275.toList != ([] : List UInt8)) = true := bne_iff_ne.mpr c42
               exact absurd ((Option.some.inj H).trans HR.out) (by decide)
             ·
              rw [if_neg c41] at H
              have c41b0 : (t276 == 3) = false := beq_eq_false_iff_ne.mpr c41
              have c41b1 : (t276 != 3) = true := bne_iff_ne.mpr c41
              exact absurd ((Option.some.inj H).trans HR.out) (by decide)
            ·
             rw [if_neg c40] at H
             have c40b0 : (t263.toList == ([] : List UInt8)) = false := beq_eq_false_iff_ne.mpr c40
             have c40b1 : (t263.toList != ([] : List UInt8)) = true := bne_iff_ne.mpr c40
             exact absurd ((Option.some.inj H).trans HR.out) (by decide)
           ·
            rw [if_neg c39] at H
            have c39b0 : (t264 == 3) = false := beq_eq_false_iff_ne.mpr c39
            have c39b1 : (t264 != 3) = true := bne_iff_ne.mpr c39
            exact absurd ((Option.some.inj H).trans HR.out) (by decide)
         ·
          rw [if_neg c20] at H
          exact absurd H (by simp)
        ·
         rw [if_neg c19] at H
         exact absurd H (by simp)
       ·
        rw [if_neg c18] at H
        exact absurd H (by simp)
      ·
       rw [if_neg c14] at H
       exact absurd H (by simp)
     ·
      rw [if_neg c13] at H
      exact absurd H (by simp)

/-- THE ONE PURE STATEMENT of rampartlaw05_DgramCut: yours. -/
def rampartlaw05_DgramCut.Pure : Prop := ∀ (a0 : ByteArray) (a1 : Int) (a2 : Int), a0.size ≤ 140737488351232 → (Lit.int .i64 a1).wf = true → (Lit.int .i64 a2).wf = true → ∃ k, rampartlaw05_DgramCut.f k a0 a1 a2 = some true
theorem rampartlaw05_DgramCut.walk (P : rampartlaw05_DgramCut.Pure) (a0 : ByteArray) (a1 : Int) (a2 : Int) (w : World) (w0 : a0.size ≤ 140737488351232) (w1 : (Lit.int .i64 a1).wf = true) (w2 : (Lit.int .i64 a2).wf = true) :
  Calls Try.prog 11 #[.string a0, .int .i64 a1, .int .i64 a2] w fun e w' => e = .returned (.bool true) ∧ Below w.heap.size w w' := by
 obtain ⟨k, h⟩ := P a0 a1 a2 w0 w1 w2
 refine (rampartlaw05_DgramCut.calls k a0 a1 a2 true w h rfl).mono ?_
 rintro e w' ⟨rfl, hd⟩
 exact ⟨rfl, hd⟩

end Go.Proofs.Ytgolimfljndnmaa.HD
