/- What is proved: each Go function of this text answers as the plain Lean function beside it (a law: its given row, out of the plain statement). Conditions: those that stand in each theorem. Written by my drive.py, which calls the printer of the kit for what that covers. -/
import Derived.Test.YtchjfgdcldaacaaHAx0
import Derived.Test.YtchjfgdcldaacaaHAx1
import Derived.Test.YtchjfgdcldaacaaHAx2
namespace Go.Proofs.Ytchjfgdcldaacaa.HA
open Go.RowKit Go.Proofs.YtchjfgdcldaacaaW.PrintWords Go.Proofs.YtchjfgdcldaacaaW.PrintLast Go.Proofs.YtchjfgdcldaacaaW.PrintMore
attribute [local go_sem] max2_int min2_int max_two min_two max_three min_three max_four min_four   -- for this text's walks alone
set_option linter.unusedVariables false
set_option linter.unusedSimpArgs false

/-! ### rampartlaw01_SumAdds: function 11 -/
def rampartlaw01_SumAdds.f (k : Nat) (a0 : Int) (a1 : Int) (a2 : Int) : Option (Bool) := (rampartlaw00_Place.f a0 65536).bind fun t149 => ((rampartlaw00_Place.f a1 65536).bind fun t150 => ((rampartlaw00_Place.f a2 65536).bind fun t151 => ((sum_Add.f k t149 t150).bind fun t152 => ((sum_Add.f k t150 t149).bind fun t153 => (if t152 = t153 then ((sum_Add.f k t152 t151).bind fun t154 => ((sum_Add.f k t150 t151).bind fun t155 => ((sum_Add.f k t149 t155).bind fun t156 => (if t154 = t156 then ((sum_Add.f k t149 0).bind fun t157 => (if t157 = t149 then (if t152 ≥ 0 then (if t152 ≤ 65535 then ((sum_Add.f k t149 (wrap64 (65535 - t149))).bind fun t158 => (if t158 = 65535 then ((sum_Big.f k t149 2).bind fun t159 => ((sum_Num.f t159).bind fun t160 => (if t160 = t149 then ((sum_Big.f k t149 7).bind fun t161 => ((sum_Num.f t161).bind fun t162 => (if t162 = t149 then ((rampartlaw01_awake.f k).bind fun t163 => (some t163)) else (some false)))) else (some false)))) else (some false))) else (some false)) else (some false)) else (some false))) else (some false))))) else (some false))))))
theorem rampartlaw01_SumAdds.mono : ∀ a0 a1 a2 k, LeO (rampartlaw01_SumAdds.f k a0 a1 a2) (rampartlaw01_SumAdds.f (k + 1) a0 a1 a2) := by
  intro a0 a1 a2 k
  unfold rampartlaw01_SumAdds.f
  repeat' first
      | (with_reducible exact rampartlaw01_awake.mono _)
      | (with_reducible exact sum_Add.mono _ _ _)
      | (with_reducible exact sum_Big.mono _ _ _)
      | (with_reducible exact LeO.refl _)
      | (with_reducible exact LeO.none _)
      | (with_reducible refine LeO.ite ?_ ?_)
      | (with_reducible refine LeO.bind ?_ (fun _ => ?_))
      | exact rampartlaw01_awake.mono _
      | exact sum_Add.mono _ _ _
      | exact sum_Big.mono _ _ _
      | exact LeO.none _
      | refine LeO.ite ?_ ?_
      | refine LeO.bind ?_ (fun _ => ?_)
set_option maxHeartbeats 8000000 in
set_option maxRecDepth 100000 in
theorem rampartlaw01_SumAdds.calls (k : Nat) (a0 : Int) (a1 : Int) (a2 : Int) (r : Bool) (w : World) (h : rampartlaw01_SumAdds.f k a0 a1 a2 = some r) (HR0 : r = true) :
    Calls Try.prog 11 #[.int .i64 a0, .int .i64 a1, .int .i64 a2] w fun e w' => e = .returned (.bool r) ∧ Below w.heap.size w w' := by
  have HR := Aside0.mk HR0
  clear HR0
  have HB := Aside0.mk (Below.refl w.heap.size w)
  have H : ((rampartlaw00_Place.f a0 65536).bind fun t149 => ((rampartlaw00_Place.f a1 65536).bind fun t150 => ((rampartlaw00_Place.f a2 65536).bind fun t151 => ((sum_Add.f k t149 t150).bind fun t152 => ((sum_Add.f k t150 t149).bind fun t153 => (if t152 = t153 then ((sum_Add.f k t152 t151).bind fun t154 => ((sum_Add.f k t150 t151).bind fun t155 => ((sum_Add.f k t149 t155).bind fun t156 => (if t154 = t156 then ((sum_Add.f k t149 0).bind fun t157 => (if t157 = t149 then (if t152 ≥ 0 then (if t152 ≤ 65535 then ((sum_Add.f k t149 (wrap64 (65535 - t149))).bind fun t158 => (if t158 = 65535 then ((sum_Big.f k t149 2).bind fun t159 => ((sum_Num.f t159).bind fun t160 => (if t160 = t149 then ((sum_Big.f k t149 7).bind fun t161 => ((sum_Num.f t161).bind fun t162 => (if t162 = t149 then ((rampartlaw01_awake.f k).bind fun t163 => (some t163)) else (some false)))) else (some false)))) else (some false))) else (some false)) else (some false)) else (some false))) else (some false))))) else (some false))))))) = some r := h
  clear h
  replace H := Option.bind_eq_some_iff.mp H
  obtain ⟨t149, A40, H⟩ := H
  replace H : ((rampartlaw00_Place.f a1 65536).bind fun t150 => ((rampartlaw00_Place.f a2 65536).bind fun t151 => ((sum_Add.f k t149 t150).bind fun t152 => ((sum_Add.f k t150 t149).bind fun t153 => (if t152 = t153 then ((sum_Add.f k t152 t151).bind fun t154 => ((sum_Add.f k t150 t151).bind fun t155 => ((sum_Add.f k t149 t155).bind fun t156 => (if t154 = t156 then ((sum_Add.f k t149 0).bind fun t157 => (if t157 = t149 then (if t152 ≥ 0 then (if t152 ≤ 65535 then ((sum_Add.f k t149 (wrap64 (65535 - t149))).bind fun t158 => (if t158 = 65535 then ((sum_Big.f k t149 2).bind fun t159 => ((sum_Num.f t159).bind fun t160 => (if t160 = t149 then ((sum_Big.f k t149 7).bind fun t161 => ((sum_Num.f t161).bind fun t162 => (if t162 = t149 then ((rampartlaw01_awake.f k).bind fun t163 => (some t163)) else (some false)))) else (some false)))) else (some false))) else (some false)) else (some false)) else (some false))) else (some false))))) else (some false)))))) = some r := H
  have A4 := Aside0.mk A40
  clear A40
  replace H := Option.bind_eq_some_iff.mp H
  obtain ⟨t150, A50, H⟩ := H
  replace H : ((rampartlaw00_Place.f a2 65536).bind fun t151 => ((sum_Add.f k t149 t150).bind fun t152 => ((sum_Add.f k t150 t149).bind fun t153 => (if t152 = t153 then ((sum_Add.f k t152 t151).bind fun t154 => ((sum_Add.f k t150 t151).bind fun t155 => ((sum_Add.f k t149 t155).bind fun t156 => (if t154 = t156 then ((sum_Add.f k t149 0).bind fun t157 => (if t157 = t149 then (if t152 ≥ 0 then (if t152 ≤ 65535 then ((sum_Add.f k t149 (wrap64 (65535 - t149))).bind fun t158 => (if t158 = 65535 then ((sum_Big.f k t149 2).bind fun t159 => ((sum_Num.f t159).bind fun t160 => (if t160 = t149 then ((sum_Big.f k t149 7).bind fun t161 => ((sum_Num.f t161).bind fun t162 => (if t162 = t149 then ((rampartlaw01_awake.f k).bind fun t163 => (some t163)) else (some false)))) else (some false)))) else (some false))) else (some false)) else (some false)) else (some false))) else (some false))))) else (some false))))) = some r := H
  have A5 := Aside0.mk A50
  clear A50
  replace H := Option.bind_eq_some_iff.mp H
  obtain ⟨t151, A60, H⟩ := H
  replace H : ((sum_Add.f k t149 t150).bind fun t152 => ((sum_Add.f k t150 t149).bind fun t153 => (if t152 = t153 then ((sum_Add.f k t152 t151).bind fun t154 => ((sum_Add.f k t150 t151).bind fun t155 => ((sum_Add.f k t149 t155).bind fun t156 => (if t154 = t156 then ((sum_Add.f k t149 0).bind fun t157 => (if t157 = t149 then (if t152 ≥ 0 then (if t152 ≤ 65535 then ((sum_Add.f k t149 (wrap64 (65535 - t149))).bind fun t158 => (if t158 = 65535 then ((sum_Big.f k t149 2).bind fun t159 => ((sum_Num.f t159).bind fun t160 => (if t160 = t149 then ((sum_Big.f k t149 7).bind fun t161 => ((sum_Num.f t161).bind fun t162 => (if t162 = t149 then ((rampartlaw01_awake.f k).bind fun t163 => (some t163)) else (some false)))) else (some false)))) else (some false))) else (some false)) else (some false)) else (some false))) else (some false))))) else (some false)))) = some r := H
  have A6 := Aside0.mk A60
  clear A60
  replace H := Option.bind_eq_some_iff.mp H
  obtain ⟨t152, A70, H⟩ := H
  replace H : ((sum_Add.f k t150 t149).bind fun t153 => (if t152 = t153 then ((sum_Add.f k t152 t151).bind fun t154 => ((sum_Add.f k t150 t151).bind fun t155 => ((sum_Add.f k t149 t155).bind fun t156 => (if t154 = t156 then ((sum_Add.f k t149 0).bind fun t157 => (if t157 = t149 then (if t152 ≥ 0 then (if t152 ≤ 65535 then ((sum_Add.f k t149 (wrap64 (65535 - t149))).bind fun t158 => (if t158 = 65535 then ((sum_Big.f k t149 2).bind fun t159 => ((sum_Num.f t159).bind fun t160 => (if t160 = t149 then ((sum_Big.f k t149 7).bind fun t161 => ((sum_Num.f t161).bind fun t162 => (if t162 = t149 then ((rampartlaw01_awake.f k).bind fun t163 => (some t163)) else (some false)))) else (some false)))) else (some false))) else (some false)) else (some false)) else (some false))) else (some false))))) else (some false))) = some r := H
  have A7 := Aside0.mk A70
  clear A70
  replace H := Option.bind_eq_some_iff.mp H
  obtain ⟨t153, A80, H⟩ := H
  replace H : (if t152 = t153 then ((sum_Add.f k t152 t151).bind fun t154 => ((sum_Add.f k t150 t151).bind fun t155 => ((sum_Add.f k t149 t155).bind fun t156 => (if t154 = t156 then ((sum_Add.f k t149 0).bind fun t157 => (if t157 = t149 then (if t152 ≥ 0 then (if t152 ≤ 65535 then ((sum_Add.f k t149 (wrap64 (65535 - t149))).bind fun t158 => (if t158 = 65535 then ((sum_Big.f k t149 2).bind fun t159 => ((sum_Num.f t159).bind fun t160 => (if t160 = t149 then ((sum_Big.f k t149 7).bind fun t161 => ((sum_Num.f t161).bind fun t162 => (if t162 = t149 then ((rampartlaw01_awake.f k).bind fun t163 => (some t163)) else (some false)))) else (some false)))) else (some false))) else (some false)) else (some false)) else (some false))) else (some false))))) else (some false)) = some r := H
  have A8 := Aside0.mk A80
  clear A80
  by_cases c9 : t152 = t153
  · rw [if_pos c9] at H
    have c9b0 : (t152 == t153) = true := beq_iff_eq.mpr c9
    have c9b1 : (t152 != t153) = false := bne_eq_false_iff_eq.mpr c9
    clear c9
    replace H := Option.bind_eq_some_iff.mp H
    obtain ⟨t154, A100, H⟩ := H
    replace H : ((sum_Add.f k t150 t151).bind fun t155 => ((sum_Add.f k t149 t155).bind fun t156 => (if t154 = t156 then ((sum_Add.f k t149 0).bind fun t157 => (if t157 = t149 then (if t152 ≥ 0 then (if t152 ≤ 65535 then ((sum_Add.f k t149 (wrap64 (65535 - t149))).bind fun t158 => (if t158 = 65535 then ((sum_Big.f k t149 2).bind fun t159 => ((sum_Num.f t159).bind fun t160 => (if t160 = t149 then ((sum_Big.f k t149 7).bind fun t161 => ((sum_Num.f t161).bind fun t162 => (if t162 = t149 then ((rampartlaw01_awake.f k).bind fun t163 => (some t163)) else (some false)))) else (some false)))) else (some false))) else (some false)) else (some false)) else (some false))) else (some false)))) = some r := H
    have A10 := Aside0.mk A100
    clear A100
    replace H := Option.bind_eq_some_iff.mp H
    obtain ⟨t155, A110, H⟩ := H
    replace H : ((sum_Add.f k t149 t155).bind fun t156 => (if t154 = t156 then ((sum_Add.f k t149 0).bind fun t157 => (if t157 = t149 then (if t152 ≥ 0 then (if t152 ≤ 65535 then ((sum_Add.f k t149 (wrap64 (65535 - t149))).bind fun t158 => (if t158 = 65535 then ((sum_Big.f k t149 2).bind fun t159 => ((sum_Num.f t159).bind fun t160 => (if t160 = t149 then ((sum_Big.f k t149 7).bind fun t161 => ((sum_Num.f t161).bind fun t162 => (if t162 = t149 then ((rampartlaw01_awake.f k).bind fun t163 => (some t163)) else (some false)))) else (some false)))) else (some false))) else (some false)) else (some false)) else (some false))) else (some false))) = some r := H
    have A11 := Aside0.mk A110
    clear A110
    replace H := Option.bind_eq_some_iff.mp H
    obtain ⟨t156, A120, H⟩ := H
    replace H : (if t154 = t156 then ((sum_Add.f k t149 0).bind fun t157 => (if t157 = t149 then (if t152 ≥ 0 then (if t152 ≤ 65535 then ((sum_Add.f k t149 (wrap64 (65535 - t149))).bind fun t158 => (if t158 = 65535 then ((sum_Big.f k t149 2).bind fun t159 => ((sum_Num.f t159).bind fun t160 => (if t160 = t149 then ((sum_Big.f k t149 7).bind fun t161 => ((sum_Num.f t161).bind fun t162 => (if t162 = t149 then ((rampartlaw01_awake.f k).bind fun t163 => (some t163)) else (some false)))) else (some false)))) else (some false))) else (some false)) else (some false)) else (some false))) else (some false)) = some r := H
    have A12 := Aside0.mk A120
    clear A120
    by_cases c13 : t154 = t156
    · rw [if_pos c13] at H
      have c13b0 : (t154 == t156) = true := beq_iff_eq.mpr c13
      have c13b1 : (t154 != t156) = false := bne_eq_false_iff_eq.mpr c13
      clear c13
      replace H := Option.bind_eq_some_iff.mp H
      obtain ⟨t157, A140, H⟩ := H
      replace H : (if t157 = t149 then (if t152 ≥ 0 then (if t152 ≤ 65535 then ((sum_Add.f k t149 (wrap64 (65535 - t149))).bind fun t158 => (if t158 = 65535 then ((sum_Big.f k t149 2).bind fun t159 => ((sum_Num.f t159).bind fun t160 => (if t160 = t149 then ((sum_Big.f k t149 7).bind fun t161 => ((sum_Num.f t161).bind fun t162 => (if t162 = t149 then ((rampartlaw01_awake.f k).bind fun t163 => (some t163)) else (some false)))) else (some false)))) else (some false))) else (some false)) else (some false)) else (some false)) = some r := H
      have A14 := Aside0.mk A140
      clear A140
      by_cases c15 : t157 = t149
      · rw [if_pos c15] at H
        have c15b0 : (t157 == t149) = true := beq_iff_eq.mpr c15
        have c15b1 : (t157 != t149) = false := bne_eq_false_iff_eq.mpr c15
        clear c15
        by_cases c16 : t152 ≥ 0
        · rw [if_pos c16] at H
          have c16b0 : decide (0 ≤ t152) = true := decide_eq_true c16
          clear c16
          by_cases c17 : t152 ≤ 65535
          · rw [if_pos c17] at H
            have c17b0 : decide (t152 ≤ 65535) = true := decide_eq_true c17
            clear c17
            replace H := Option.bind_eq_some_iff.mp H
            obtain ⟨t158, A180, H⟩ := H
            replace H : (if t158 = 65535 then ((sum_Big.f k t149 2).bind fun t159 => ((sum_Num.f t159).bind fun t160 => (if t160 = t149 then ((sum_Big.f k t149 7).bind fun t161 => ((sum_Num.f t161).bind fun t162 => (if t162 = t149 then ((rampartlaw01_awake.f k).bind fun t163 => (some t163)) else (some false)))) else (some false)))) else (some false)) = some r := H
            have A18 := Aside0.mk A180
            clear A180
            by_cases c19 : t158 = 65535
            · rw [if_pos c19] at H
              have c19b0 : (t158 == 65535) = true := beq_iff_eq.mpr c19
              have c19b1 : (t158 != 65535) = false := bne_eq_false_iff_eq.mpr c19
              clear c19
              replace H := Option.bind_eq_some_iff.mp H
              obtain ⟨t159, A200, H⟩ := H
              replace H : ((sum_Num.f t159).bind fun t160 => (if t160 = t149 then ((sum_Big.f k t149 7).bind fun t161 => ((sum_Num.f t161).bind fun t162 => (if t162 = t149 then ((rampartlaw01_awake.f k).bind fun t163 => (some t163)) else (some false)))) else (some false))) = some r := H
              have A20 := Aside0.mk A200
              clear A200
              replace H := Option.bind_eq_some_iff.mp H
              obtain ⟨t160, A210, H⟩ := H
              replace H : (if t160 = t149 then ((sum_Big.f k t149 7).bind fun t161 => ((sum_Num.f t161).bind fun t162 => (if t162 = t149 then ((rampartlaw01_awake.f k).bind fun t163 => (some t163)) else (some false)))) else (some false)) = some r := H
              have A21 := Aside0.mk A210
              clear A210
              by_cases c22 : t160 = t149
              · rw [if_pos c22] at H
                have c22b0 : (t160 == t149) = true := beq_iff_eq.mpr c22
                have c22b1 : (t160 != t149) = false := bne_eq_false_iff_eq.mpr c22
                clear c22
                replace H := Option.bind_eq_some_iff.mp H
                obtain ⟨t161, A230, H⟩ := H
                replace H : ((sum_Num.f t161).bind fun t162 => (if t162 = t149 then ((rampartlaw01_awake.f k).bind fun t163 => (some t163)) else (some false))) = some r := H
                have A23 := Aside0.mk A230
                clear A230
                replace H := Option.bind_eq_some_iff.mp H
                obtain ⟨t162, A240, H⟩ := H
                replace H : (if t162 = t149 then ((rampartlaw01_awake.f k).bind fun t163 => (some t163)) else (some false)) = some r := H
                have A24 := Aside0.mk A240
                clear A240
                by_cases c25 : t162 = t149
                · rw [if_pos c25] at H
                  have c25b0 : (t162 == t149) = true := beq_iff_eq.mpr c25
                  have c25b1 : (t162 != t149) = false := bne_eq_false_iff_eq.mpr c25
                  clear c25
                  replace H := Option.bind_eq_some_iff.mp H
                  obtain ⟨t163, A260, H⟩ := H
                  replace H : (some t163) = some r := H
                  have A26 := Aside0.mk A260
                  clear A260
                  obtain rfl := Option.some.inj H
                  go_enter Try.func11, Try.ntmps11
                  go_wp2_with (first | ((with_reducible refine gate_callee (f := 12) rfl ?_); refine goesL_ (some 12) rfl rfl Try.func12 (by kernel_rfl) rfl #[.int .i64 a0, .int .i64 65536] rfl (by (try simp only [List.map_toArray, List.map_cons, List.map_nil]); first | done | rfl | (simp only [List.length_drop, List.length_take]; rfl)) ?_; (with_reducible refine (rampartlaw00_Place.calls a0 65536 t149 _ A4.out).mono ?_); rintro e w' ⟨rfl, ⟨nd, rfl⟩⟩; refine ⟨_, rfl, ?_⟩) | ((with_reducible refine gate_callee (f := 12) rfl ?_); refine goesL_ (some 14) rfl rfl Try.func12 (by kernel_rfl) rfl #[.int .i64 a1, .int .i64 65536] rfl (by (try simp only [List.map_toArray, List.map_cons, List.map_nil]); first | done | rfl | (simp only [List.length_drop, List.length_take]; rfl)) ?_; (with_reducible refine (rampartlaw00_Place.calls a1 65536 t150 _ A5.out).mono ?_); rintro e w' ⟨rfl, ⟨nd, rfl⟩⟩; refine ⟨_, rfl, ?_⟩) | ((with_reducible refine gate_callee (f := 12) rfl ?_); refine goesL_ (some 16) rfl rfl Try.func12 (by kernel_rfl) rfl #[.int .i64 a2, .int .i64 65536] rfl (by (try simp only [List.map_toArray, List.map_cons, List.map_nil]); first | done | rfl | (simp only [List.length_drop, List.length_take]; rfl)) ?_; (with_reducible refine (rampartlaw00_Place.calls a2 65536 t151 _ A6.out).mono ?_); rintro e w' ⟨rfl, ⟨nd, rfl⟩⟩; refine ⟨_, rfl, ?_⟩) | ((with_reducible refine gate_callee (f := 24) rfl ?_); refine goesL_ (some 19) rfl rfl Try.func24 (by kernel_rfl) rfl #[.int .i64 t149, .int .i64 t150] rfl (by (try simp only [List.map_toArray, List.map_cons, List.map_nil]); first | done | rfl | (simp only [List.length_drop, List.length_take]; rfl)) ?_; (with_reducible refine (sum_Add.calls k t149 t150 t152 _ A7.out).mono ?_); rintro e w' ⟨rfl, ⟨nd, rfl⟩⟩; refine ⟨_, rfl, ?_⟩) | ((with_reducible refine gate_callee (f := 24) rfl ?_); refine goesL_ (some 23) rfl rfl Try.func24 (by kernel_rfl) rfl #[.int .i64 t150, .int .i64 t149] rfl (by (try simp only [List.map_toArray, List.map_cons, List.map_nil]); first | done | rfl | (simp only [List.length_drop, List.length_take]; rfl)) ?_; (with_reducible refine (sum_Add.calls k t150 t149 t153 _ A8.out).mono ?_); rintro e w' ⟨rfl, ⟨nd, rfl⟩⟩; refine ⟨_, rfl, ?_⟩) | (go_at_call 24; (with_reducible refine (sum_Add.calls k t152 t151 t154 _ A10.out).mono ?_); rintro e w' ⟨rfl, ⟨nd, rfl⟩⟩) | (go_at_call 24; (with_reducible refine (sum_Add.calls k t150 t151 t155 _ A11.out).mono ?_); rintro e w' ⟨rfl, ⟨nd, rfl⟩⟩) | (go_at_call 24; (with_reducible refine (sum_Add.calls k t149 t155 t156 _ A12.out).mono ?_); rintro e w' ⟨rfl, ⟨nd, rfl⟩⟩) | (go_at_call 24; (with_reducible refine (sum_Add.calls k t149 0 t157 _ A14.out).mono ?_); rintro e w' ⟨rfl, ⟨nd, rfl⟩⟩) | (go_at_call 24; (with_reducible refine (sum_Add.calls k t149 (wrap64 (65535 - t149)) t158 _ A18.out).mono ?_); rintro e w' ⟨rfl, ⟨nd, rfl⟩⟩) | (go_at_call 17; (with_reducible refine (sum_Big.calls k t149 2 t159 _ A20.out).mono ?_); rintro e w27 ⟨rfl, hb⟩; have n0_ := Aside0.mk (below_step (by repeat (first | (with_reducible first | exact HB.out | apply below_alloc | apply pw_below_drewN | apply below_drew1) | exact HB.out)) hb); clear HB; have HB := n0_; clear n0_; (try clear hb); (try clear hb2); (try clear hk); (try clear hi)) | (go_at_call 18; (with_reducible refine (sum_Num.calls t159 t160 _ A21.out).mono ?_); rintro e w28 ⟨rfl, hb⟩; have n0_ := Aside0.mk (below_step (by repeat (first | (with_reducible first | exact HB.out | apply below_alloc | apply pw_below_drewN | apply below_drew1) | exact HB.out)) hb); clear HB; have HB := n0_; clear n0_; (try clear hb); (try clear hb2); (try clear hk); (try clear hi)) | (go_at_call 17; (with_reducible refine (sum_Big.calls k t149 7 t161 _ A23.out).mono ?_); rintro e w29 ⟨rfl, hb⟩; have n0_ := Aside0.mk (below_step (by repeat (first | (with_reducible first | exact HB.out | apply below_alloc | apply pw_below_drewN | apply below_drew1) | exact HB.out)) hb); clear HB; have HB := n0_; clear n0_; (try clear hb); (try clear hb2); (try clear hk); (try clear hi)) | (go_at_call 18; (with_reducible refine (sum_Num.calls t161 t162 _ A24.out).mono ?_); rintro e w30 ⟨rfl, hb⟩; have n0_ := Aside0.mk (below_step (by repeat (first | (with_reducible first | exact HB.out | apply below_alloc | apply pw_below_drewN | apply below_drew1) | exact HB.out)) hb); clear HB; have HB := n0_; clear n0_; (try clear hb); (try clear hb2); (try clear hk); (try clear hi)) | (go_at_call 15; (with_reducible refine (rampartlaw01_awake.calls k  t163 _ A26.out).mono ?_); rintro e w31 ⟨rfl, hb⟩; have n0_ := Aside0.mk (below_step (by repeat (first | (with_reducible first | exact HB.out | apply below_alloc | apply pw_below_drewN | apply below_drew1) | exact HB.out)) hb); clear HB; have HB := n0_; clear n0_; (try clear hb); (try clear hb2); (try clear hk); (try clear hi)))
                  go_ret
                  exact ⟨by first | rfl | (simp [errW_none, errW_some] <;> rfl) | (simp [*, errW_none, errW_some] <;> rfl), by repeat (first | (with_reducible first | exact HB.out | apply below_alloc | apply pw_below_drewN | apply below_drew1) | exact HB.out)⟩
                · rw [if_neg c25] at H
                  have c25b0 : (t162 == t149) = false := beq_eq_false_iff_ne.mpr c25
                  have c25b1 : (t162 != t149) = true := bne_iff_ne.mpr c25
                  exact absurd ((Option.some.inj H).trans HR.out) (by decide)
              · rw [if_neg c22] at H
                have c22b0 : (t160 == t149) = false := beq_eq_false_iff_ne.mpr c22
                have c22b1 : (t160 != t149) = true := bne_iff_ne.mpr c22
                exact absurd ((Option.some.inj H).trans HR.out) (by decide)
            · rw [if_neg c19] at H
              have c19b0 : (t158 == 65535) = false := beq_eq_false_iff_ne.mpr c19
              have c19b1 : (t158 != 65535) = true := bne_iff_ne.mpr c19
              exact absurd ((Option.some.inj H).trans HR.out) (by decide)
          · rw [if_neg c17] at H
            have c17b0 : decide (t152 ≤ 65535) = false := decide_eq_false c17
            clear c17
            exact absurd ((Option.some.inj H).trans HR.out) (by decide)
        · rw [if_neg c16] at H
          have c16b0 : decide (0 ≤ t152) = false := decide_eq_false c16
          clear c16
          exact absurd ((Option.some.inj H).trans HR.out) (by decide)
      · rw [if_neg c15] at H
        have c15b0 : (t157 == t149) = false := beq_eq_false_iff_ne.mpr c15
        have c15b1 : (t157 != t149) = true := bne_iff_ne.mpr c15
        exact absurd ((Option.some.inj H).trans HR.out) (by decide)
    · rw [if_neg c13] at H
      have c13b0 : (t154 == t156) = false := beq_eq_false_iff_ne.mpr c13
      have c13b1 : (t154 != t156) = true := bne_iff_ne.mpr c13
      exact absurd ((Option.some.inj H).trans HR.out) (by decide)
  · rw [if_neg c9] at H
    have c9b0 : (t152 == t153) = false := beq_eq_false_iff_ne.mpr c9
    have c9b1 : (t152 != t153) = true := bne_iff_ne.mpr c9
    exact absurd ((Option.some.inj H).trans HR.out) (by decide)

/-- THE ONE PURE STATEMENT of rampartlaw01_SumAdds: yours. -/
def rampartlaw01_SumAdds.Pure : Prop := ∀ (a0 : Int) (a1 : Int) (a2 : Int), (Lit.int .i64 a0).wf = true → (Lit.int .i64 a1).wf = true → (Lit.int .i64 a2).wf = true → ∃ k, rampartlaw01_SumAdds.f k a0 a1 a2 = some true
theorem rampartlaw01_SumAdds.walk (P : rampartlaw01_SumAdds.Pure) (a0 : Int) (a1 : Int) (a2 : Int) (w : World) (w0 : (Lit.int .i64 a0).wf = true) (w1 : (Lit.int .i64 a1).wf = true) (w2 : (Lit.int .i64 a2).wf = true) :
    Calls Try.prog 11 #[.int .i64 a0, .int .i64 a1, .int .i64 a2] w fun e w' => e = .returned (.bool true) ∧ Below w.heap.size w w' := by
  obtain ⟨k, h⟩ := P a0 a1 a2 w0 w1 w2
  refine (rampartlaw01_SumAdds.calls k a0 a1 a2 true w h rfl).mono ?_
  rintro e w' ⟨rfl, hd⟩
  exact ⟨rfl, hd⟩

/-! ### rampartlaw01_SumParts: function 5 -/
mutual
def rampartlaw01_SumParts.j0 : Nat → ByteArray → List Int → Bool → Option (Bool)
  | 0, _, _, _ => none
  | k + 1, x0, x1, x16 => if x16 = true then ((rampartlaw01_awake.f k).bind fun t164 => (some t164)) else (rampartlaw01_SumParts.l0 k x0 x1 ([] : List ByteArray) x0 0)
def rampartlaw01_SumParts.l0 : Nat → ByteArray → List Int → List ByteArray → ByteArray → Int → Option (Bool)
  | 0, _, _, _, _, _ => none
  | k + 1, x0, x1, x5, x6, x7 => if x7 < (x1.length : Int) then (if 0 ≤ x7 then ((rampartlaw00_Place.f (rd x1 x7) (wrap64 ((x6.size : Int) + 1))).bind fun t166 => (if 0 ≤ t166 then (if t166 ≤ (x6.size : Int) then (if x5.length < 8796093022208 then (rampartlaw01_SumParts.l0 k x0 x1 (x5 ++ [x6.extract 0 (t166 : Int).toNat]) (x6.extract (t166 : Int).toNat x6.size) (wrap64 (x7 + 1))) else (none)) else (none)) else (none))) else (none)) else (if x5.length < 8796093022208 then ((sum_Of.f k (x5 ++ [x6])).bind fun t173 => ((sum_Of.f k (([x0] : List ByteArray))).bind fun t177 => (if t173 = t177 then (if ((x0.size : Int) % 2) = 0 then ((rampartlaw01_awake.f k).bind fun t178 => (some t178)) else (if x0.size + 1 ≤ 9223372036854775807 then ((sum_Of.f k (([x0 ++ (⟨#[0]⟩ : ByteArray)] : List ByteArray))).bind fun t182 => ((sum_Of.f k (([x0] : List ByteArray))).bind fun t186 => (if t182 = t186 then ((rampartlaw01_awake.f k).bind fun t187 => (some t187)) else (some false)))) else (none))) else (some false)))) else (none))
end
def rampartlaw01_SumParts.f (k : Nat) (a0 : ByteArray) (l1 : List Int) : Option (Bool) := if (a0.size : Int) > 800 then (rampartlaw01_SumParts.j0 k a0 l1 true) else (rampartlaw01_SumParts.j0 k a0 l1 (decide ((l1.length : Int) > 12)))
theorem rampartlaw01_SumParts.mono_l : ∀ k, (∀ y0 y1 y2, LeO (rampartlaw01_SumParts.j0 k y0 y1 y2) (rampartlaw01_SumParts.j0 (k + 1) y0 y1 y2)) ∧ (∀ y0 y1 y2 y3 y4, LeO (rampartlaw01_SumParts.l0 k y0 y1 y2 y3 y4) (rampartlaw01_SumParts.l0 (k + 1) y0 y1 y2 y3 y4))
  | 0 => ⟨fun _ _ _ r h => by simp [rampartlaw01_SumParts.j0] at h, fun _ _ _ _ _ r h => by simp [rampartlaw01_SumParts.l0] at h⟩
  | k + 1 => by
    obtain ⟨ih0, ih1⟩ := rampartlaw01_SumParts.mono_l k
    refine ⟨?_, ?_⟩
    · intro y0 y1 y2
      unfold rampartlaw01_SumParts.j0
      repeat' first
      | (with_reducible exact ih0 _ _ _)
      | (with_reducible exact ih1 _ _ _ _ _)
      | (with_reducible exact rampartlaw01_awake.mono _)
      | (with_reducible exact sum_Of.mono _ _)
      | (with_reducible exact LeO.refl _)
      | (with_reducible exact LeO.none _)
      | (with_reducible refine LeO.ite ?_ ?_)
      | (with_reducible refine LeO.bind ?_ (fun _ => ?_))
      | exact ih0 _ _ _
      | exact ih1 _ _ _ _ _
      | exact rampartlaw01_awake.mono _
      | exact sum_Of.mono _ _
      | exact LeO.none _
      | refine LeO.ite ?_ ?_
      | refine LeO.bind ?_ (fun _ => ?_)
    · intro y0 y1 y2 y3 y4
      unfold rampartlaw01_SumParts.l0
      repeat' first
      | (with_reducible exact ih0 _ _ _)
      | (with_reducible exact ih1 _ _ _ _ _)
      | (with_reducible exact rampartlaw01_awake.mono _)
      | (with_reducible exact sum_Of.mono _ _)
      | (with_reducible exact LeO.refl _)
      | (with_reducible exact LeO.none _)
      | (with_reducible refine LeO.ite ?_ ?_)
      | (with_reducible refine LeO.bind ?_ (fun _ => ?_))
      | exact ih0 _ _ _
      | exact ih1 _ _ _ _ _
      | exact rampartlaw01_awake.mono _
      | exact sum_Of.mono _ _
      | exact LeO.none _
      | refine LeO.ite ?_ ?_
      | refine LeO.bind ?_ (fun _ => ?_)
theorem rampartlaw01_SumParts.mono : ∀ a0 a1 k, LeO (rampartlaw01_SumParts.f k a0 a1) (rampartlaw01_SumParts.f (k + 1) a0 a1) := by
  intro a0 a1 k
  obtain ⟨ih0, ih1⟩ := rampartlaw01_SumParts.mono_l k
  unfold rampartlaw01_SumParts.f
  repeat' first
      | (with_reducible exact ih0 _ _ _)
      | (with_reducible exact ih1 _ _ _ _ _)
      | (with_reducible exact rampartlaw01_awake.mono _)
      | (with_reducible exact sum_Of.mono _ _)
      | (with_reducible exact LeO.refl _)
      | (with_reducible exact LeO.none _)
      | (with_reducible refine LeO.ite ?_ ?_)
      | (with_reducible refine LeO.bind ?_ (fun _ => ?_))
      | exact ih0 _ _ _
      | exact ih1 _ _ _ _ _
      | exact rampartlaw01_awake.mono _
      | exact sum_Of.mono _ _
      | exact LeO.none _
      | refine LeO.ite ?_ ?_
      | refine LeO.bind ?_ (fun _ => ?_)
set_option maxHeartbeats 8000000 in
set_option maxRecDepth 100000 in
theorem rampartlaw01_SumParts.calls (k : Nat) (a0 : ByteArray) (A1 : Option Addr) (c1 : Nat) (l1 : List Int) (r : Bool) (w : World) (hr1 : Kd.C (Kd.int .i64) w A1 l1.length l1) (hc1 : l1.length ≤ c1) (h : rampartlaw01_SumParts.f k a0 l1 = some r) (HR0 : r = true) :
    Calls Try.prog 5 #[.string a0, .slice A1 l1.length c1] w fun e w' => e = .returned (.bool r) ∧ Below w.heap.size w w' := by
  have HR := Aside0.mk HR0
  clear HR0
  have HR1 := Aside0.mk hr1
  have HC1 := Aside0.mk hc1
  clear hr1 hc1
  have HB := Aside0.mk (Below.refl w.heap.size w)
  have H : (if (a0.size : Int) > 800 then (rampartlaw01_SumParts.j0 k a0 l1 true) else (rampartlaw01_SumParts.j0 k a0 l1 (decide ((l1.length : Int) > 12)))) = some r := h
  clear h
  have HC3 := Aside0.mk H
  clear H
  go_enter Try.func5, Try.ntmps5
  go_upto_region 1 with (fail)
  go_cut [16] (fun v16 wc => ∃ (kq : Nat) (x16_2 : Bool), v16 = .bool x16_2 ∧ Aside0 (rampartlaw01_SumParts.j0 kq a0 l1 x16_2 = some r) ∧ Aside0 (kq ≤ k) ∧ Aside0 (Below w.heap.size w wc))
  case first =>
    have H := HC3.out
    clear HC3
    by_cases c4 : (a0.size : Int) > 800
    · rw [if_pos c4] at H
      have c4b0 : decide (800 < (a0.size : Int)) = true := decide_eq_true c4
      have c4b1 : decide (800 < a0.size) = true := decide_eq_true (by omega)
      clear c4
      (first | rw [c4b0] | (simp only [i64_w, i32_w]; rw [c4b0]) | skip)
      have H' := Aside0.mk H
      clear H
      go_wp2
      go_meet
      case rel => exact ⟨_, (true), (by first | rfl | (simp; done) | (simp [*]; done)), H', ⟨by first | omega | exact Nat.le_refl _⟩, ⟨by repeat (first | (with_reducible first | exact HB.out | apply below_alloc | apply pw_below_drewN | apply below_drew1) | exact HB.out)⟩⟩
    · rw [if_neg c4] at H
      have c4b0 : decide (800 < (a0.size : Int)) = false := decide_eq_false c4
      have c4b1 : decide (800 < a0.size) = false := decide_eq_false (by omega)
      clear c4
      (first | rw [c4b0] | (simp only [i64_w, i32_w]; rw [c4b0]) | skip)
      have H' := Aside0.mk H
      clear H
      go_wp2
      go_meet
      case rel => exact ⟨_, (decide ((l1.length : Int) > 12)), (by first | rfl | (simp; done) | (simp [*]; done)), H', ⟨by first | omega | exact Nat.le_refl _⟩, ⟨by repeat (first | (with_reducible first | exact HB.out | apply below_alloc | apply pw_below_drewN | apply below_drew1) | exact HB.out)⟩⟩
  case rest =>
    clear HC3
    try clear c1
    try clear p2
    try clear c4
    try clear c4b0
    try clear c4b1
    obtain ⟨kq, x16_2, rfl, HA, HJ2, HB⟩ := hcut
    cases kq with
    | zero => exact absurd HA.out (by simp [rampartlaw01_SumParts.j0])
    | succ kj2 =>
      have H := HA.out
      clear HA
      simp only [rampartlaw01_SumParts.j0] at H
      by_cases c5 : x16_2 = true
      · subst c5
        have H1 : ((rampartlaw01_awake.f kj2).bind fun t164 => (some t164)) = some r := by rw [if_pos rfl] at H; exact H
        clear H
        have H := H1
        clear H1
        replace H := Option.bind_eq_some_iff.mp H
        obtain ⟨t164, A60, H⟩ := H
        replace H : (some t164) = some r := H
        have A6 := Aside0.mk A60
        clear A60
        obtain rfl := Option.some.inj H
        go_wp2_with (first | ((with_reducible refine gate_callee (f := 15) rfl ?_); refine goesL_ (some 17) rfl rfl Try.func15 (by kernel_rfl) rfl #[] rfl (by (try simp only [List.map_toArray, List.map_cons, List.map_nil]); first | done | rfl | (simp only [List.length_drop, List.length_take]; rfl)) ?_; (with_reducible refine (rampartlaw01_awake.calls kj2  t164 _ A6.out).mono ?_); rintro e w7 ⟨rfl, hb⟩; refine ⟨_, rfl, ?_⟩; have n0_ := Aside0.mk (below_step (by repeat (first | (with_reducible first | exact HB.out | apply below_alloc | apply pw_below_drewN | apply below_drew1) | exact HB.out)) hb); clear HB; have HB := n0_; clear n0_; (try clear hb); (try clear hb2); (try clear hk); (try clear hi)))
        go_ret
        exact ⟨by first | rfl | (simp [errW_none, errW_some] <;> rfl) | (simp [*, errW_none, errW_some] <;> rfl), by repeat (first | (with_reducible first | exact HB.out | apply below_alloc | apply pw_below_drewN | apply below_drew1) | exact HB.out)⟩
      · replace c5 := Bool.eq_false_iff.mpr c5
        subst c5
        have H1 : (rampartlaw01_SumParts.l0 kj2 a0 l1 ([] : List ByteArray) a0 0) = some r := by rw [if_neg (show ¬ (false = true) by decide)] at H; exact H
        clear H
        have H := H1
        clear H1
        have H' := Aside0.mk H
        clear H
        go_wp2
        go_loopg [5, 6, 7] kj2 (fun kq v5 v6 v7 w' => ∃ (x5_2 : List ByteArray) (x6_2 : ByteArray) (x7_2 : Int), v6 = .string x6_2 ∧ v7 = .int .i64 x7_2 ∧ Aside0 (rampartlaw01_SumParts.l0 kq a0 l1 x5_2 x6_2 x7_2 = some r) ∧ Aside0 (kq ≤ kj2) ∧ Aside0 (Kd.R Kd.string 9 w' w.heap.size (fun _ => True) v5 x5_2) ∧ Aside0 (Below w.heap.size w w'))
        case atStart => exact ⟨(([] : List ByteArray)), (a0), (0), (by first | rfl | (simp; done) | (simp [*]; done)), (by first | rfl | (simp; done) | (simp [*]; done)), H', ⟨Nat.le_refl _⟩, ⟨by first | exact Kd.R_nil _ _ _ _ _ | exact Kd.N_nil _ _ _ _ _ | exact Kd.V_nil _ _ _ _ _ | exact Kd.Q_nil _ _ _ _ _ | exact Kd.S_nil _ _ _ _ _⟩, ⟨by repeat (first | (with_reducible first | exact HB.out | apply below_alloc | apply pw_below_drewN | apply below_drew1) | exact HB.out)⟩⟩
        case round =>
          clear H'
          try clear c1
          try clear p2
          try clear c4
          try clear c4b0
          try clear c4b1
          try clear c5
          try clear p2
          obtain ⟨x5_2, x6_2, x7_2, rfl, rfl, HA, HK2, HO_5, HB⟩ := hrel
          cases gk with
          | zero => exact absurd HA.out (by simp [rampartlaw01_SumParts.l0])
          | succ k2 =>
            have H := HA.out
            clear HA
            simp only [rampartlaw01_SumParts.l0] at H
            by_cases c8 : x7_2 < (l1.length : Int)
            · rw [if_pos c8] at H
              have c8b0 : decide (x7_2 < (l1.length : Int)) = true := decide_eq_true c8
              clear c8
              by_cases c9 : 0 ≤ x7_2
              · rw [if_pos c9] at H
                have c9b0 : decide (0 ≤ x7_2) = true := decide_eq_true c9
                clear c9
                replace H := Option.bind_eq_some_iff.mp H
                obtain ⟨t166, A100, H⟩ := H
                replace H : (if 0 ≤ t166 then (if t166 ≤ (x6_2.size : Int) then (if x5_2.length < 8796093022208 then (rampartlaw01_SumParts.l0 k2 a0 l1 (x5_2 ++ [x6_2.extract 0 (t166 : Int).toNat]) (x6_2.extract (t166 : Int).toNat x6_2.size) (wrap64 (x7_2 + 1))) else (none)) else (none)) else (none)) = some r := H
                have A10 := Aside0.mk A100
                clear A100
                by_cases c11 : 0 ≤ t166
                · rw [if_pos c11] at H
                  have c11b0 := eq_true c11
                  have c11b1 : decide (0 ≤ t166) = true := decide_eq_true c11
                  clear c11
                  by_cases c12 : t166 ≤ (x6_2.size : Int)
                  · rw [if_pos c12] at H
                    have c12b0 := eq_true c12
                    have c12b1 : decide (t166 ≤ (x6_2.size : Int)) = true := decide_eq_true c12
                    clear c12
                    by_cases c13 : x5_2.length < 8796093022208
                    · rw [if_pos c13] at H
                      have LMc13 := Aside0.mk c13
                      clear c13
                      obtain ⟨y167, hy167⟩ : ∃ y_ : List ByteArray, y_ = (x5_2 ++ [x6_2.extract 0 (t166 : Int).toNat]) := ⟨_, rfl⟩
                      replace H : (rampartlaw01_SumParts.l0 k2 a0 l1 y167 (x6_2.extract (t166 : Int).toNat x6_2.size) (wrap64 (x7_2 + 1))) = some r := by first | (rw [hy167]; with_reducible exact H) | (have H2_ := (Option.bind_some _ _).symm.trans H; rw [hy167]; with_reducible exact H2_) | (have H2_ := (Option.bind_some _ _).symm.trans H; with_reducible exact H2_) | with_reducible exact H | (rw [hy167]; exact H) | exact H
                      have Ny167 := Aside0.mk hy167
                      clear hy167
                      have c14b0 := eq_true (of_decide_eq_true (by first | (with_reducible assumption) | assumption) : 0 ≤ t166)
                      have c15b0 := eq_true (of_decide_eq_true (by first | (with_reducible assumption) | assumption) : t166 ≤ (x6_2.size : Int))
                      have H' := Aside0.mk H
                      clear H
                      have p165 : 0 ≤ (x7_2 : Int) := of_decide_eq_true (by first | (with_reducible assumption) | assumption)
                      have q165 : x7_2 < (l1.length : Int) := of_decide_eq_true (by first | (with_reducible assumption) | assumption)
                      obtain ⟨ad165, e165, hx165_0⟩ := Kd.at_int HR1.out x7_2 p165 q165
                      cases e165
                      replace hx165_0 := (HB.out.cell (World.block_lt_of_cell? w _ hx165_0)).trans hx165_0
                      replace p165 := eq_true p165
                      replace q165 := eq_true q165
                      go_wp2_with (first | ((with_reducible refine gate_callee (f := 12) rfl ?_); refine goesL_ (some 32) rfl rfl Try.func12 (by kernel_rfl) rfl #[.int .i64 (rd l1 x7_2), .int .i64 (wrap64 ((x6_2.size : Int) + 1))] rfl (by (try simp only [List.map_toArray, List.map_cons, List.map_nil]); first | done | rfl | (simp only [List.length_drop, List.length_take]; rfl)) ?_; (with_reducible refine (rampartlaw00_Place.calls (rd l1 x7_2) (wrap64 ((x6_2.size : Int) + 1)) t166 _ A10.out).mono ?_); rintro e w' ⟨rfl, ⟨nd, rfl⟩⟩; refine ⟨_, rfl, ?_⟩) | ((with_reducible refine gate_builtin (b := .append) (xs := #[.tmp 33, .tmp 37]) rfl ?_); (try (refine gate_guard (by rfl) ?_; dsimp only)); at_builtin; refine Kd.R_append Kd.string (w0 := w) w.heap.size rfl (.tmp 33) (.tmp 37) 36 9 (.string ⟨#[]⟩) 16 rfl Try.underlying36 info9 rfl (by decide) (by omega) u5 x5_2 (x6_2.extract 0 (t166 : Int).toNat) [.string (x6_2.extract 0 (t166 : Int).toNat)] (fun _ => True) (fun _ => False) rfl rfl ?aP (fun _ hk => hk.elim) ?aF ?aO ?aB ?aS ?aL ?_; (case aP => exact rfl); (case aB => exact (by repeat (first | (with_reducible first | exact HB.out | apply below_alloc | apply pw_below_drewN | apply below_drew1) | exact HB.out))); (case aF => exact (fun _ _ => trivial)); (case aO => exact (by (with_reducible repeat (first | apply Kd.R_alloc | apply Kd.R_drewN | apply Kd.R_drew)); exact HO_5.out)); (case aS => exact (below_size (by repeat (first | (with_reducible first | exact HB.out | apply below_alloc | apply pw_below_drewN | apply below_drew1) | exact HB.out)))); (case aL => have := LMc13.out; omega); intro v168 w16 ho hb hg hat; rw [← Ny167.out] at ho; have n0_ := Aside0.mk (hb); have n1_ := Aside0.mk (ho); clear HB; clear HO_5; have HB := n0_; have HO169 := n1_; clear n0_ n1_; clear ho hb hg hat))
                      go_roundg k2
                      case measure => have := HJ2.out; have := HK2.out; omega
                      case rel => exact ⟨(y167), (x6_2.extract (t166 : Int).toNat x6_2.size), (wrap64 (x7_2 + 1)), (by first | rfl | (simp; done) | (simp [*]; done)), (by first | rfl | (simp; done) | (simp [*]; done)), H', ⟨by have := HJ2.out; have := HK2.out; omega⟩, ⟨by (with_reducible repeat (first | apply Kd.R_alloc | apply Kd.R_drewN | apply Kd.R_drew)); exact HO169.out⟩, ⟨by repeat (first | (with_reducible first | exact HB.out | apply below_alloc | apply pw_below_drewN | apply below_drew1) | exact HB.out)⟩⟩
                    · rw [if_neg c13] at H
                      exact absurd H (by simp)
                  · rw [if_neg c12] at H
                    exact absurd H (by simp)
                · rw [if_neg c11] at H
                  exact absurd H (by simp)
              · rw [if_neg c9] at H
                exact absurd H (by simp)
            · rw [if_neg c8] at H
              have c8b0 : decide (x7_2 < (l1.length : Int)) = false := decide_eq_false c8
              clear c8
              by_cases c17 : x5_2.length < 8796093022208
              · rw [if_pos c17] at H
                have LMc17 := Aside0.mk c17
                clear c17
                obtain ⟨y170, hy170⟩ : ∃ y_ : List ByteArray, y_ = (x5_2 ++ [x6_2]) := ⟨_, rfl⟩
                replace H : ((sum_Of.f k2 y170).bind fun t173 => ((sum_Of.f k2 (([a0] : List ByteArray))).bind fun t177 => (if t173 = t177 then (if ((a0.size : Int) % 2) = 0 then ((rampartlaw01_awake.f k2).bind fun t178 => (some t178)) else (if a0.size + 1 ≤ 9223372036854775807 then ((sum_Of.f k2 (([a0 ++ (⟨#[0]⟩ : ByteArray)] : List ByteArray))).bind fun t182 => ((sum_Of.f k2 (([a0] : List ByteArray))).bind fun t186 => (if t182 = t186 then ((rampartlaw01_awake.f k2).bind fun t187 => (some t187)) else (some false)))) else (none))) else (some false)))) = some r := by first | (rw [hy170]; with_reducible exact H) | (have H2_ := (Option.bind_some _ _).symm.trans H; rw [hy170]; with_reducible exact H2_) | (have H2_ := (Option.bind_some _ _).symm.trans H; with_reducible exact H2_) | with_reducible exact H | (rw [hy170]; exact H) | exact H
                have Ny170 := Aside0.mk hy170
                clear hy170
                replace H := Option.bind_eq_some_iff.mp H
                obtain ⟨t173, A180, H⟩ := H
                replace H : ((sum_Of.f k2 (([a0] : List ByteArray))).bind fun t177 => (if t173 = t177 then (if ((a0.size : Int) % 2) = 0 then ((rampartlaw01_awake.f k2).bind fun t178 => (some t178)) else (if a0.size + 1 ≤ 9223372036854775807 then ((sum_Of.f k2 (([a0 ++ (⟨#[0]⟩ : ByteArray)] : List ByteArray))).bind fun t182 => ((sum_Of.f k2 (([a0] : List ByteArray))).bind fun t186 => (if t182 = t186 then ((rampartlaw01_awake.f k2).bind fun t187 => (some t187)) else (some false)))) else (none))) else (some false))) = some r := H
                have A18 := Aside0.mk A180
                clear A180
                obtain ⟨y174, hy174⟩ : ∃ y_ : List ByteArray, y_ = (([a0] : List ByteArray)) := ⟨_, rfl⟩
                replace H : ((sum_Of.f k2 y174).bind fun t177 => (if t173 = t177 then (if ((a0.size : Int) % 2) = 0 then ((rampartlaw01_awake.f k2).bind fun t178 => (some t178)) else (if a0.size + 1 ≤ 9223372036854775807 then ((sum_Of.f k2 (([a0 ++ (⟨#[0]⟩ : ByteArray)] : List ByteArray))).bind fun t182 => ((sum_Of.f k2 (([a0] : List ByteArray))).bind fun t186 => (if t182 = t186 then ((rampartlaw01_awake.f k2).bind fun t187 => (some t187)) else (some false)))) else (none))) else (some false))) = some r := by first | (rw [hy174]; with_reducible exact H) | (have H2_ := (Option.bind_some _ _).symm.trans H; rw [hy174]; with_reducible exact H2_) | (have H2_ := (Option.bind_some _ _).symm.trans H; with_reducible exact H2_) | with_reducible exact H | (rw [hy174]; exact H) | exact H
                have Ny174 := Aside0.mk hy174
                clear hy174
                replace H := Option.bind_eq_some_iff.mp H
                obtain ⟨t177, A190, H⟩ := H
                replace H : (if t173 = t177 then (if ((a0.size : Int) % 2) = 0 then ((rampartlaw01_awake.f k2).bind fun t178 => (some t178)) else (if a0.size + 1 ≤ 9223372036854775807 then ((sum_Of.f k2 (([a0 ++ (⟨#[0]⟩ : ByteArray)] : List ByteArray))).bind fun t182 => ((sum_Of.f k2 (([a0] : List ByteArray))).bind fun t186 => (if t182 = t186 then ((rampartlaw01_awake.f k2).bind fun t187 => (some t187)) else (some false)))) else (none))) else (some false)) = some r := H
                have A19 := Aside0.mk A190
                clear A190
                by_cases c20 : t173 = t177
                · rw [if_pos c20] at H
                  have c20b0 : (t173 == t177) = true := beq_iff_eq.mpr c20
                  have c20b1 : (t173 != t177) = false := bne_eq_false_iff_eq.mpr c20
                  clear c20
                  by_cases c21 : ((a0.size : Int) % 2) = 0
                  · rw [if_pos c21] at H
                    have c21b0 : (((a0.size : Int) % 2) == 0) = true := beq_iff_eq.mpr c21
                    have c21b1 : (((a0.size : Int) % 2) != 0) = false := bne_eq_false_iff_eq.mpr c21
                    clear c21
                    replace H := Option.bind_eq_some_iff.mp H
                    obtain ⟨t178, A220, H⟩ := H
                    replace H : (some t178) = some r := H
                    have A22 := Aside0.mk A220
                    clear A220
                    obtain rfl := Option.some.inj H
                    go_wp2_with (first | ((with_reducible refine gate_builtin (b := .append) (xs := #[.tmp 42, .tmp 44]) rfl ?_); (try (refine gate_guard (by rfl) ?_; dsimp only)); at_builtin; refine Kd.R_append Kd.string (w0 := w) w.heap.size rfl (.tmp 42) (.tmp 44) 36 9 (.string ⟨#[]⟩) 16 rfl Try.underlying36 info9 rfl (by decide) (by omega) u5 x5_2 x6_2 [.string x6_2] (fun _ => True) (fun _ => False) rfl rfl ?aP (fun _ hk => hk.elim) ?aF ?aO ?aB ?aS ?aL ?_; (case aP => exact rfl); (case aB => exact (by repeat (first | (with_reducible first | exact HB.out | apply below_alloc | apply pw_below_drewN | apply below_drew1) | exact HB.out))); (case aF => exact (fun _ _ => trivial)); (case aO => exact (by (with_reducible repeat (first | apply Kd.R_alloc | apply Kd.R_drewN | apply Kd.R_drew)); exact HO_5.out)); (case aS => exact (below_size (by repeat (first | (with_reducible first | exact HB.out | apply below_alloc | apply pw_below_drewN | apply below_drew1) | exact HB.out)))); (case aL => have := LMc17.out; omega); intro v171 w23 ho hb hg hat; rw [← Ny170.out] at ho; have n0_ := Aside0.mk (hb); have n1_ := Aside0.mk (ho); clear HB; clear HO_5; have HB := n0_; have HO172 := n1_; clear n0_ n1_; clear ho hb hg hat; obtain ⟨Ao24, co24, eo24⟩ := Kd.R_slice HO172.out; subst eo24) | ((with_reducible refine gate_callee (f := 16) rfl ?_); refine goesL_ (some 47) rfl rfl Try.func16 (by kernel_rfl) rfl #[.slice Ao24 y170.length co24] rfl (by (try simp only [List.map_toArray, List.map_cons, List.map_nil]); first | done | rfl | (simp only [List.length_drop, List.length_take]; rfl)) ?_; (with_reducible refine (sum_Of.calls k2 _ _ y170 t173 _ ?side1 ?side2 A18.out).mono ?_); (case side1 => repeat (first | exact (Kd.R_reads' HO172.out).2.2 | (with_reducible refine Kd.C_alloc ?_ _) | (with_reducible refine Kd.C_drewN ?_ _) | (with_reducible refine Kd.C_drew ?_))); (case side2 => exact (Kd.R_reads' HO172.out).2.1); rintro e w' ⟨rfl, ⟨nd, rfl⟩⟩; refine ⟨_, rfl, ?_⟩) | ((with_reducible refine gate_dst (N := 49) rfl ?_); (try (refine gate_guard (by rfl) ?_; dsimp only)); refine Kd.R_lit Kd.string _ 9 ?hg (N := 49) ?hd (xs := ([a0] : List ByteArray)) (inner := [.string a0]) (ok := fun _ => True) (okp := fun _ => True) ?hr ?hp (fun _ hk => hk) trivial (Below.refl _ _) (Nat.le_refl _) (by simp) ?_; (case hd => rfl); (case hg => rfl); (case hr => first | (go_simp; done) | (go_simp; rfl)); (case hp => exact (Reps.one (show Kd.M Kd.string _ _ _ a0 [.string a0] from rfl) (Reps.none _ _))); intro v175 w25 ho26 hb hg_ hnew_; clear hg_ hnew_; (first | rw [← Ny174.out] at ho26 | (simp only [Int.reduceToNat] at ho26; rw [← Ny174.out] at ho26)); have n0_ := Aside0.mk (Kd.R_elder' (by (with_reducible repeat (first | apply Kd.R_alloc | apply Kd.R_drewN | apply Kd.R_drew)); exact HO172.out) (Kd.R_base ho26) hb); have n1_ := Aside0.mk (Kd.R_lower (Kd.R_new' ho26 (Kd.R_lt (by (with_reducible repeat (first | apply Kd.R_alloc | apply Kd.R_drewN | apply Kd.R_drew)); exact HO172.out))) (below_size (by repeat (first | (with_reducible first | exact HB.out | apply below_alloc | apply pw_below_drewN | apply below_drew1) | exact HB.out)))); have n2_ := Aside0.mk (below_step (by repeat (first | (with_reducible first | exact HB.out | apply below_alloc | apply pw_below_drewN | apply below_drew1) | exact HB.out)) hb); clear HO172; clear HB; have HO172 := n0_; have HO176 := n1_; have HB := n2_; clear n0_ n1_ n2_; clear hb ho26; obtain ⟨Ao27, co27, eo27⟩ := Kd.R_slice HO176.out; subst eo27) | ((with_reducible refine gate_callee (f := 16) rfl ?_); refine goesL_ (some 50) rfl rfl Try.func16 (by kernel_rfl) rfl #[.slice Ao27 y174.length co27] rfl (by (try simp only [List.map_toArray, List.map_cons, List.map_nil]); first | done | rfl | (simp only [List.length_drop, List.length_take]; rfl)) ?_; (with_reducible refine (sum_Of.calls k2 _ _ y174 t177 _ ?side1 ?side2 A19.out).mono ?_); (case side1 => repeat (first | exact (Kd.R_reads' HO176.out).2.2 | (with_reducible refine Kd.C_alloc ?_ _) | (with_reducible refine Kd.C_drewN ?_ _) | (with_reducible refine Kd.C_drew ?_))); (case side2 => exact (Kd.R_reads' HO176.out).2.1); rintro e w' ⟨rfl, ⟨nd, rfl⟩⟩; refine ⟨_, rfl, ?_⟩) | (go_at_call 15; (with_reducible refine (rampartlaw01_awake.calls k2  t178 _ A22.out).mono ?_); rintro e w28 ⟨rfl, hb⟩; have n0_ := Aside0.mk (Kd.R_below (by (with_reducible repeat (first | apply Kd.R_alloc | apply Kd.R_drewN | apply Kd.R_drew)); exact HO172.out) hb); have n1_ := Aside0.mk (Kd.R_below (by (with_reducible repeat (first | apply Kd.R_alloc | apply Kd.R_drewN | apply Kd.R_drew)); exact HO176.out) hb); have n2_ := Aside0.mk (below_step (by repeat (first | (with_reducible first | exact HB.out | apply below_alloc | apply pw_below_drewN | apply below_drew1) | exact HB.out)) hb); clear HO172; clear HO176; clear HB; have HO172 := n0_; have HO176 := n1_; have HB := n2_; clear n0_ n1_ n2_; (try clear hb); (try clear hb2); (try clear hk); (try clear hi)))
                    go_ret
                    exact ⟨by first | rfl | (simp [errW_none, errW_some] <;> rfl) | (simp [*, errW_none, errW_some] <;> rfl), by repeat (first | (with_reducible first | exact HB.out | apply below_alloc | apply pw_below_drewN | apply below_drew1) | exact HB.out)⟩
                  · rw [if_neg c21] at H
                    have c21b0 : (((a0.size : Int) % 2) == 0) = false := beq_eq_false_iff_ne.mpr c21
                    have c21b1 : (((a0.size : Int) % 2) != 0) = true := bne_iff_ne.mpr c21
                    by_cases c29 : a0.size + 1 ≤ 9223372036854775807
                    · rw [if_pos c29] at H
                      have c29b0 := eq_true c29
                      have c29b1 : decide (a0.size + 1 ≤ 9223372036854775807) = true := decide_eq_true c29
                      try have c29b2 : (9223372036854775807 < a0.size + 1) = False := eq_false (Nat.not_lt.2 c29)
                      obtain ⟨y179, hy179⟩ : ∃ y_ : List ByteArray, y_ = (([a0 ++ (⟨#[0]⟩ : ByteArray)] : List ByteArray)) := ⟨_, rfl⟩
                      replace H : ((sum_Of.f k2 y179).bind fun t182 => ((sum_Of.f k2 (([a0] : List ByteArray))).bind fun t186 => (if t182 = t186 then ((rampartlaw01_awake.f k2).bind fun t187 => (some t187)) else (some false)))) = some r := by first | (rw [hy179]; with_reducible exact H) | (have H2_ := (Option.bind_some _ _).symm.trans H; rw [hy179]; with_reducible exact H2_) | (have H2_ := (Option.bind_some _ _).symm.trans H; with_reducible exact H2_) | with_reducible exact H | (rw [hy179]; exact H) | exact H
                      have Ny179 := Aside0.mk hy179
                      clear hy179
                      replace H := Option.bind_eq_some_iff.mp H
                      obtain ⟨t182, A300, H⟩ := H
                      replace H : ((sum_Of.f k2 (([a0] : List ByteArray))).bind fun t186 => (if t182 = t186 then ((rampartlaw01_awake.f k2).bind fun t187 => (some t187)) else (some false))) = some r := H
                      have A30 := Aside0.mk A300
                      clear A300
                      obtain ⟨y183, hy183⟩ : ∃ y_ : List ByteArray, y_ = (([a0] : List ByteArray)) := ⟨_, rfl⟩
                      replace H : ((sum_Of.f k2 y183).bind fun t186 => (if t182 = t186 then ((rampartlaw01_awake.f k2).bind fun t187 => (some t187)) else (some false))) = some r := by first | (rw [hy183]; with_reducible exact H) | (have H2_ := (Option.bind_some _ _).symm.trans H; rw [hy183]; with_reducible exact H2_) | (have H2_ := (Option.bind_some _ _).symm.trans H; with_reducible exact H2_) | with_reducible exact H | (rw [hy183]; exact H) | exact H
                      have Ny183 := Aside0.mk hy183
                      clear hy183
                      replace H := Option.bind_eq_some_iff.mp H
                      obtain ⟨t186, A310, H⟩ := H
                      replace H : (if t182 = t186 then ((rampartlaw01_awake.f k2).bind fun t187 => (some t187)) else (some false)) = some r := H
                      have A31 := Aside0.mk A310
                      clear A310
                      by_cases c32 : t182 = t186
                      · rw [if_pos c32] at H
                        have c32b0 : (t182 == t186) = true := beq_iff_eq.mpr c32
                        have c32b1 : (t182 != t186) = false := bne_eq_false_iff_eq.mpr c32
                        clear c32
                        replace H := Option.bind_eq_some_iff.mp H
                        obtain ⟨t187, A330, H⟩ := H
                        replace H : (some t187) = some r := H
                        have A33 := Aside0.mk A330
                        clear A330
                        obtain rfl := Option.some.inj H
                        go_wp2_with (first | ((with_reducible refine gate_builtin (b := .append) (xs := #[.tmp 42, .tmp 44]) rfl ?_); (try (refine gate_guard (by rfl) ?_; dsimp only)); at_builtin; refine Kd.R_append Kd.string (w0 := w) w.heap.size rfl (.tmp 42) (.tmp 44) 36 9 (.string ⟨#[]⟩) 16 rfl Try.underlying36 info9 rfl (by decide) (by omega) u5 x5_2 x6_2 [.string x6_2] (fun _ => True) (fun _ => False) rfl rfl ?aP (fun _ hk => hk.elim) ?aF ?aO ?aB ?aS ?aL ?_; (case aP => exact rfl); (case aB => exact (by repeat (first | (with_reducible first | exact HB.out | apply below_alloc | apply pw_below_drewN | apply below_drew1) | exact HB.out))); (case aF => exact (fun _ _ => trivial)); (case aO => exact (by (with_reducible repeat (first | apply Kd.R_alloc | apply Kd.R_drewN | apply Kd.R_drew)); exact HO_5.out)); (case aS => exact (below_size (by repeat (first | (with_reducible first | exact HB.out | apply below_alloc | apply pw_below_drewN | apply below_drew1) | exact HB.out)))); (case aL => have := LMc17.out; omega); intro v171 w34 ho hb hg hat; rw [← Ny170.out] at ho; have n0_ := Aside0.mk (hb); have n1_ := Aside0.mk (ho); clear HB; clear HO_5; have HB := n0_; have HO172 := n1_; clear n0_ n1_; clear ho hb hg hat; obtain ⟨Ao35, co35, eo35⟩ := Kd.R_slice HO172.out; subst eo35) | ((with_reducible refine gate_callee (f := 16) rfl ?_); refine goesL_ (some 47) rfl rfl Try.func16 (by kernel_rfl) rfl #[.slice Ao35 y170.length co35] rfl (by (try simp only [List.map_toArray, List.map_cons, List.map_nil]); first | done | rfl | (simp only [List.length_drop, List.length_take]; rfl)) ?_; (with_reducible refine (sum_Of.calls k2 _ _ y170 t173 _ ?side1 ?side2 A18.out).mono ?_); (case side1 => repeat (first | exact (Kd.R_reads' HO172.out).2.2 | (with_reducible refine Kd.C_alloc ?_ _) | (with_reducible refine Kd.C_drewN ?_ _) | (with_reducible refine Kd.C_drew ?_))); (case side2 => exact (Kd.R_reads' HO172.out).2.1); rintro e w' ⟨rfl, ⟨nd, rfl⟩⟩; refine ⟨_, rfl, ?_⟩) | ((with_reducible refine gate_dst (N := 49) rfl ?_); (try (refine gate_guard (by rfl) ?_; dsimp only)); refine Kd.R_lit Kd.string _ 9 ?hg (N := 49) ?hd (xs := ([a0] : List ByteArray)) (inner := [.string a0]) (ok := fun _ => True) (okp := fun _ => True) ?hr ?hp (fun _ hk => hk) trivial (Below.refl _ _) (Nat.le_refl _) (by simp) ?_; (case hd => rfl); (case hg => rfl); (case hr => first | (go_simp; done) | (go_simp; rfl)); (case hp => exact (Reps.one (show Kd.M Kd.string _ _ _ a0 [.string a0] from rfl) (Reps.none _ _))); intro v175 w36 ho37 hb hg_ hnew_; clear hg_ hnew_; (first | rw [← Ny174.out] at ho37 | (simp only [Int.reduceToNat] at ho37; rw [← Ny174.out] at ho37)); have n0_ := Aside0.mk (Kd.R_elder' (by (with_reducible repeat (first | apply Kd.R_alloc | apply Kd.R_drewN | apply Kd.R_drew)); exact HO172.out) (Kd.R_base ho37) hb); have n1_ := Aside0.mk (Kd.R_lower (Kd.R_new' ho37 (Kd.R_lt (by (with_reducible repeat (first | apply Kd.R_alloc | apply Kd.R_drewN | apply Kd.R_drew)); exact HO172.out))) (below_size (by repeat (first | (with_reducible first | exact HB.out | apply below_alloc | apply pw_below_drewN | apply below_drew1) | exact HB.out)))); have n2_ := Aside0.mk (below_step (by repeat (first | (with_reducible first | exact HB.out | apply below_alloc | apply pw_below_drewN | apply below_drew1) | exact HB.out)) hb); clear HO172; clear HB; have HO172 := n0_; have HO176 := n1_; have HB := n2_; clear n0_ n1_ n2_; clear hb ho37; obtain ⟨Ao38, co38, eo38⟩ := Kd.R_slice HO176.out; subst eo38) | ((with_reducible refine gate_callee (f := 16) rfl ?_); refine goesL_ (some 50) rfl rfl Try.func16 (by kernel_rfl) rfl #[.slice Ao38 y174.length co38] rfl (by (try simp only [List.map_toArray, List.map_cons, List.map_nil]); first | done | rfl | (simp only [List.length_drop, List.length_take]; rfl)) ?_; (with_reducible refine (sum_Of.calls k2 _ _ y174 t177 _ ?side1 ?side2 A19.out).mono ?_); (case side1 => repeat (first | exact (Kd.R_reads' HO176.out).2.2 | (with_reducible refine Kd.C_alloc ?_ _) | (with_reducible refine Kd.C_drewN ?_ _) | (with_reducible refine Kd.C_drew ?_))); (case side2 => exact (Kd.R_reads' HO176.out).2.1); rintro e w' ⟨rfl, ⟨nd, rfl⟩⟩; refine ⟨_, rfl, ?_⟩) | ((with_reducible refine gate_dst (N := 60) rfl ?_); (try (refine gate_guard (by rfl) ?_; dsimp only)); refine Kd.R_lit Kd.string _ 9 ?hg (N := 60) ?hd (xs := ([a0 ++ (⟨#[0]⟩ : ByteArray)] : List ByteArray)) (inner := [.string (a0 ++ (⟨#[0]⟩ : ByteArray))]) (ok := fun _ => True) (okp := fun _ => True) ?hr ?hp (fun _ hk => hk) trivial (Below.refl _ _) (Nat.le_refl _) (by simp) ?_; (case hd => rfl); (case hg => rfl); (case hr => first | (go_simp; done) | (go_simp; rfl)); (case hp => exact (Reps.one (show Kd.M Kd.string _ _ _ (a0 ++ (⟨#[0]⟩ : ByteArray)) [.string (a0 ++ (⟨#[0]⟩ : ByteArray))] from rfl) (Reps.none _ _))); intro v180 w39 ho40 hb hg_ hnew_; clear hg_ hnew_; (first | rw [← Ny179.out] at ho40 | (simp only [Int.reduceToNat] at ho40; rw [← Ny179.out] at ho40)); have n0_ := Aside0.mk (Kd.R_elder' (by (with_reducible repeat (first | apply Kd.R_alloc | apply Kd.R_drewN | apply Kd.R_drew)); exact HO172.out) (Kd.R_base ho40) hb); have n1_ := Aside0.mk (Kd.R_elder' (by (with_reducible repeat (first | apply Kd.R_alloc | apply Kd.R_drewN | apply Kd.R_drew)); exact HO176.out) (Kd.R_base ho40) hb); have n2_ := Aside0.mk (Kd.R_lower (Kd.R_new' (Kd.R_new' ho40 (Kd.R_lt (by (with_reducible repeat (first | apply Kd.R_alloc | apply Kd.R_drewN | apply Kd.R_drew)); exact HO172.out))) (Kd.R_lt (by (with_reducible repeat (first | apply Kd.R_alloc | apply Kd.R_drewN | apply Kd.R_drew)); exact HO176.out))) (below_size (by repeat (first | (with_reducible first | exact HB.out | apply below_alloc | apply pw_below_drewN | apply below_drew1) | exact HB.out)))); have n3_ := Aside0.mk (below_step (by repeat (first | (with_reducible first | exact HB.out | apply below_alloc | apply pw_below_drewN | apply below_drew1) | exact HB.out)) hb); clear HO172; clear HO176; clear HB; have HO172 := n0_; have HO176 := n1_; have HO181 := n2_; have HB := n3_; clear n0_ n1_ n2_ n3_; clear hb ho40; obtain ⟨Ao41, co41, eo41⟩ := Kd.R_slice HO181.out; subst eo41) | (go_at_call 16; (with_reducible refine (sum_Of.calls k2 _ _ y179 t182 _ ?side1 ?side2 A30.out).mono ?_); (case side1 => repeat (first | exact (Kd.R_reads' HO181.out).2.2 | (with_reducible refine Kd.C_alloc ?_ _) | (with_reducible refine Kd.C_drewN ?_ _) | (with_reducible refine Kd.C_drew ?_))); (case side2 => exact (Kd.R_reads' HO181.out).2.1); rintro e w' ⟨rfl, ⟨nd, rfl⟩⟩) | ((with_reducible refine gate_dst (N := 63) rfl ?_); (try (refine gate_guard (by rfl) ?_; dsimp only)); refine Kd.R_lit Kd.string _ 9 ?hg (N := 63) ?hd (xs := ([a0] : List ByteArray)) (inner := [.string a0]) (ok := fun _ => True) (okp := fun _ => True) ?hr ?hp (fun _ hk => hk) trivial (Below.refl _ _) (Nat.le_refl _) (by simp) ?_; (case hd => rfl); (case hg => rfl); (case hr => first | (go_simp; done) | (go_simp; rfl)); (case hp => exact (Reps.one (show Kd.M Kd.string _ _ _ a0 [.string a0] from rfl) (Reps.none _ _))); intro v184 w42 ho43 hb hg_ hnew_; clear hg_ hnew_; (first | rw [← Ny183.out] at ho43 | (simp only [Int.reduceToNat] at ho43; rw [← Ny183.out] at ho43)); have n0_ := Aside0.mk (Kd.R_elder' (by (with_reducible repeat (first | apply Kd.R_alloc | apply Kd.R_drewN | apply Kd.R_drew)); exact HO172.out) (Kd.R_base ho43) hb); have n1_ := Aside0.mk (Kd.R_elder' (by (with_reducible repeat (first | apply Kd.R_alloc | apply Kd.R_drewN | apply Kd.R_drew)); exact HO176.out) (Kd.R_base ho43) hb); have n2_ := Aside0.mk (Kd.R_elder' (by (with_reducible repeat (first | apply Kd.R_alloc | apply Kd.R_drewN | apply Kd.R_drew)); exact HO181.out) (Kd.R_base ho43) hb); have n3_ := Aside0.mk (Kd.R_lower (Kd.R_new' (Kd.R_new' (Kd.R_new' ho43 (Kd.R_lt (by (with_reducible repeat (first | apply Kd.R_alloc | apply Kd.R_drewN | apply Kd.R_drew)); exact HO172.out))) (Kd.R_lt (by (with_reducible repeat (first | apply Kd.R_alloc | apply Kd.R_drewN | apply Kd.R_drew)); exact HO176.out))) (Kd.R_lt (by (with_reducible repeat (first | apply Kd.R_alloc | apply Kd.R_drewN | apply Kd.R_drew)); exact HO181.out))) (below_size (by repeat (first | (with_reducible first | exact HB.out | apply below_alloc | apply pw_below_drewN | apply below_drew1) | exact HB.out)))); have n4_ := Aside0.mk (below_step (by repeat (first | (with_reducible first | exact HB.out | apply below_alloc | apply pw_below_drewN | apply below_drew1) | exact HB.out)) hb); clear HO172; clear HO176; clear HO181; clear HB; have HO172 := n0_; have HO176 := n1_; have HO181 := n2_; have HO185 := n3_; have HB := n4_; clear n0_ n1_ n2_ n3_ n4_; clear hb ho43; obtain ⟨Ao44, co44, eo44⟩ := Kd.R_slice HO185.out; subst eo44) | (go_at_call 16; (with_reducible refine (sum_Of.calls k2 _ _ y183 t186 _ ?side1 ?side2 A31.out).mono ?_); (case side1 => repeat (first | exact (Kd.R_reads' HO185.out).2.2 | (with_reducible refine Kd.C_alloc ?_ _) | (with_reducible refine Kd.C_drewN ?_ _) | (with_reducible refine Kd.C_drew ?_))); (case side2 => exact (Kd.R_reads' HO185.out).2.1); rintro e w' ⟨rfl, ⟨nd, rfl⟩⟩) | (go_at_call 15; (with_reducible refine (rampartlaw01_awake.calls k2  t187 _ A33.out).mono ?_); rintro e w45 ⟨rfl, hb⟩; have n0_ := Aside0.mk (Kd.R_below (by (with_reducible repeat (first | apply Kd.R_alloc | apply Kd.R_drewN | apply Kd.R_drew)); exact HO172.out) hb); have n1_ := Aside0.mk (Kd.R_below (by (with_reducible repeat (first | apply Kd.R_alloc | apply Kd.R_drewN | apply Kd.R_drew)); exact HO176.out) hb); have n2_ := Aside0.mk (Kd.R_below (by (with_reducible repeat (first | apply Kd.R_alloc | apply Kd.R_drewN | apply Kd.R_drew)); exact HO181.out) hb); have n3_ := Aside0.mk (Kd.R_below (by (with_reducible repeat (first | apply Kd.R_alloc | apply Kd.R_drewN | apply Kd.R_drew)); exact HO185.out) hb); have n4_ := Aside0.mk (below_step (by repeat (first | (with_reducible first | exact HB.out | apply below_alloc | apply pw_below_drewN | apply below_drew1) | exact HB.out)) hb); clear HO172; clear HO176; clear HO181; clear HO185; clear HB; have HO172 := n0_; have HO176 := n1_; have HO181 := n2_; have HO185 := n3_; have HB := n4_; clear n0_ n1_ n2_ n3_ n4_; (try clear hb); (try clear hb2); (try clear hk); (try clear hi)))
                        go_ret
                        exact ⟨by first | rfl | (simp [errW_none, errW_some] <;> rfl) | (simp [*, errW_none, errW_some] <;> rfl), by repeat (first | (with_reducible first | exact HB.out | apply below_alloc | apply pw_below_drewN | apply below_drew1) | exact HB.out)⟩
                      · rw [if_neg c32] at H
                        have c32b0 : (t182 == t186) = false := beq_eq_false_iff_ne.mpr c32
                        have c32b1 : (t182 != t186) = true := bne_iff_ne.mpr c32
                        exact absurd ((Option.some.inj H).trans HR.out) (by decide)
                    · rw [if_neg c29] at H
                      exact absurd H (by simp)
                · rw [if_neg c20] at H
                  have c20b0 : (t173 == t177) = false := beq_eq_false_iff_ne.mpr c20
                  have c20b1 : (t173 != t177) = true := bne_iff_ne.mpr c20
                  exact absurd ((Option.some.inj H).trans HR.out) (by decide)
              · rw [if_neg c17] at H
                exact absurd H (by simp)

/-- THE ONE PURE STATEMENT of rampartlaw01_SumParts: yours. -/
def rampartlaw01_SumParts.Pure : Prop := ∀ (a0 : ByteArray) (l1 : List Int), a0.size ≤ 140737488351232 → l1.length ≤ maxLen → l1.length * 8 ≤ 140737488351232 → (∀ x ∈ l1, (Lit.int .i64 x).wf = true) → ∃ k, rampartlaw01_SumParts.f k a0 l1 = some true
theorem rampartlaw01_SumParts.walk (P : rampartlaw01_SumParts.Pure) (a0 : ByteArray) (a1 : Option Addr) (len1 cap1 : Nat) (z1 : List Int) (w : World) (w0 : a0.size ≤ 140737488351232) (w1 : (a1 = none ∧ len1 = 0 ∧ cap1 = 0 ∧ z1 = []) ∨ ∃ x, a1 = some x ∧ len1 ≤ cap1 ∧ cap1 ≤ maxLen ∧ z1.length = cap1 ∧ (∀ i, i < z1.length → w.cell? (x.add i) = some (.int .i64 (z1.getD i 0))) ∧ ∀ n ∈ z1, (Lit.int .i64 n).wf = true) (y1 : len1 * 8 ≤ 140737488351232) :
    Calls Try.prog 5 #[.string a0, .slice a1 len1 cap1] w fun e w' => e = .returned (.bool true) ∧ Below w.heap.size w w' := by
  obtain ⟨l1, rfl, hr1, hm1, hw1, hc1⟩ := ReadsInt.ofRowC w1
  obtain ⟨k, h⟩ := P a0 l1 w0 hm1 y1 hw1
  refine (rampartlaw01_SumParts.calls k a0 _ _ l1 true w (Kd.C_of_reads (d := (0 : Int)) (h1 := fun _ => rfl) hr1) hc1 h rfl).mono ?_
  rintro e w' ⟨rfl, hd⟩
  exact ⟨rfl, hd⟩

/-! ### rampartlaw01_SumNumbers: function 6 -/
def rampartlaw01_SumNumbers.j0 : Nat → Int → Int → ByteArray → Int → Option (Bool)
  | 0, _, _, _, _ => none
  | k + 1, x0, x5, x7, x8 => if (x7.size : Int) = x5 then ((sum_Num.f x7).bind fun t191 => (if t191 = x8 then (if 1 + x7.size ≤ 9223372036854775807 then ((sum_Num.f ((⟨#[0]⟩ : ByteArray) ++ x7)).bind fun t192 => (if t192 = x8 then ((sum_Big.f k x0 (wrap64 ((-1) - x5))).bind fun t193 => (if t193.toList = ([] : List UInt8) then ((sum_Big.f k x0 (wrap64 (8 + x5))).bind fun t194 => (if (t194.size : Int) = 8 then ((rampartlaw01_awake.f k).bind fun t195 => (some t195)) else (some false))) else (some false))) else (some false))) else (none)) else (some false))) else (some false)
def rampartlaw01_SumNumbers.f (k : Nat) (a0 : Int) (a1 : Int) : Option (Bool) := (rampartlaw00_Place.f a1 8).bind fun t188 => ((rampartlaw00_Place.f a0 36028797018963968).bind fun t189 => ((sum_Big.f k t189 t188).bind fun t190 => (if t188 < 7 then (if 0 ≤ (IntKind.u64.wrap (wrap64 (8 * t188))) then (rampartlaw01_SumNumbers.j0 k a0 t188 t190 (Go.bits .and .i64 t189 (wrap64 ((shl .i64 1 (IntKind.u64.wrap (wrap64 (8 * t188)))) - 1)))) else (none)) else (rampartlaw01_SumNumbers.j0 k a0 t188 t190 t189))))
theorem rampartlaw01_SumNumbers.mono_l : ∀ k, (∀ y0 y1 y2 y3, LeO (rampartlaw01_SumNumbers.j0 k y0 y1 y2 y3) (rampartlaw01_SumNumbers.j0 (k + 1) y0 y1 y2 y3))
  | 0 => fun _ _ _ _ r h => by simp [rampartlaw01_SumNumbers.j0] at h
  | k + 1 => by
    have ih0 := rampartlaw01_SumNumbers.mono_l k
    · intro y0 y1 y2 y3
      unfold rampartlaw01_SumNumbers.j0
      repeat' first
      | (with_reducible exact ih0 _ _ _ _)
      | (with_reducible exact rampartlaw01_awake.mono _)
      | (with_reducible exact sum_Big.mono _ _ _)
      | (with_reducible exact LeO.refl _)
      | (with_reducible exact LeO.none _)
      | (with_reducible refine LeO.ite ?_ ?_)
      | (with_reducible refine LeO.bind ?_ (fun _ => ?_))
      | exact ih0 _ _ _ _
      | exact rampartlaw01_awake.mono _
      | exact sum_Big.mono _ _ _
      | exact LeO.none _
      | refine LeO.ite ?_ ?_
      | refine LeO.bind ?_ (fun _ => ?_)
theorem rampartlaw01_SumNumbers.mono : ∀ a0 a1 k, LeO (rampartlaw01_SumNumbers.f k a0 a1) (rampartlaw01_SumNumbers.f (k + 1) a0 a1) := by
  intro a0 a1 k
  have ih0 := rampartlaw01_SumNumbers.mono_l k
  unfold rampartlaw01_SumNumbers.f
  repeat' first
      | (with_reducible exact ih0 _ _ _ _)
      | (with_reducible exact rampartlaw01_awake.mono _)
      | (with_reducible exact sum_Big.mono _ _ _)
      | (with_reducible exact LeO.refl _)
      | (with_reducible exact LeO.none _)
      | (with_reducible refine LeO.ite ?_ ?_)
      | (with_reducible refine LeO.bind ?_ (fun _ => ?_))
      | exact ih0 _ _ _ _
      | exact rampartlaw01_awake.mono _
      | exact sum_Big.mono _ _ _
      | exact LeO.none _
      | refine LeO.ite ?_ ?_
      | refine LeO.bind ?_ (fun _ => ?_)
set_option maxHeartbeats 8000000 in
set_option maxRecDepth 100000 in
theorem rampartlaw01_SumNumbers.calls (k : Nat) (a0 : Int) (a1 : Int) (r : Bool) (w : World) (h : rampartlaw01_SumNumbers.f k a0 a1 = some r) (HR0 : r = true) :
    Calls Try.prog 6 #[.int .i64 a0, .int .i64 a1] w fun e w' => e = .returned (.bool r) ∧ Below w.heap.size w w' := by
  have HR := Aside0.mk HR0
  clear HR0
  have HB := Aside0.mk (Below.refl w.heap.size w)
  have H : ((rampartlaw00_Place.f a1 8).bind fun t188 => ((rampartlaw00_Place.f a0 36028797018963968).bind fun t189 => ((sum_Big.f k t189 t188).bind fun t190 => (if t188 < 7 then (if 0 ≤ (IntKind.u64.wrap (wrap64 (8 * t188))) then (rampartlaw01_SumNumbers.j0 k a0 t188 t190 (Go.bits .and .i64 t189 (wrap64 ((shl .i64 1 (IntKind.u64.wrap (wrap64 (8 * t188)))) - 1)))) else (none)) else (rampartlaw01_SumNumbers.j0 k a0 t188 t190 t189))))) = some r := h
  clear h
  replace H := Option.bind_eq_some_iff.mp H
  obtain ⟨t188, A30, H⟩ := H
  replace H : ((rampartlaw00_Place.f a0 36028797018963968).bind fun t189 => ((sum_Big.f k t189 t188).bind fun t190 => (if t188 < 7 then (if 0 ≤ (IntKind.u64.wrap (wrap64 (8 * t188))) then (rampartlaw01_SumNumbers.j0 k a0 t188 t190 (Go.bits .and .i64 t189 (wrap64 ((shl .i64 1 (IntKind.u64.wrap (wrap64 (8 * t188)))) - 1)))) else (none)) else (rampartlaw01_SumNumbers.j0 k a0 t188 t190 t189)))) = some r := H
  have A3 := Aside0.mk A30
  clear A30
  replace H := Option.bind_eq_some_iff.mp H
  obtain ⟨t189, A40, H⟩ := H
  replace H : ((sum_Big.f k t189 t188).bind fun t190 => (if t188 < 7 then (if 0 ≤ (IntKind.u64.wrap (wrap64 (8 * t188))) then (rampartlaw01_SumNumbers.j0 k a0 t188 t190 (Go.bits .and .i64 t189 (wrap64 ((shl .i64 1 (IntKind.u64.wrap (wrap64 (8 * t188)))) - 1)))) else (none)) else (rampartlaw01_SumNumbers.j0 k a0 t188 t190 t189))) = some r := H
  have A4 := Aside0.mk A40
  clear A40
  replace H := Option.bind_eq_some_iff.mp H
  obtain ⟨t190, A50, H⟩ := H
  replace H : (if t188 < 7 then (if 0 ≤ (IntKind.u64.wrap (wrap64 (8 * t188))) then (rampartlaw01_SumNumbers.j0 k a0 t188 t190 (Go.bits .and .i64 t189 (wrap64 ((shl .i64 1 (IntKind.u64.wrap (wrap64 (8 * t188)))) - 1)))) else (none)) else (rampartlaw01_SumNumbers.j0 k a0 t188 t190 t189)) = some r := H
  have A5 := Aside0.mk A50
  clear A50
  have HC6 := Aside0.mk H
  clear H
  go_enter Try.func6, Try.ntmps6
  go_upto_if 18 with (first | ((with_reducible refine gate_callee (f := 12) rfl ?_); refine goesL_ (some 10) rfl rfl Try.func12 (by kernel_rfl) rfl #[.int .i64 a1, .int .i64 8] rfl (by (try simp only [List.map_toArray, List.map_cons, List.map_nil]); first | done | rfl | (simp only [List.length_drop, List.length_take]; rfl)) ?_; (with_reducible refine (rampartlaw00_Place.calls a1 8 t188 _ A3.out).mono ?_); rintro e w' ⟨rfl, ⟨nd, rfl⟩⟩; refine ⟨_, rfl, ?_⟩) | ((with_reducible refine gate_callee (f := 12) rfl ?_); refine goesL_ (some 12) rfl rfl Try.func12 (by kernel_rfl) rfl #[.int .i64 a0, .int .i64 36028797018963968] rfl (by (try simp only [List.map_toArray, List.map_cons, List.map_nil]); first | done | rfl | (simp only [List.length_drop, List.length_take]; rfl)) ?_; (with_reducible refine (rampartlaw00_Place.calls a0 36028797018963968 t189 _ A4.out).mono ?_); rintro e w' ⟨rfl, ⟨nd, rfl⟩⟩; refine ⟨_, rfl, ?_⟩) | ((with_reducible refine gate_callee (f := 17) rfl ?_); refine goesL_ (some 15) rfl rfl Try.func17 (by kernel_rfl) rfl #[.int .i64 t189, .int .i64 t188] rfl (by (try simp only [List.map_toArray, List.map_cons, List.map_nil]); first | done | rfl | (simp only [List.length_drop, List.length_take]; rfl)) ?_; (with_reducible refine (sum_Big.calls k t189 t188 t190 _ A5.out).mono ?_); rintro e w7 ⟨rfl, hb⟩; refine ⟨_, rfl, ?_⟩; have n0_ := Aside0.mk (below_step (by repeat (first | (with_reducible first | exact HB.out | apply below_alloc | apply pw_below_drewN | apply below_drew1) | exact HB.out)) hb); clear HB; have HB := n0_; clear n0_; (try clear hb); (try clear hb2); (try clear hk); (try clear hi)))
  (try simp only [Act.put, List.setIfInBounds_toArray, List.set_cons_zero, List.set_cons_succ])
  go_cut [8] (fun v8 wc => ∃ (kq : Nat) (x8_5 : Int), v8 = .int .i64 x8_5 ∧ Aside0 (rampartlaw01_SumNumbers.j0 kq a0 t188 t190 x8_5 = some r) ∧ Aside0 (kq ≤ k) ∧ Aside0 (Below w.heap.size w wc))
  case first =>
    have H := HC6.out
    clear HC6
    by_cases c8 : t188 < 7
    · rw [if_pos c8] at H
      have c8b0 : decide (t188 < 7) = true := decide_eq_true c8
      clear c8
      (first | rw [c8b0] | (simp only [i64_w, i32_w]; rw [c8b0]) | skip)
      obtain ⟨ji9, hji9⟩ : ∃ j_ : Int, (IntKind.u64.wrap (wrap64 (8 * t188))) = j_ := ⟨_, rfl⟩
      replace H : (if 0 ≤ (ji9) then (rampartlaw01_SumNumbers.j0 k a0 t188 t190 (Go.bits .and .i64 t189 (wrap64 ((shl .i64 1 (ji9)) - 1)))) else (none)) = some r := by first | (rw [hji9] at H; exact H) | (simp only [hji9] at H ⊢; exact H)
      by_cases c10 : 0 ≤ (ji9)
      · rw [if_pos c10] at H
        have c10b0 := eq_true c10
        have c10b1 : decide (0 ≤ (ji9)) = true := decide_eq_true c10
        clear c10
        obtain ⟨ji11, hji11⟩ : ∃ j_ : Int, (shl .i64 1 (ji9)) = j_ := ⟨_, rfl⟩
        replace H : (rampartlaw01_SumNumbers.j0 k a0 t188 t190 (Go.bits .and .i64 t189 (wrap64 ((ji11) - 1)))) = some r := by first | (rw [hji11] at H; exact H) | (simp only [hji11] at H ⊢; exact H)
        have hji11_ : (IntKind.i64.wrap (1 * 2 ^ min (ji9).toNat 64)) = ji11 := hji11
        have hji11z : (ji9) ≤ 64 → (IntKind.i64.wrap (1 * 2 ^ (ji9).toNat)) = ji11 := shl_small hji11
        have hji11u : (IntKind.i64.wrap (2 ^ min (ji9).toNat 64)) = ji11 := by have h_ := hji11_; rw [Int.one_mul] at h_; exact h_
        have hji11v : (ji9) ≤ 64 → (IntKind.i64.wrap (2 ^ (ji9).toNat)) = ji11 := fun hle_ => by have h_ := hji11z hle_; rw [Int.one_mul] at h_; exact h_
        have hji11y : (wrap64 (1 * 2 ^ min (ji9).toNat 64)) = ji11 := (i64_w _).symm.trans hji11_
        have hji11x : (ji9) ≤ 64 → (wrap64 (1 * 2 ^ (ji9).toNat)) = ji11 := fun h_ => (i64_w _).symm.trans (hji11z h_)
        have H' := Aside0.mk H
        clear H
        go_wp2
        go_meet
        case rel => exact ⟨_, (Go.bits .and .i64 t189 (wrap64 ((ji11) - 1))), (by first | rfl | (simp; done) | (simp only [← hji11] <;> (first | rfl | simp)) | (simp [*]; done)), H', ⟨by first | omega | exact Nat.le_refl _⟩, ⟨by repeat (first | (with_reducible first | exact HB.out | apply below_alloc | apply pw_below_drewN | apply below_drew1) | exact HB.out)⟩⟩
      · rw [if_neg c10] at H
        exact absurd H (by simp)
    · rw [if_neg c8] at H
      have c8b0 : decide (t188 < 7) = false := decide_eq_false c8
      clear c8
      (first | rw [c8b0] | (simp only [i64_w, i32_w]; rw [c8b0]) | skip)
      have H' := Aside0.mk H
      clear H
      go_wp2
      go_meet
      case rel => exact ⟨_, (t189), (by first | rfl | (simp; done) | (simp [*]; done)), H', ⟨by first | omega | exact Nat.le_refl _⟩, ⟨by repeat (first | (with_reducible first | exact HB.out | apply below_alloc | apply pw_below_drewN | apply below_drew1) | exact HB.out)⟩⟩
  case rest =>
    clear HC6
    try clear c1
    try clear p2
    try clear c6
    try clear p6
    try clear c8
    try clear c8b0
    try clear c10
    try clear c10b0
    try clear c10b1
    obtain ⟨kq, x8_5, rfl, HA, HJ5, HB⟩ := hcut
    cases kq with
    | zero => exact absurd HA.out (by simp [rampartlaw01_SumNumbers.j0])
    | succ kj5 =>
      have H := HA.out
      clear HA
      simp only [rampartlaw01_SumNumbers.j0] at H
      by_cases c12 : (t190.size : Int) = t188
      · rw [if_pos c12] at H
        have c12b0 : ((t190.size : Int) == t188) = true := beq_iff_eq.mpr c12
        have c12b1 : ((t190.size : Int) != t188) = false := bne_eq_false_iff_eq.mpr c12
        clear c12
        replace H := Option.bind_eq_some_iff.mp H
        obtain ⟨t191, A130, H⟩ := H
        replace H : (if t191 = x8_5 then (if 1 + t190.size ≤ 9223372036854775807 then ((sum_Num.f ((⟨#[0]⟩ : ByteArray) ++ t190)).bind fun t192 => (if t192 = x8_5 then ((sum_Big.f kj5 a0 (wrap64 ((-1) - t188))).bind fun t193 => (if t193.toList = ([] : List UInt8) then ((sum_Big.f kj5 a0 (wrap64 (8 + t188))).bind fun t194 => (if (t194.size : Int) = 8 then ((rampartlaw01_awake.f kj5).bind fun t195 => (some t195)) else (some false))) else (some false))) else (some false))) else (none)) else (some false)) = some r := H
        have A13 := Aside0.mk A130
        clear A130
        by_cases c14 : t191 = x8_5
        · rw [if_pos c14] at H
          have c14b0 : (t191 == x8_5) = true := beq_iff_eq.mpr c14
          have c14b1 : (t191 != x8_5) = false := bne_eq_false_iff_eq.mpr c14
          clear c14
          by_cases c15 : 1 + t190.size ≤ 9223372036854775807
          · rw [if_pos c15] at H
            have c15b0 := eq_true c15
            have c15b1 : decide (1 + t190.size ≤ 9223372036854775807) = true := decide_eq_true c15
            try have c15b2 : (9223372036854775807 < 1 + t190.size) = False := eq_false (Nat.not_lt.2 c15)
            replace H := Option.bind_eq_some_iff.mp H
            obtain ⟨t192, A160, H⟩ := H
            replace H : (if t192 = x8_5 then ((sum_Big.f kj5 a0 (wrap64 ((-1) - t188))).bind fun t193 => (if t193.toList = ([] : List UInt8) then ((sum_Big.f kj5 a0 (wrap64 (8 + t188))).bind fun t194 => (if (t194.size : Int) = 8 then ((rampartlaw01_awake.f kj5).bind fun t195 => (some t195)) else (some false))) else (some false))) else (some false)) = some r := H
            have A16 := Aside0.mk A160
            clear A160
            by_cases c17 : t192 = x8_5
            · rw [if_pos c17] at H
              have c17b0 : (t192 == x8_5) = true := beq_iff_eq.mpr c17
              have c17b1 : (t192 != x8_5) = false := bne_eq_false_iff_eq.mpr c17
              clear c17
              replace H := Option.bind_eq_some_iff.mp H
              obtain ⟨t193, A180, H⟩ := H
              replace H : (if t193.toList = ([] : List UInt8) then ((sum_Big.f kj5 a0 (wrap64 (8 + t188))).bind fun t194 => (if (t194.size : Int) = 8 then ((rampartlaw01_awake.f kj5).bind fun t195 => (some t195)) else (some false))) else (some false)) = some r := H
              have A18 := Aside0.mk A180
              clear A180
              by_cases c19 : t193.toList = ([] : List UInt8)
              · rw [if_pos c19] at H
                have c19b0 : (t193.toList == ([] : List UInt8)) = true := beq_iff_eq.mpr c19
                have c19b1 : (t193.toList != ([] : List UInt8)) = false := bne_eq_false_iff_eq.mpr c19
                clear c19
                replace H := Option.bind_eq_some_iff.mp H
                obtain ⟨t194, A200, H⟩ := H
                replace H : (if (t194.size : Int) = 8 then ((rampartlaw01_awake.f kj5).bind fun t195 => (some t195)) else (some false)) = some r := H
                have A20 := Aside0.mk A200
                clear A200
                by_cases c21 : (t194.size : Int) = 8
                · rw [if_pos c21] at H
                  have c21b0 : ((t194.size : Int) == 8) = true := beq_iff_eq.mpr c21
                  have c21b1 : ((t194.size : Int) != 8) = false := bne_eq_false_iff_eq.mpr c21
                  clear c21
                  replace H := Option.bind_eq_some_iff.mp H
                  obtain ⟨t195, A220, H⟩ := H
                  replace H : (some t195) = some r := H
                  have A22 := Aside0.mk A220
                  clear A220
                  obtain rfl := Option.some.inj H
                  go_wp2_with (first | (go_at_call 18; (with_reducible refine (sum_Num.calls t190 t191 _ A13.out).mono ?_); rintro e w23 ⟨rfl, hb⟩; have n0_ := Aside0.mk (below_step (by repeat (first | (with_reducible first | exact HB.out | apply below_alloc | apply pw_below_drewN | apply below_drew1) | exact HB.out)) hb); clear HB; have HB := n0_; clear n0_; (try clear hb); (try clear hb2); (try clear hk); (try clear hi)) | (go_at_call 18; (with_reducible refine (sum_Num.calls ((⟨#[0]⟩ : ByteArray) ++ t190) t192 _ A16.out).mono ?_); rintro e w24 ⟨rfl, hb⟩; have n0_ := Aside0.mk (below_step (by repeat (first | (with_reducible first | exact HB.out | apply below_alloc | apply pw_below_drewN | apply below_drew1) | exact HB.out)) hb); clear HB; have HB := n0_; clear n0_; (try clear hb); (try clear hb2); (try clear hk); (try clear hi)) | (go_at_call 17; (with_reducible refine (sum_Big.calls kj5 a0 (wrap64 ((-1) - t188)) t193 _ A18.out).mono ?_); rintro e w25 ⟨rfl, hb⟩; have n0_ := Aside0.mk (below_step (by repeat (first | (with_reducible first | exact HB.out | apply below_alloc | apply pw_below_drewN | apply below_drew1) | exact HB.out)) hb); clear HB; have HB := n0_; clear n0_; (try clear hb); (try clear hb2); (try clear hk); (try clear hi)) | (go_at_call 17; (with_reducible refine (sum_Big.calls kj5 a0 (wrap64 (8 + t188)) t194 _ A20.out).mono ?_); rintro e w26 ⟨rfl, hb⟩; have n0_ := Aside0.mk (below_step (by repeat (first | (with_reducible first | exact HB.out | apply below_alloc | apply pw_below_drewN | apply below_drew1) | exact HB.out)) hb); clear HB; have HB := n0_; clear n0_; (try clear hb); (try clear hb2); (try clear hk); (try clear hi)) | (go_at_call 15; (with_reducible refine (rampartlaw01_awake.calls kj5  t195 _ A22.out).mono ?_); rintro e w27 ⟨rfl, hb⟩; have n0_ := Aside0.mk (below_step (by repeat (first | (with_reducible first | exact HB.out | apply below_alloc | apply pw_below_drewN | apply below_drew1) | exact HB.out)) hb); clear HB; have HB := n0_; clear n0_; (try clear hb); (try clear hb2); (try clear hk); (try clear hi)))
                  go_ret
                  exact ⟨by first | rfl | (simp [errW_none, errW_some] <;> rfl) | (simp [*, errW_none, errW_some] <;> rfl), by repeat (first | (with_reducible first | exact HB.out | apply below_alloc | apply pw_below_drewN | apply below_drew1) | exact HB.out)⟩
                · rw [if_neg c21] at H
                  have c21b0 : ((t194.size : Int) == 8) = false := beq_eq_false_iff_ne.mpr c21
                  have c21b1 : ((t194.size : Int) != 8) = true := bne_iff_ne.mpr c21
                  exact absurd ((Option.some.inj H).trans HR.out) (by decide)
              · rw [if_neg c19] at H
                have c19b0 : (t193.toList == ([] : List UInt8)) = false := beq_eq_false_iff_ne.mpr c19
                have c19b1 : (t193.toList != ([] : List UInt8)) = true := bne_iff_ne.mpr c19
                exact absurd ((Option.some.inj H).trans HR.out) (by decide)
            · rw [if_neg c17] at H
              have c17b0 : (t192 == x8_5) = false := beq_eq_false_iff_ne.mpr c17
              have c17b1 : (t192 != x8_5) = true := bne_iff_ne.mpr c17
              exact absurd ((Option.some.inj H).trans HR.out) (by decide)
          · rw [if_neg c15] at H
            exact absurd H (by simp)
        · rw [if_neg c14] at H
          have c14b0 : (t191 == x8_5) = false := beq_eq_false_iff_ne.mpr c14
          have c14b1 : (t191 != x8_5) = true := bne_iff_ne.mpr c14
          exact absurd ((Option.some.inj H).trans HR.out) (by decide)
      · rw [if_neg c12] at H
        have c12b0 : ((t190.size : Int) == t188) = false := beq_eq_false_iff_ne.mpr c12
        have c12b1 : ((t190.size : Int) != t188) = true := bne_iff_ne.mpr c12
        exact absurd ((Option.some.inj H).trans HR.out) (by decide)

/-- THE ONE PURE STATEMENT of rampartlaw01_SumNumbers: yours. -/
def rampartlaw01_SumNumbers.Pure : Prop := ∀ (a0 : Int) (a1 : Int), (Lit.int .i64 a0).wf = true → (Lit.int .i64 a1).wf = true → ∃ k, rampartlaw01_SumNumbers.f k a0 a1 = some true
theorem rampartlaw01_SumNumbers.walk (P : rampartlaw01_SumNumbers.Pure) (a0 : Int) (a1 : Int) (w : World) (w0 : (Lit.int .i64 a0).wf = true) (w1 : (Lit.int .i64 a1).wf = true) :
    Calls Try.prog 6 #[.int .i64 a0, .int .i64 a1] w fun e w' => e = .returned (.bool true) ∧ Below w.heap.size w w' := by
  obtain ⟨k, h⟩ := P a0 a1 w0 w1
  refine (rampartlaw01_SumNumbers.calls k a0 a1 true w h rfl).mono ?_
  rintro e w' ⟨rfl, hd⟩
  exact ⟨rfl, hd⟩

end Go.Proofs.Ytchjfgdcldaacaa.HA
