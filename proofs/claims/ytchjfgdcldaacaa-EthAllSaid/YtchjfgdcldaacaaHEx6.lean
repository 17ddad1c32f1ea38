/- What is proved: each Go function of this text answers as the plain Lean function beside it (a law: its given row, out of the plain statement). Conditions: those that stand in each theorem. Written by my drive.py, which calls the printer of the kit for what that covers. -/
import Derived.Test.YtchjfgdcldaacaaHEx0
import Derived.Test.YtchjfgdcldaacaaHEx2
namespace Go.Proofs.Ytchjfgdcldaacaa.HE
open Go.RowKit Go.Proofs.YtchjfgdcldaacaaW.PrintWords Go.Proofs.YtchjfgdcldaacaaW.PrintLast Go.Proofs.YtchjfgdcldaacaaW.PrintMore
attribute [local go_sem] max2_int min2_int max_two min_two max_three min_three max_four min_four   -- for this text's walks alone
set_option linter.unusedVariables false
set_option linter.unusedSimpArgs false

/-! ### rampartref02_text: function 30 -/
theorem six_bt {x0 x1 x2 x3 x4 x5 : Int} (ok : okSix x0 x1 x2 x3 x4 x5) : bt (strOfNums [x0, x1, x2, x3, x4, x5]) 0 = x0 ∧ bt (strOfNums [x0, x1, x2, x3, x4, x5]) 1 = x1 ∧ bt (strOfNums [x0, x1, x2, x3, x4, x5]) 2 = x2 ∧ bt (strOfNums [x0, x1, x2, x3, x4, x5]) 3 = x3 ∧ bt (strOfNums [x0, x1, x2, x3, x4, x5]) 4 = x4 ∧ bt (strOfNums [x0, x1, x2, x3, x4, x5]) 5 = x5 :=
 ⟨byte_of ok.1, byte_of ok.2.1, byte_of ok.2.2.1, byte_of ok.2.2.2.1, byte_of ok.2.2.2.2.1, byte_of ok.2.2.2.2.2⟩
theorem text_cell {w1 wr : World} {g : Nat} {x0 x1 x2 x3 x4 x5 i : Int} (hb : Below w1.heap.size w1 wr) (hbk : w1.heap[g]? = some (.cells #[.int .u8 x0, .int .u8 x1, .int .u8 x2, .int .u8 x3, .int .u8 x4, .int .u8 x5] 24 (0, 0))) (ok : okSix x0 x1 x2 x3 x4 x5) (h0 : 0 ≤ i) (h6 : i < 6) :
  wr.cell? ⟨g, i.toNat, none⟩ = some (.int .u8 (bt (strOfNums [x0, x1, x2, x3, x4, x5]) i)) := by
 have hk : wr.heap[g]? = some (.cells #[.int .u8 x0, .int .u8 x1, .int .u8 x2, .int .u8 x3, .int .u8 x4, .int .u8 x5] 24 (0, 0)) := blk_below hbk hb
 obtain ⟨b0, b1, b2, b3, b4, b5⟩ := six_bt ok
 have e : i = 0 ∨ i = 1 ∨ i = 2 ∨ i = 3 ∨ i = 4 ∨ i = 5 := by omega
 rcases e with rfl | rfl | rfl | rfl | rfl | rfl
 ·
  rw [b0]; exact (blk_cell hk 0).trans rfl
 ·
  rw [b1]; exact (blk_cell hk 1).trans rfl
 ·
  rw [b2]; exact (blk_cell hk 2).trans rfl
 ·
  rw [b3]; exact (blk_cell hk 3).trans rfl
 ·
  rw [b4]; exact (blk_cell hk 4).trans rfl
 ·
  rw [b5]; exact (blk_cell hk 5).trans rfl
/-! ### rampartref02_text: function 30 -/
def rampartref02_text.l0 : Nat → ByteArray → List Int → Int → Option (ByteArray)
 | 0, _, _, _ => none
 | k + 1, x1, x3, x4 => if x4 < 6 then (if 0 ≤ x4 then (if x4 < (x1.size : Int) then (if x3.length < 140737488355328 then (rampartref02_text.l0 k x1 (x3 ++ [bt x1 x4]) (wrap64 (x4 + 1))) else (none)) else (none)) else (none)) else (some (strOfNums x3))
def rampartref02_text.g (k : Nat) (a0 : ByteArray) : Option (ByteArray) := rampartref02_text.l0 k a0 ([] : List Int) 0
theorem rampartref02_text.mono_l : ∀ k, (∀ y0 y1 y2, LeO (rampartref02_text.l0 k y0 y1 y2) (rampartref02_text.l0 (k + 1) y0 y1 y2))
 | 0 => fun _ _ _ r h => by simp [rampartref02_text.l0] at h
 | k + 1 => by
  have ih0 := rampartref02_text.mono_l k
  ·
   intro y0 y1 y2
   unfold rampartref02_text.l0
   repeat' first
   | (with_reducible exact ih0 _ _ _)
   | (with_reducible exact LeO.refl _)
   | (with_reducible exact LeO.none _)
   | (with_reducible refine LeO.ite ?_ ?_)
   | (with_reducible refine LeO.bind ?_ (fun _ => ?_))
   | exact ih0 _ _ _
   | exact LeO.none _
   | refine LeO.ite ?_ ?_
   | refine LeO.bind ?_ (fun _ => ?_)
theorem rampartref02_text.mono_g : ∀ a0 k, LeO (rampartref02_text.g k a0) (rampartref02_text.g (k + 1) a0) := by
 intro a0 k
 have ih0 := rampartref02_text.mono_l k
 unfold rampartref02_text.g
 repeat' first
   | (with_reducible exact ih0 _ _ _)
   | (with_reducible exact LeO.refl _)
   | (with_reducible exact LeO.none _)
   | (with_reducible refine LeO.ite ?_ ?_)
   | (with_reducible refine LeO.bind ?_ (fun _ => ?_))
   | exact ih0 _ _ _
   | exact LeO.none _
   | refine LeO.ite ?_ ?_
   | refine LeO.bind ?_ (fun _ => ?_)
def rampartref02_text.f (k : Nat) (x0 : Int) (x1 : Int) (x2 : Int) (x3 : Int) (x4 : Int) (x5 : Int) : Option ByteArray := if okSix x0 x1 x2 x3 x4 x5 then rampartref02_text.g k (strOfNums [x0, x1, x2, x3, x4, x5]) else none
theorem rampartref02_text.mono : ∀ a0 a1 a2 a3 a4 a5 k, LeO (rampartref02_text.f k a0 a1 a2 a3 a4 a5) (rampartref02_text.f (k + 1) a0 a1 a2 a3 a4 a5) := by
 intro a0 a1 a2 a3 a4 a5 k
 unfold rampartref02_text.f
 split
 ·
  exact rampartref02_text.mono_g _ _
 ·
  exact LeO.none _
set_option maxHeartbeats 8000000 in
set_option maxRecDepth 100000 in
theorem rampartref02_text.calls (k : Nat) (x0 : Int) (x1 : Int) (x2 : Int) (x3 : Int) (x4 : Int) (x5 : Int) (r : ByteArray) (w : World) (h : rampartref02_text.f k x0 x1 x2 x3 x4 x5 = some r) :
  Calls Try.prog 30 #[.agg #[.int .u8 x0, .int .u8 x1, .int .u8 x2, .int .u8 x3, .int .u8 x4, .int .u8 x5]] w fun e w' => e = .returned (.string r) ∧ Below w.heap.size w w' := by
 have HB := Aside0.mk (Below.refl w.heap.size w)
 by_cases hok_ : okSix x0 x1 x2 x3 x4 x5
 case neg => unfold rampartref02_text.f at h; rw [if_neg hok_] at h; cases h
 obtain ⟨a0, ha0_⟩ : ∃ b, b = strOfNums [x0, x1, x2, x3, x4, x5] := ⟨_, rfl⟩
 have hu24 := Try.underlying24
 have H : (rampartref02_text.l0 k a0 ([] : List Int) 0) = some r := by rw [ha0_]; unfold rampartref02_text.f at h; rw [if_pos hok_] at h; exact h
 have HOK := Aside0.mk hok_
 have HA0 := Aside0.mk ha0_
 clear hok_ ha0_
 clear h
 have H' := Aside0.mk H
 clear H
 go_enter Try.func30, Try.ntmps30
 go_wp2_with (first | ((with_reducible refine gate_dst (N := 1) rfl ?_); refine box_event ?hg (N := 1) ?hd (cs := #[.int .u8 x0, .int .u8 x1, .int .u8 x2, .int .u8 x3, .int .u8 x4, .int .u8 x5]) (t := 24) ?hr ?_; (case hd => rfl); (case hg => rfl); (case hr => first | (go_simp; done) | (go_simp; rfl)); intro gb70 hg w70 hbox hb; have n0_ := Aside0.mk (below_step HB.out hb); have n1_ := Aside0.mk (hbox); clear HB; have HW := n0_; have BK70 := n1_; clear n0_ n1_; clear hb hbox hg))
 have HB := Aside0.mk (Below.refl w70.heap.size w70)
 go_loopg [3, 4] k (fun kq v3 v4 w' => ∃ (x3_1 : List Int) (x4_1 : Int), v4 = .int .i64 x4_1 ∧ Aside0 (rampartref02_text.l0 kq a0 x3_1 x4_1 = some r) ∧ Aside0 (kq ≤ k) ∧ Aside0 (Kd.R (Kd.int .u8) 5 w' w70.heap.size (fun _ => True) v3 x3_1) ∧ Aside0 (Below w70.heap.size w70 w'))
 case atStart => exact ⟨(([] : List Int)), (0), (by first | rfl | (simp; done) | (simp [*]; done)), H', ⟨Nat.le_refl _⟩, ⟨by first | exact Kd.R_nil _ _ _ _ _ | exact Kd.N_nil _ _ _ _ _ | exact Kd.V_nil _ _ _ _ _ | exact Kd.Q_nil _ _ _ _ _ | exact Kd.S_nil _ _ _ _ _⟩, ⟨by repeat (first | (with_reducible first | exact HB.out | apply below_alloc | apply pw_below_drewN | apply below_drew1) | exact HB.out)⟩⟩
 case round =>
  clear H'
  obtain ⟨x3_1, x4_1, rfl, HA, HK1, HO_3, HB⟩ := hrel
  cases gk with
  | zero => exact absurd HA.out (by simp [rampartref02_text.l0])
  | succ k1 =>
   have H := HA.out
   clear HA
   simp only [rampartref02_text.l0] at H
   by_cases c2 : x4_1 < 6
   ·
    rw [if_pos c2] at H
    have c2b0 : decide (x4_1 < 6) = true := decide_eq_true c2
    clear c2
    by_cases c3 : 0 ≤ x4_1
    ·
     rw [if_pos c3] at H
     have c3b0 : decide (0 ≤ x4_1) = true := decide_eq_true c3
     clear c3
     by_cases c4 : x4_1 < (a0.size : Int)
     ·
      rw [if_pos c4] at H
      have c4b0 : decide (x4_1 < (a0.size : Int)) = true := decide_eq_true c4
      clear c4
      by_cases c6 : x3_1.length < 140737488355328
      ·
       rw [if_pos c6] at H
       have LMc6 := Aside0.mk c6
       clear c6
       obtain ⟨y150, hy150⟩ : ∃ y_ : List Int, y_ = (x3_1 ++ [bt a0 x4_1]) := ⟨_, rfl⟩
       replace H : (rampartref02_text.l0 k1 a0 y150 (wrap64 (x4_1 + 1))) = some r := by first | (rw [hy150]; with_reducible exact H) | (have H2_ := (Option.bind_some _ _).symm.trans H; rw [hy150]; with_reducible exact H2_) | (have H2_ := (Option.bind_some _ _).symm.trans H; with_reducible exact H2_) | with_reducible exact H | (rw [hy150]; exact H) | exact H
       have Ny150 := Aside0.mk hy150
       clear hy150
       have H' := Aside0.mk H
       clear H
       have hb0_ : 0 ≤ x4_1 := of_decide_eq_true (by first | (with_reducible assumption) | assumption)
       have hb6_ : x4_1 < 6 := of_decide_eq_true (by first | (with_reducible assumption) | assumption)
       have hc5_ := text_cell HB.out BK70.out HOK.out hb0_ hb6_
       rw [← HA0.out] at hc5_
       replace hb0_ := eq_true hb0_
       replace hb6_ := eq_true hb6_
       have p5 : 0 ≤ (x4_1 : Int) := of_decide_eq_true (by first | (with_reducible assumption) | assumption)
       have q5 : x4_1 < (a0.size : Int) := of_decide_eq_true (by first | (with_reducible assumption) | assumption)
       have hx5 := bt_at a0 x4_1
       replace p5 := eq_true p5
       replace q5 := eq_true q5
       go_wp2_with (first | ((with_reducible refine gate_builtin (b := .append) (xs := #[.tmp 9, .tmp 13]) rfl ?_); at_builtin; refine Kd.R_append (Kd.int .u8) (w0 := w70) w70.heap.size rfl (.tmp 9) (.tmp 13) 23 5 (.int .u8 0) 1 rfl Try.underlying23 info5 rfl (by decide) (by omega) u3 x3_1 (bt a0 x4_1) [.int .u8 (bt a0 x4_1)] (fun _ => True) (fun _ => False) rfl rfl ?aP (fun _ hk => hk.elim) ?aF ?aO ?aB ?aS ?aL ?_; (case aP => exact rfl); (case aB => exact (by repeat (first | (with_reducible first | exact HB.out | apply below_alloc | apply pw_below_drewN | apply below_drew1) | exact HB.out))); (case aF => exact (fun _ _ => trivial)); (case aO => exact (by (with_reducible repeat (first | apply Kd.R_alloc | apply Kd.R_drewN | apply Kd.R_drew)); exact HO_3.out)); (case aS => exact (below_size (by repeat (first | (with_reducible first | exact HB.out | apply below_alloc | apply pw_below_drewN | apply below_drew1) | exact HB.out)))); (case aL => have := LMc6.out; omega); intro v151 w7 ho hb hg hat; rw [← Ny150.out] at ho; have n0_ := Aside0.mk (hb); have n1_ := Aside0.mk (ho); clear HB; clear HO_3; have HB := n0_; have HO152 := n1_; clear n0_ n1_; clear ho hb hg hat))
       go_roundg k1
       case measure => have := HK1.out; omega
       case rel => exact ⟨(y150), (wrap64 (x4_1 + 1)), (by first | rfl | (simp; done) | (simp [*]; done)), H', ⟨by have := HK1.out; omega⟩, ⟨by (with_reducible repeat (first | apply Kd.R_alloc | apply Kd.R_drewN | apply Kd.R_drew)); exact HO152.out⟩, ⟨by repeat (first | (with_reducible first | exact HB.out | apply below_alloc | apply pw_below_drewN | apply below_drew1) | exact HB.out)⟩⟩
      ·
       rw [if_neg c6] at H
       exact absurd H (by simp)
     ·
      rw [if_neg c4] at H
      exact absurd H (by simp)
    ·
     rw [if_neg c3] at H
     exact absurd H (by simp)
   ·
    rw [if_neg c2] at H
    have c2b0 : decide (x4_1 < 6) = false := decide_eq_false c2
    clear c2
    obtain rfl := Option.some.inj H
    have hcv8 := own_string (P := Try.prog) Try.underlying23 Try.underlying5 Try.underlying9 (Kd.own_of_R HO_3.out)
    go_wp2
    go_ret
    exact ⟨by first | rfl | (simp [errW_none, errW_some] <;> rfl) | (simp [*, errW_none, errW_some] <;> rfl), below_step HW.out (by repeat (first | (with_reducible first | exact HB.out | apply below_alloc | apply pw_below_drewN | apply below_drew1) | exact HB.out))⟩


end Go.Proofs.Ytchjfgdcldaacaa.HE
