/- What is proved: whether a rule fits a direction of a flow. Conditions: those that stand in each theorem. -/
import Derived.Test.YtbbafhpnlmmjjaaGrpRule
import Derived.Test.YtbbafhpnlmmjjaaFwFun
namespace Go.Proofs.Ytbbafhpnlmmjjaa
set_option linter.unusedVariables false
set_option linter.unusedSimpArgs false
set_option linter.unusedSectionVars false
open Go.RowKit Fw
structure TupV where
  proto : Int
  src : Int
  dst : Int
  sp : Int
  dp : Int
def TupV.cs (t : TupV) : List Value := [.int .i64 t.proto, .int .u32 t.src, .int .u32 t.dst, .int .i64 t.sp, .int .i64 t.dp]
def TupV.a (t : TupV) : EndV := ⟨t.src, t.sp⟩
def TupV.b (t : TupV) : EndV := ⟨t.dst, t.dp⟩
def RuleV.way (r : RuleV) (x y : EndV) : Bool := (r.send x && r.recv y) || (r.both && (r.send y && r.recv x))
def RuleV.flowOk (r : RuleV) (dir : Int) : Bool := decide (r.flow = 0) || ((decide (r.flow = 1) && decide (dir = 0)) || (decide (r.flow = 2) && decide (dir = 1)))
def RuleV.bad (r : RuleV) (t : TupV) (dir : Int) : Bool := decide (dir < 0) || (decide (1 < dir) || (decide (r.proto ≠ 0) && decide (r.proto ≠ t.proto)))
def RuleV.fits (r : RuleV) (t : TupV) (dir : Int) : Bool := !r.bad t dir && (r.way (if dir = 1 then t.b else t.a) (if dir = 1 then t.a else t.b) && r.flowOk dir)
set_option maxRecDepth 100000 in
set_option maxHeartbeats 8000000 in
theorem fits_walk (r : RuleV) (t : TupV) (dir : Int) (w : World) (h : RuleAt w r) : Calls Try.prog 9 #[.agg r.cs.toArray, .agg t.cs.toArray, .int .i64 dir] w fun e w' => e = .returned (.bool (r.fits t dir)) ∧ Mv (fun _ => False) w w' := by
  refine calls_W (n := 94) (vs := [.agg r.cs.toArray, .agg t.cs.toArray, .int .i64 dir]) Try.func9 rfl rfl rfl ?_
  refine W.seq (W.list ?_)
  refine Ls.box rfl rfl rfl rfl rfl (vs := r.cs) rfl ?_
  have hb1 : BX (w.alloc (.cells r.cs.toArray 37)) w.heap.size 37 r.cs := heap_alloc_new w (.cells r.cs.toArray 37)
  have m1 : Mv (fun _ => False) w (w.alloc (.cells r.cs.toArray 37)) := (Mv.refl _ w).alloc _
  generalize w.alloc (.cells r.cs.toArray 37) = w1 at hb1 m1
  obtain ⟨p, hp⟩ : ∃ p, p = w.heap.size := ⟨_, rfl⟩
  rw [← hp] at hb1
  rw [← hp]
  refine Ls.box rfl rfl rfl rfl rfl (vs := t.cs) rfl ?_
  have hc1 : BX (w1.alloc (.cells t.cs.toArray 25)) w1.heap.size 25 t.cs := heap_alloc_new w1 (.cells t.cs.toArray 25)
  have m2 : Mv (fun _ => False) w1 (w1.alloc (.cells t.cs.toArray 25)) := (Mv.refl _ w1).alloc _
  generalize w1.alloc (.cells t.cs.toArray 25) = w2 at hc1 m2
  obtain ⟨q, hq⟩ : ∃ q, q = w1.heap.size := ⟨_, rfl⟩
  rw [← hq] at hc1
  rw [← hq]
  have hb2 := hb1.moved m2 (fun e => e)
  have m2 := m1.trans m2
  apply Ls.runK LO [2, 3, 4] 1
  · repeat' (first | rfl | with_reducible assumption | assumption | constructor)
  intro w3 f3 s3 hf3
  replace hf3 : f3 = [(2, _), (3, _), (4, _)] := hf3
  subst hf3
  refine Ls.nil (N.to ?_)
  have m3 := m2.same s3
  have hb3 := hb2.same s3
  have hc3 := hc1.same s3
  clear hb1 m1 hb2 hc1 m2 s3 hp hq
  -- what may not be
  refine W.cutS (fun w' g => (Same w3 w' ∧ g = [(2, .int .i64 dir), (3, .pointer (some ⟨p, 0, none⟩)), (4, .pointer (some ⟨q, 0, none⟩))]) ∧ r.bad t dir = false) ?_ ?_
  · refine W.cutS (fun w' g => Same w3 w' ∧ g = [(2, .int .i64 dir), (3, .pointer (some ⟨p, 0, none⟩)), (4, .pointer (some ⟨q, 0, none⟩)), (29, .bool (r.bad t dir))]) ?_ ?_
    · have d1 : Cl w3 ⟨p, 1, none⟩ (.int .i64 r.proto) := hb3.cl rfl
      have d2 : Cl w3 ⟨q, 0, none⟩ (.int .i64 t.proto) := hc3.cl rfl
      by_cases h0 : dir < 0
      · have k0 : Kn (decide (dir < 0)) true := .yes h0
        have e : r.bad t dir = true := by unfold RuleV.bad; rw [decide_eq_true h0]; rfl
        rw [e]
        apply W.readN LO mixed [2, 3, 4, 29] (by kernel_rfl)
        · repeat' (first | rfl | with_reducible assumption | assumption | constructor)
        intro w4 f4 s4 hf4
        replace hf4 : f4 = [(2, _), (3, _), (4, _), (29, _)] := hf4
        subst hf4
        exact N.cut ⟨s4, rfl⟩ (sub_keys rfl)
      · have k0 : Kn (decide (dir < 0)) false := .no h0
        by_cases h1 : 1 < dir
        · have k1 : Kn (decide (1 < dir)) true := .yes h1
          have e : r.bad t dir = true := by unfold RuleV.bad; rw [decide_eq_true h1, Bool.true_or, Bool.or_true]
          rw [e]
          apply W.readN LO mixed [2, 3, 4, 29] (by kernel_rfl)
          · repeat' (first | rfl | with_reducible assumption | assumption | constructor)
          intro w4 f4 s4 hf4
          replace hf4 : f4 = [(2, _), (3, _), (4, _), (29, _)] := hf4
          subst hf4
          exact N.cut ⟨s4, rfl⟩ (sub_keys rfl)
        · have k1 : Kn (decide (1 < dir)) false := .no h1
          by_cases h2 : r.proto = 0
          · have k2 : Kn (r.proto != 0) false := .of (by rw [h2]; rfl)
            have e : r.bad t dir = false := by unfold RuleV.bad; rw [decide_eq_false h0, decide_eq_false h1, decide_eq_false (by simpa using h2)]; rfl
            rw [e]
            apply W.readN LO mixed [2, 3, 4, 29] (by kernel_rfl)
            · repeat' (first | rfl | with_reducible assumption | assumption | constructor)
            intro w4 f4 s4 hf4
            replace hf4 : f4 = [(2, _), (3, _), (4, _), (29, _)] := hf4
            subst hf4
            exact N.cut ⟨s4, rfl⟩ (sub_keys rfl)
          · have k2 : Kn (r.proto != 0) true := .of (by simpa using h2)
            have k3 : Kn (r.proto != t.proto) (decide (r.proto ≠ t.proto)) := .of (by
              by_cases e : r.proto = t.proto
              · simp [e]
              · simp [e])
            have e : r.bad t dir = decide (r.proto ≠ t.proto) := by unfold RuleV.bad; rw [decide_eq_false h0, decide_eq_false h1, decide_eq_true (show r.proto ≠ 0 from h2)]; rfl
            rw [e]
            apply W.readN LO mixed [2, 3, 4, 29] (by kernel_rfl)
            · repeat' (first | rfl | with_reducible assumption | assumption | constructor)
            intro w4 f4 s4 hf4
            replace hf4 : f4 = [(2, _), (3, _), (4, _), (29, _)] := hf4
            subst hf4
            exact N.cut ⟨s4, rfl⟩ (sub_keys rfl)
    rintro w4 _ ⟨s4, rfl⟩
    obtain ⟨bd, hbd⟩ : ∃ bd, bd = r.bad t dir := ⟨_, rfl⟩
    rw [← hbd]
    cases bd with
    | true =>
      refine W.cond (b := true) rfl (fun _ => ?_) (fun h => by cases h)
      apply W.readS LO mixed [6] (by kernel_rfl)
      · repeat' (first | rfl | with_reducible assumption | assumption | constructor)
      intro w5 f5 s5 hf5
      replace hf5 : f5 = [(6, _)] := hf5
      subst hf5
      have e : r.fits t dir = false := by unfold RuleV.fits; rw [← hbd]; rfl
      rw [e]
      exact W.ret (post (fn := Try.f9) (R := fun e w' => e = .returned (.bool false) ∧ Mv (fun _ => False) w w') LO (rs := [.tmp 6]) rfl (vs := [.bool false]) (.tmp rfl .nil) ⟨rfl, (m3.same s4).same s5⟩)
    | false =>
      refine W.cond (b := false) rfl (fun h => by cases h) (fun _ => W.skip ?_)
      exact N.cut ⟨⟨s4, rfl⟩, rfl⟩ (sub_keys rfl)
  rintro w4 _ ⟨⟨s4, rfl⟩, hbad⟩
  have m4 := m3.same s4
  have hb4 := hb3.same s4
  have hc4 := hc3.same s4
  clear m3 hb3 hc3 s4
  have hdir : dir = 0 ∨ dir = 1 := by
    unfold RuleV.bad at hbad
    rw [Bool.or_eq_false_iff, Bool.or_eq_false_iff] at hbad
    have h1 := of_decide_eq_false hbad.1
    have h2 := of_decide_eq_false hbad.2.1
    omega
  -- the ends
  refine W.cutS (fun w' g => ∃ u v, (Mv (fun _ => False) w w' ∧ BX w' p 37 r.cs ∧ BX w' u 56 t.a.cs ∧ BX w' v 56 t.b.cs ∧ u ≠ v ∧ w.heap.size ≤ u ∧ w.heap.size ≤ v ∧ p ≠ u ∧ p ≠ v) ∧ g = [(2, .int .i64 dir), (3, .pointer (some ⟨p, 0, none⟩)), (7, .pointer (some ⟨u, 0, none⟩)), (8, .pointer (some ⟨v, 0, none⟩))]) ?_ ?_
  · refine W.held mixed (fun w' => Mv (fun _ => False) w4 w') [] 14 rfl (fun w' s => (Mv.refl _ w4).same s) ?_
    intro w5 s5
    have hcm : ∀ w', Mv (fun _ => False) w4 w' → BX w' q 25 t.cs := fun w' m => hc4.moved m (fun e => e)
    have F1 : ∀ w', Mv (fun _ => False) w4 w' → Cl w' ⟨q, 1, none⟩ (.int .u32 t.src) := fun w' m => (hcm w' m).cl rfl
    have F2 : ∀ w', Mv (fun _ => False) w4 w' → Cl w' ⟨q, 2, none⟩ (.int .u32 t.dst) := fun w' m => (hcm w' m).cl rfl
    have F3 : ∀ w', Mv (fun _ => False) w4 w' → Cl w' ⟨q, 3, none⟩ (.int .i64 t.sp) := fun w' m => (hcm w' m).cl rfl
    have F4 : ∀ w', Mv (fun _ => False) w4 w' → Cl w' ⟨q, 4, none⟩ (.int .i64 t.dp) := fun w' m => (hcm w' m).cl rfl
    apply H.takesK LO true [2, 3, 34, 39] [0, 1, 2, 3, 4, 5, 6, 7, 8, 9] (k := 4) rfl (by kernel_rfl)
    · repeat' (first | rfl | with_reducible assumption | assumption | (intro w' hw'; replace hw' := hw' rfl; have h0' := F1 w' hw'; have h1' := F2 w' hw'; have h2' := F3 w' hw'; have h3' := F4 w' hw') | constructor)
    intro g_ hg_
    replace hg_ : g_ = [(2, _), (3, _), (34, _), (39, _)] := hg_
    subst hg_
    have m5 : Mv (fun _ => False) w4 w5 := (Mv.refl _ w4).same s5
    have hw5 : w.heap.size ≤ w5.heap.size := by have := (m4.trans m5).size; exact this
    have ga := hb4.lt
    refine H.allocs LO (i := 10) (j := 11) (fin := #[true, true, true, true, true, true, true, true, true, true, true, true, false, false]) rfl rfl (by kernel_rfl) (by kernel_rfl) (by kernel_rfl) rfl rfl rfl rfl rfl rfl rfl rfl rfl rfl rfl (zi := [.int .u32 0, .int .i64 0]) (zj := [.int .u32 0, .int .i64 0]) rfl rfl (fun w' m' => m5.trans m') ?_
    intro u v w6 huv hzu hzv hu hv m56
    have hu : BX w6 u 56 [.int .u32 0, .int .i64 0] := hu
    have hv : BX w6 v 56 [.int .u32 0, .int .i64 0] := hv
    have m6 := m5.trans m56
    have z5 : w5.heap.size = w4.heap.size := by rw [s5.heap]
    refine H.only (i := 12) rfl (by kernel_rfl) ?_
    refine Ls.store LO rfl rfl rfl rfl rfl (vs := t.a.cs) rfl rfl rfl hu rfl ?_
    intro w7 hu7 m7 _
    have hu7 : BX w7 u 56 t.a.cs := hu7
    have hv7 := hv.moved m7 (Ne.symm huv)
    have m67 : Mv (fun _ => False) w4 w7 := m6.cut m7 fun k hk e => by omega
    refine Ls.nil (N.goOn (fun _ => m67) ?_)
    refine H.only (i := 13) rfl (by kernel_rfl) ?_
    refine Ls.store LO rfl rfl rfl rfl rfl (vs := t.b.cs) rfl rfl rfl hv7 rfl ?_
    intro w8 hv8 m8 _
    have hv8 : BX w8 v 56 t.b.cs := hv8
    have m68 : Mv (fun _ => False) w4 w8 := m67.cut m8 fun k hk e => by omega
    refine Ls.nil (N.goOn (fun _ => m68) ?_)
    refine H.done (by kernel_rfl) (N.cut ⟨u, v, ⟨m4.trans m68, hb4.moved m68 (fun e => e), hu7.moved m8 huv, hv8, huv, by omega, by omega, by omega, by omega⟩, rfl⟩ (sub_keys rfl))
  rintro w5 _ ⟨u, v, ⟨m5, hb5, hu5, hv5, huv, hzu, hzv, hpu, hpv⟩, rfl⟩
  clear m4 hb4 hc4
  obtain ⟨X, hX⟩ : ∃ X, X = if dir = 1 then t.b else t.a := ⟨_, rfl⟩
  obtain ⟨Y, hY⟩ : ∃ Y, Y = if dir = 1 then t.a else t.b := ⟨_, rfl⟩
  refine W.cutS (fun w' g => (Mv (fun _ => False) w w' ∧ BX w' p 37 r.cs ∧ BX w' u 56 X.cs ∧ BX w' v 56 Y.cs) ∧ g = [(2, .int .i64 dir), (3, .pointer (some ⟨p, 0, none⟩)), (7, .pointer (some ⟨u, 0, none⟩)), (8, .pointer (some ⟨v, 0, none⟩))]) ?_ ?_
  · rcases hdir with rfl | rfl
    ·
      apply W.readS LO mixed [2, 3, 7, 8, 41] (by kernel_rfl)
      · repeat' (first | rfl | with_reducible assumption | assumption | constructor)
      intro w6 f6 s6 hf6
      replace hf6 : f6 = [(2, _), (3, _), (7, _), (8, _), (41, _)] := hf6
      subst hf6
      refine W.cond (b := false) rfl (fun h => by cases h) (fun _ => W.skip ?_)
      rw [if_neg (by decide)] at hX hY
      exact N.cut ⟨⟨m5.same s6, hb5.same s6, by rw [hX]; exact hu5.same s6, by rw [hY]; exact hv5.same s6⟩, rfl⟩ (sub_keys rfl)
    ·
      apply W.readS LO mixed [2, 3, 7, 8, 41] (by kernel_rfl)
      · repeat' (first | rfl | with_reducible assumption | assumption | constructor)
      intro w6 f6 s6 hf6
      replace hf6 : f6 = [(2, _), (3, _), (7, _), (8, _), (41, _)] := hf6
      subst hf6
      refine W.cond (b := true) rfl (fun _ => W.list ?_) (fun h => by cases h)
      rw [if_pos rfl] at hX hY
      have hu6 := hu5.same s6
      have hv6 := hv5.same s6
      have d1 : CellsAt w6 u 0 2 t.a.cs := hu6.cells
      have d2 : CellsAt w6 v 0 2 t.b.cs := hv6.cells
      apply Ls.runK LO [2, 3, 7, 8, 42, 43] 2
      · repeat' (first | rfl | with_reducible assumption | assumption | constructor)
      intro w7 f7 s7 hf7
      replace hf7 : f7 = [(2, _), (3, _), (7, _), (8, _), (42, _), (43, _)] := hf7
      subst hf7
      have hu7 := hu6.same s7
      have hv7 := hv6.same s7
      have hb7 := (hb5.same s6).same s7
      have m7 := (m5.same s6).same s7
      refine Ls.store LO rfl rfl rfl rfl rfl (vs := t.b.cs) rfl rfl rfl hu7 rfl ?_
      intro w8 hu8 m8 _
      have hu8 : BX w8 u 56 t.b.cs := hu8
      have hv8 := hv7.moved m8 (Ne.symm huv)
      refine Ls.store LO rfl rfl rfl rfl rfl (vs := t.a.cs) rfl rfl rfl hv8 rfl ?_
      intro w9 hv9 m9 _
      have hv9 : BX w9 v 56 t.a.cs := hv9
      exact Ls.nil (N.cut ⟨⟨(m7.cut m8 fun k hk e => by omega).cut m9 fun k hk e => by omega, (hb7.moved m8 (by omega)).moved m9 (by omega), by rw [hX]; exact hu8.moved m9 huv, by rw [hY]; exact hv9⟩, rfl⟩ (sub_keys rfl))
  clear m5 hb5 hu5 hv5
  rintro w6 _ ⟨⟨m6, hb6, hu6, hv6⟩, rfl⟩
  have d1 : CellsAt w6 p 0 15 r.cs := hb6.cells
  apply W.readS LO mixed [2, 3, 7, 8, 9, 10] (by kernel_rfl)
  · repeat' (first | rfl | with_reducible assumption | assumption | constructor)
  intro w7 f7 s7 hf7
  replace hf7 : f7 = [(2, _), (3, _), (7, _), (8, _), (9, _), (10, _)] := hf7
  subst hf7
  have m7 := m6.same s7
  have hb7 := hb6.same s7
  have hu7 := hu6.same s7
  have hv7 := hv6.same s7
  clear d1 m6 hb6 hu6 hv6 s7
  -- either way
  refine W.cutS (fun w' g => (Mv (fun _ => False) w w' ∧ BX w' p 37 r.cs) ∧ g = [(2, .int .i64 dir), (3, .pointer (some ⟨p, 0, none⟩)), (11, .bool (r.way X Y))]) ?_ ?_
  · refine W.list ?_
    have d1 : CellsAt w7 u 0 2 X.cs := hu7.cells
    apply Ls.runK LO [2, 3, 7, 8, 9, 10, 48, 49] 2
    · repeat' (first | rfl | with_reducible assumption | assumption | constructor)
    intro w8 f8 s8 hf8
    replace hf8 : f8 = [(2, _), (3, _), (7, _), (8, _), (9, _), (10, _), (48, _), (49, _)] := hf8
    subst hf8
    have m8 := m7.same s8
    refine Ls.callM LO rfl rfl rfl rfl rfl rfl (vs := [.agg X.cs.toArray]) rfl (send_walk r X w8 (h.moved m8)) ?_
    rintro _ w9 ⟨rfl, m9⟩
    refine ⟨_, rfl, ?_⟩
    have hb9 := (hb7.same s8).moved m9 (fun e => e)
    have hu9 := (hu7.same s8).moved m9 (fun e => e)
    have hv9 := (hv7.same s8).moved m9 (fun e => e)
    have m9 := m8.trans m9
    clear m8 m7 hb7 hu7 hv7 s8 d1
    obtain ⟨s1, hs1⟩ : ∃ s1, s1 = r.send X := ⟨_, rfl⟩
    rw [← hs1]
    cases s1 with
    | true =>
      have d2 : CellsAt w9 v 0 2 Y.cs := hv9.cells
      apply Ls.runK LO [2, 3, 7, 8, 9, 10, 51, 52, 53] 3
      · repeat' (first | rfl | with_reducible assumption | assumption | constructor)
      intro w10 f10 s10 hf10
      replace hf10 : f10 = [(2, _), (3, _), (7, _), (8, _), (9, _), (10, _), (51, _), (52, _), (53, _)] := hf10
      subst hf10
      have m10 := m9.same s10
      refine Ls.callM LO rfl rfl rfl rfl rfl rfl (vs := [.agg Y.cs.toArray]) rfl (recv_walk r Y w10 (h.moved m10)) ?_
      rintro _ w11 ⟨rfl, m11'⟩
      refine ⟨_, rfl, ?_⟩
      have hb11 := (hb9.same s10).moved m11' (fun e => e)
      have hu11 := (hu9.same s10).moved m11' (fun e => e)
      have hv11 := (hv9.same s10).moved m11' (fun e => e)
      have m11 := m10.trans m11'
      obtain ⟨s2, hs2⟩ : ∃ s2, s2 = r.recv Y := ⟨_, rfl⟩
      rw [← hs2]
      cases s2 with
      | true =>
        apply Ls.runK LO [2, 3, 11] 16
        · repeat' (first | rfl | with_reducible assumption | assumption | constructor)
        intro w12 f12 s12 hf12
        replace hf12 : f12 = [(2, _), (3, _), (11, _)] := hf12
        subst hf12
        have e : r.way X Y = true := by unfold RuleV.way; rw [← hs1, ← hs2]; rfl
        exact Ls.nil (N.cut ⟨⟨m11.same s12, hb11.same s12⟩, rfl⟩ (sub_keys (by rw [e]; rfl)))
      | false =>
        apply Ls.runK LO [2, 3, 7, 8, 9, 10, 56] 2
        · repeat' (first | rfl | with_reducible assumption | assumption | constructor)
        intro w12 f12 s12 hf12
        replace hf12 : f12 = [(2, _), (3, _), (7, _), (8, _), (9, _), (10, _), (56, _)] := hf12
        subst hf12
        have m12 := m11.same s12
        have hb12 := hb11.same s12
        have hu12 := hu11.same s12
        have hv12 := hv11.same s12
        have d3 : Cl w12 ⟨p, 10, none⟩ (.bool r.both) := hb12.cl rfl
        obtain ⟨bo, hbo⟩ : ∃ bo, bo = r.both := ⟨_, rfl⟩
        rw [← hbo] at d3
        cases bo with
        | false =>
          apply Ls.runK LO [2, 3, 11] 14
          · repeat' (first | rfl | with_reducible assumption | assumption | constructor)
          intro x1 g1 t1 hg1
          replace hg1 : g1 = [(2, _), (3, _), (11, _)] := hg1
          subst hg1
          have e : r.way X Y = false := by unfold RuleV.way; rw [← hbo, ← hs1, ← hs2]; rfl
          exact Ls.nil (N.cut ⟨⟨m12.same t1, hb12.same t1⟩, rfl⟩ (sub_keys (by rw [e]; rfl)))
        | true =>
          have d4 : CellsAt w12 v 0 2 Y.cs := hv12.cells
          apply Ls.runK LO [2, 3, 7, 8, 9, 10, 56, 59, 60, 61] 5
          · repeat' (first | rfl | with_reducible assumption | assumption | constructor)
          intro x1 g1 t1 hg1
          replace hg1 : g1 = [(2, _), (3, _), (7, _), (8, _), (9, _), (10, _), (56, _), (59, _), (60, _), (61, _)] := hg1
          subst hg1
          have n1 := m12.same t1
          refine Ls.callM LO rfl rfl rfl rfl rfl rfl (vs := [.agg Y.cs.toArray]) rfl (send_walk r Y x1 (h.moved n1)) ?_
          rintro _ x2 ⟨rfl, n2'⟩
          refine ⟨_, rfl, ?_⟩
          have n2 := n1.trans n2'
          have hb2 := (hb12.same t1).moved n2' (fun e => e)
          have hu2 := (hu12.same t1).moved n2' (fun e => e)
          obtain ⟨b3, hb3⟩ : ∃ b3, b3 = r.send Y := ⟨_, rfl⟩
          rw [← hb3]
          cases b3 with
          | false =>
            apply Ls.runK LO [2, 3, 11] 8
            · repeat' (first | rfl | with_reducible assumption | assumption | constructor)
            intro x3 g3 t3 hg3
            replace hg3 : g3 = [(2, _), (3, _), (11, _)] := hg3
            subst hg3
            have e : r.way X Y = false := by unfold RuleV.way; rw [← hbo, ← hb3, ← hs1, ← hs2]; rfl
            exact Ls.nil (N.cut ⟨⟨n2.same t3, hb2.same t3⟩, rfl⟩ (sub_keys (by rw [e]; rfl)))
          | true =>
            have d5 : CellsAt x2 u 0 2 X.cs := hu2.cells
            apply Ls.runK LO [2, 3, 56, 64, 65, 66] 4
            · repeat' (first | rfl | with_reducible assumption | assumption | constructor)
            intro x3 g3 t3 hg3
            replace hg3 : g3 = [(2, _), (3, _), (56, _), (64, _), (65, _), (66, _)] := hg3
            subst hg3
            have n3 := n2.same t3
            refine Ls.callM LO rfl rfl rfl rfl rfl rfl (vs := [.agg X.cs.toArray]) rfl (recv_walk r X x3 (h.moved n3)) ?_
            rintro _ x4 ⟨rfl, n4'⟩
            refine ⟨_, rfl, ?_⟩
            apply Ls.runK LO [2, 3, 11] 3
            · repeat' (first | rfl | with_reducible assumption | assumption | constructor)
            intro x5 g5 t5 hg5
            replace hg5 : g5 = [(2, _), (3, _), (11, _)] := hg5
            subst hg5
            have e : r.way X Y = r.recv X := by unfold RuleV.way; rw [← hbo, ← hb3, ← hs1, ← hs2]; rfl
            exact Ls.nil (N.cut ⟨⟨(n3.trans n4').same t5, ((hb2.same t3).moved n4' (fun e => e)).same t5⟩, rfl⟩ (sub_keys (by rw [e]; rfl)))
    | false =>
      apply Ls.runK LO [2, 3, 7, 8, 9, 10, 56] 6
      · repeat' (first | rfl | with_reducible assumption | assumption | constructor)
      intro w12 f12 s12 hf12
      replace hf12 : f12 = [(2, _), (3, _), (7, _), (8, _), (9, _), (10, _), (56, _)] := hf12
      subst hf12
      have m12 := m9.same s12
      have hb12 := hb9.same s12
      have hu12 := hu9.same s12
      have hv12 := hv9.same s12
      have d3 : Cl w12 ⟨p, 10, none⟩ (.bool r.both) := hb12.cl rfl
      obtain ⟨bo, hbo⟩ : ∃ bo, bo = r.both := ⟨_, rfl⟩
      rw [← hbo] at d3
      cases bo with
      | false =>
        apply Ls.runK LO [2, 3, 11] 14
        · repeat' (first | rfl | with_reducible assumption | assumption | constructor)
        intro x1 g1 t1 hg1
        replace hg1 : g1 = [(2, _), (3, _), (11, _)] := hg1
        subst hg1
        have e : r.way X Y = false := by unfold RuleV.way; rw [← hbo, ← hs1]; rfl
        exact Ls.nil (N.cut ⟨⟨m12.same t1, hb12.same t1⟩, rfl⟩ (sub_keys (by rw [e]; rfl)))
      | true =>
        have d4 : CellsAt w12 v 0 2 Y.cs := hv12.cells
        apply Ls.runK LO [2, 3, 7, 8, 9, 10, 56, 59, 60, 61] 5
        · repeat' (first | rfl | with_reducible assumption | assumption | constructor)
        intro x1 g1 t1 hg1
        replace hg1 : g1 = [(2, _), (3, _), (7, _), (8, _), (9, _), (10, _), (56, _), (59, _), (60, _), (61, _)] := hg1
        subst hg1
        have n1 := m12.same t1
        refine Ls.callM LO rfl rfl rfl rfl rfl rfl (vs := [.agg Y.cs.toArray]) rfl (send_walk r Y x1 (h.moved n1)) ?_
        rintro _ x2 ⟨rfl, n2'⟩
        refine ⟨_, rfl, ?_⟩
        have n2 := n1.trans n2'
        have hb2 := (hb12.same t1).moved n2' (fun e => e)
        have hu2 := (hu12.same t1).moved n2' (fun e => e)
        obtain ⟨b3, hb3⟩ : ∃ b3, b3 = r.send Y := ⟨_, rfl⟩
        rw [← hb3]
        cases b3 with
        | false =>
          apply Ls.runK LO [2, 3, 11] 8
          · repeat' (first | rfl | with_reducible assumption | assumption | constructor)
          intro x3 g3 t3 hg3
          replace hg3 : g3 = [(2, _), (3, _), (11, _)] := hg3
          subst hg3
          have e : r.way X Y = false := by unfold RuleV.way; rw [← hbo, ← hb3, ← hs1]; rfl
          exact Ls.nil (N.cut ⟨⟨n2.same t3, hb2.same t3⟩, rfl⟩ (sub_keys (by rw [e]; rfl)))
        | true =>
          have d5 : CellsAt x2 u 0 2 X.cs := hu2.cells
          apply Ls.runK LO [2, 3, 56, 64, 65, 66] 4
          · repeat' (first | rfl | with_reducible assumption | assumption | constructor)
          intro x3 g3 t3 hg3
          replace hg3 : g3 = [(2, _), (3, _), (56, _), (64, _), (65, _), (66, _)] := hg3
          subst hg3
          have n3 := n2.same t3
          refine Ls.callM LO rfl rfl rfl rfl rfl rfl (vs := [.agg X.cs.toArray]) rfl (recv_walk r X x3 (h.moved n3)) ?_
          rintro _ x4 ⟨rfl, n4'⟩
          refine ⟨_, rfl, ?_⟩
          apply Ls.runK LO [2, 3, 11] 3
          · repeat' (first | rfl | with_reducible assumption | assumption | constructor)
          intro x5 g5 t5 hg5
          replace hg5 : g5 = [(2, _), (3, _), (11, _)] := hg5
          subst hg5
          have e : r.way X Y = r.recv X := by unfold RuleV.way; rw [← hbo, ← hb3, ← hs1]; rfl
          exact Ls.nil (N.cut ⟨⟨(n3.trans n4').same t5, ((hb2.same t3).moved n4' (fun e => e)).same t5⟩, rfl⟩ (sub_keys (by rw [e]; rfl)))
  clear m7 hb7 hu7 hv7
  rintro w8 _ ⟨⟨m8, hb8⟩, rfl⟩
  have hfits : r.fits t dir = (r.way X Y && r.flowOk dir) := by unfold RuleV.fits; rw [hbad, ← hX, ← hY]; rfl
  have d1 : Cl w8 ⟨p, 11, none⟩ (.int .i64 r.flow) := hb8.cl rfl
  obtain ⟨wy, hwy⟩ : ∃ wy, wy = r.way X Y := ⟨_, rfl⟩
  rw [← hwy] at hfits
  rw [← hwy]
  rw [hfits]
  have fin : ∀ (b : Bool) (w9 : World) (f9 : Fr), (wy && r.flowOk dir) = b → Same w8 w9 → fget f9 6 = some (.bool b) → N 94 f9 w9 (bodyPost Try.prog Try.f9 fun e w' => e = .returned (.bool (wy && r.flowOk dir)) ∧ Mv (fun _ => False) w w') .ret := fun b w9 f9 e s9 h6 => by
    rw [e]
    exact post LO (rs := [.tmp 6]) rfl (vs := [.bool b]) (.tmp h6 .nil) ⟨rfl, m8.same s9⟩
  cases wy with
  | false =>
    apply W.readS LO mixed [6] (by kernel_rfl)
    · repeat' (first | rfl | with_reducible assumption | assumption | constructor)
    intro w9 f9 s9 hf9
    replace hf9 : f9 = [(6, _)] := hf9
    subst hf9
    exact W.ret (fin _ _ _ rfl s9 rfl)
  | true =>
    have k0 : Kn (r.flow == 0) (decide (r.flow = 0)) := .of (by by_cases e : r.flow = 0 <;> simp [e])
    have k1 : Kn (r.flow == 1) (decide (r.flow = 1)) := .of (by by_cases e : r.flow = 1 <;> simp [e])
    have k2 : Kn (r.flow == 2) (decide (r.flow = 2)) := .of (by by_cases e : r.flow = 2 <;> simp [e])
    rcases hdir with rfl | rfl
    · by_cases e0 : r.flow = 0
      · rw [decide_eq_true e0] at k0
        apply W.readS LO mixed [6] (by kernel_rfl)
        · repeat' (first | rfl | with_reducible assumption | assumption | constructor)
        intro w9 f9 s9 hf9
        replace hf9 : f9 = [(6, _)] := hf9
        subst hf9
        exact W.ret (fin _ _ _ (by unfold RuleV.flowOk; rw [decide_eq_true e0]; rfl) s9 rfl)
      · rw [decide_eq_false e0] at k0
        by_cases e1 : r.flow = 1
        · rw [decide_eq_true e1] at k1
          apply W.readS LO mixed [6] (by kernel_rfl)
          · repeat' (first | rfl | with_reducible assumption | assumption | constructor)
          intro w9 f9 s9 hf9
          replace hf9 : f9 = [(6, _)] := hf9
          subst hf9
          exact W.ret (fin _ _ _ (by unfold RuleV.flowOk; rw [decide_eq_true e1, decide_eq_false e0]; rfl) s9 rfl)
        · rw [decide_eq_false e1] at k1
          by_cases e2 : r.flow = 2
          · rw [decide_eq_true e2] at k2
            apply W.readS LO mixed [6] (by kernel_rfl)
            · repeat' (first | rfl | with_reducible assumption | assumption | constructor)
            intro w9 f9 s9 hf9
            replace hf9 : f9 = [(6, _)] := hf9
            subst hf9
            exact W.ret (fin _ _ _ (by unfold RuleV.flowOk; rw [decide_eq_false e1, decide_eq_false e0, decide_eq_true e2]; rfl) s9 rfl)
          · rw [decide_eq_false e2] at k2
            apply W.readS LO mixed [6] (by kernel_rfl)
            · repeat' (first | rfl | with_reducible assumption | assumption | constructor)
            intro w9 f9 s9 hf9
            replace hf9 : f9 = [(6, _)] := hf9
            subst hf9
            exact W.ret (fin _ _ _ (by unfold RuleV.flowOk; rw [decide_eq_false e1, decide_eq_false e0, decide_eq_false e2]; rfl) s9 rfl)
    · by_cases e0 : r.flow = 0
      · rw [decide_eq_true e0] at k0
        apply W.readS LO mixed [6] (by kernel_rfl)
        · repeat' (first | rfl | with_reducible assumption | assumption | constructor)
        intro w9 f9 s9 hf9
        replace hf9 : f9 = [(6, _)] := hf9
        subst hf9
        exact W.ret (fin _ _ _ (by unfold RuleV.flowOk; rw [decide_eq_true e0]; rfl) s9 rfl)
      · rw [decide_eq_false e0] at k0
        by_cases e1 : r.flow = 1
        · rw [decide_eq_true e1] at k1
          have e2 : ¬ r.flow = 2 := by omega
          rw [decide_eq_false e2] at k2
          apply W.readS LO mixed [6] (by kernel_rfl)
          · repeat' (first | rfl | with_reducible assumption | assumption | constructor)
          intro w9 f9 s9 hf9
          replace hf9 : f9 = [(6, _)] := hf9
          subst hf9
          exact W.ret (fin _ _ _ (by unfold RuleV.flowOk; rw [decide_eq_true e1, decide_eq_false e0, decide_eq_false e2]; rfl) s9 rfl)
        · rw [decide_eq_false e1] at k1
          by_cases e2 : r.flow = 2
          · rw [decide_eq_true e2] at k2
            apply W.readS LO mixed [6] (by kernel_rfl)
            · repeat' (first | rfl | with_reducible assumption | assumption | constructor)
            intro w9 f9 s9 hf9
            replace hf9 : f9 = [(6, _)] := hf9
            subst hf9
            exact W.ret (fin _ _ _ (by unfold RuleV.flowOk; rw [decide_eq_false e1, decide_eq_false e0, decide_eq_true e2]; rfl) s9 rfl)
          · rw [decide_eq_false e2] at k2
            apply W.readS LO mixed [6] (by kernel_rfl)
            · repeat' (first | rfl | with_reducible assumption | assumption | constructor)
            intro w9 f9 s9 hf9
            replace hf9 : f9 = [(6, _)] := hf9
            subst hf9
            exact W.ret (fin _ _ _ (by unfold RuleV.flowOk; rw [decide_eq_false e1, decide_eq_false e0, decide_eq_false e2]; rfl) s9 rfl)
end Go.Proofs.Ytbbafhpnlmmjjaa
