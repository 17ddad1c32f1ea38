/- What is proved: the reference's ends and Fits answer as the program's. Conditions: those that stand in each theorem. -/
import Derived.Test.YtbbafhpnlmmjjaaGrpAll3
namespace Go.Proofs.Ytbbafhpnlmmjjaa
set_option linter.unusedVariables false
set_option linter.unusedSimpArgs false
set_option linter.unusedSectionVars false
open Go.RowKit Fw
def RuleU (r : RuleV) : Prop := (∀ x ∈ r.fn.l, U32 x.1) ∧ ∀ x ∈ r.tn.l, U32 x.1
def TupU (t : TupV) : Prop := U32 t.src ∧ U32 t.dst
theorem BX.sub2 {w : World} {b T j : Nat} {cs : List Value} {u v : Value} (h : BX w b T cs) (h0 : cs[j]? = some u) (h1 : cs[j + 1]? = some v) : CellsAt w b (0 + j) 2 [u, v] := by
  rw [Nat.zero_add]
  exact .cons (h.cl h0) (.cons (h.cl h1) .nil)
set_option maxRecDepth 100000 in
set_option maxHeartbeats 4000000 in
theorem rway_walk (r : RuleV) (a p b q : Int) (w : World) (h : RuleAt w r) (hU : RuleU r) (ha : U32 a) (hb : U32 b) : Calls Try.prog 19 #[.agg r.cs.toArray, .int .u32 a, .int .i64 p, .int .u32 b, .int .i64 q] w fun e w' => e = .returned (.bool (r.send ⟨a, p⟩ && r.recv ⟨b, q⟩)) ∧ Mv (fun _ => False) w w' := by
  refine calls_W (n := 33) (vs := [.agg r.cs.toArray, .int .u32 a, .int .i64 p, .int .u32 b, .int .i64 q]) Try.func19 rfl rfl rfl ?_
  refine W.seq (W.list ?_)
  refine Ls.box rfl rfl rfl rfl rfl (vs := r.cs) rfl ?_
  have hb1 : BX (w.alloc (.cells r.cs.toArray 37)) w.heap.size 37 r.cs := heap_alloc_new w (.cells r.cs.toArray 37)
  have m1 : Mv (fun _ => False) w (w.alloc (.cells r.cs.toArray 37)) := (Mv.refl _ w).alloc _
  generalize w.alloc (.cells r.cs.toArray 37) = w1 at hb1 m1
  obtain ⟨g, hg⟩ : ∃ g, g = w.heap.size := ⟨_, rfl⟩
  rw [← hg] at hb1
  rw [← hg]
  apply Ls.runK LO [1, 2, 3, 4, 5] 1
  · repeat' (first | rfl | with_reducible assumption | assumption | constructor)
  intro w2 f2 s2 hf2
  replace hf2 : f2 = [(1, _), (2, _), (3, _), (4, _), (5, _)] := hf2
  subst hf2
  refine Ls.nil (N.to ?_)
  have hb2 := hb1.same s2
  have m2 := m1.same s2
  clear m1 s2 hb1
  have DD : ∀ w', Mv (fun _ => False) w w' → BX w' g 37 r.cs → (CellsAt w' g (0 + 2) 2 r.fn.cs ∧ CellsAt w' g (0 + 4) 2 r.fp.cs ∧ CellsAt w' g (0 + 6) 2 r.tn.cs ∧ CellsAt w' g (0 + 8) 2 r.tp.cs) := fun w' _ hb => ⟨hb.sub2 rfl rfl, hb.sub2 rfl rfl, hb.sub2 rfl rfl, hb.sub2 rfl rfl⟩
  refine W.seq (W.list ?_)
  obtain ⟨d1, d2, d3, d4⟩ := DD w2 m2 hb2
  apply Ls.runK LO [1, 2, 3, 4, 5, 12, 13] 3
  · repeat' (first | rfl | with_reducible assumption | assumption | constructor)
  intro w3 f3 s3 hf3
  replace hf3 : f3 = [(1, _), (2, _), (3, _), (4, _), (5, _), (12, _), (13, _)] := hf3
  subst hf3
  have m3 := m2.same s3
  have hb3 := hb2.same s3
  clear d1 d2 d3 d4 m2 hb2 s3
  refine Ls.call LO rfl rfl rfl rfl rfl (vs := [.agg r.fn.cs.toArray, .int .u32 a]) rfl (rhas_walk r.fn a w3 (h.fn.moved m3) h.few.1 hU.1 ha) ?_
  rintro _ w4 ⟨rfl, m4'⟩
  refine ⟨_, rfl, ?_⟩
  have m4 := m3.trans m4'
  have hb4 := hb3.moved m4' fun e => e
  clear m3 hb3 m4'
  obtain ⟨x1, hx1⟩ : ∃ x1, x1 = r.fn.has a := ⟨_, rfl⟩
  rw [← hx1]
  refine Ls.meet 7 (fun w' g' => (Mv (fun _ => False) w w' ∧ BX w' g 37 r.cs) ∧ g' = [(3, .int .u32 b), (4, .int .i64 q), (5, .pointer (some ⟨g, 0, none⟩)), (21, .bool (x1 && r.fp.hasS p))]) ?_ ?_
  · cases x1 with
    | false =>
      apply Ls.runK LO [3, 4, 5, 21] 7
      · repeat' (first | rfl | with_reducible assumption | assumption | constructor)
      intro w5 f5 s5 hf5
      replace hf5 : f5 = [(3, _), (4, _), (5, _), (21, _)] := hf5
      subst hf5
      exact Ls.nil (N.cut ⟨⟨m4.same s5, hb4.same s5⟩, rfl⟩ (sub_keys rfl))
    | true =>
      obtain ⟨d1, d2, d3, d4⟩ := DD w4 m4 hb4
      apply Ls.runK LO [3, 4, 5, 15, 17, 18] 4
      · repeat' (first | rfl | with_reducible assumption | assumption | constructor)
      intro w5 f5 s5 hf5
      replace hf5 : f5 = [(3, _), (4, _), (5, _), (15, _), (17, _), (18, _)] := hf5
      subst hf5
      have m5 := m4.same s5
      refine Ls.call LO rfl rfl rfl rfl rfl (vs := [.agg r.fp.cs.toArray, .int .i64 p]) rfl (rshas_walk r.fp p w5 (Rd.moved h.fp m5) h.few.2.1) ?_
      rintro _ w6 ⟨rfl, m6⟩
      refine ⟨_, rfl, ?_⟩
      apply Ls.runK LO [3, 4, 5, 21] 2
      · repeat' (first | rfl | with_reducible assumption | assumption | constructor)
      intro w7 f7 s7 hf7
      replace hf7 : f7 = [(3, _), (4, _), (5, _), (21, _)] := hf7
      subst hf7
      exact Ls.nil (N.cut ⟨⟨(m5.trans m6).same s7, ((hb4.same s5).moved m6 fun e => e).same s7⟩, rfl⟩ (sub_keys rfl))
  clear m4 hb4
  rintro w4 _ ⟨⟨m4, hb4⟩, rfl⟩
  obtain ⟨x2, hx2⟩ : ∃ x2, x2 = (x1 && r.fp.hasS p) := ⟨_, rfl⟩
  rw [← hx2]
  refine Ls.meet 6 (fun w' g' => (Mv (fun _ => False) w w' ∧ BX w' g 37 r.cs) ∧ g' = [(4, .int .i64 q), (5, .pointer (some ⟨g, 0, none⟩)), (27, .bool (x2 && r.tn.has b))]) ?_ ?_
  · cases x2 with
    | false =>
      apply Ls.runK LO [4, 5, 27] 6
      · repeat' (first | rfl | with_reducible assumption | assumption | constructor)
      intro w5 f5 s5 hf5
      replace hf5 : f5 = [(4, _), (5, _), (27, _)] := hf5
      subst hf5
      exact Ls.nil (N.cut ⟨⟨m4.same s5, hb4.same s5⟩, rfl⟩ (sub_keys rfl))
    | true =>
      obtain ⟨d1, d2, d3, d4⟩ := DD w4 m4 hb4
      apply Ls.runK LO [4, 5, 21, 23, 24] 3
      · repeat' (first | rfl | with_reducible assumption | assumption | constructor)
      intro w5 f5 s5 hf5
      replace hf5 : f5 = [(4, _), (5, _), (21, _), (23, _), (24, _)] := hf5
      subst hf5
      have m5 := m4.same s5
      refine Ls.call LO rfl rfl rfl rfl rfl (vs := [.agg r.tn.cs.toArray, .int .u32 b]) rfl (rhas_walk r.tn b w5 (Rd.moved h.tn m5) h.few.2.2.1 hU.2 hb) ?_
      rintro _ w6 ⟨rfl, m6⟩
      refine ⟨_, rfl, ?_⟩
      apply Ls.runK LO [4, 5, 27] 2
      · repeat' (first | rfl | with_reducible assumption | assumption | constructor)
      intro w7 f7 s7 hf7
      replace hf7 : f7 = [(4, _), (5, _), (27, _)] := hf7
      subst hf7
      exact Ls.nil (N.cut ⟨⟨(m5.trans m6).same s7, ((hb4.same s5).moved m6 fun e => e).same s7⟩, rfl⟩ (sub_keys rfl))
  clear m4 hb4
  rintro w4 _ ⟨⟨m4, hb4⟩, rfl⟩
  obtain ⟨x3, hx3⟩ : ∃ x3, x3 = (x2 && r.tn.has b) := ⟨_, rfl⟩
  rw [← hx3]
  have hres : (r.send ⟨a, p⟩ && r.recv ⟨b, q⟩) = (x3 && r.tp.hasS q) := by
    unfold RuleV.send RuleV.recv
    rw [hx3, hx2, hx1]
    simp only [Bool.and_assoc]
  rw [hres]
  have fin : ∀ w' v, Mv (fun _ => False) w w' → v = (x3 && r.tp.hasS q) → N 33 [(10, .bool v)] w' (bodyPost Try.prog Try.f19 fun e w' => e = .returned (.bool (x3 && r.tp.hasS q)) ∧ Mv (fun _ => False) w w') .ret := fun w' v m hv => by
    rw [← hv]
    exact post LO (rs := [.tmp 10]) rfl (vs := [.bool v]) (.tmp rfl .nil) ⟨rfl, m⟩
  cases x3 with
  | false =>
    apply Ls.runK LO [10] 6
    · repeat' (first | rfl | with_reducible assumption | assumption | constructor)
    intro w5 f5 s5 hf5
    replace hf5 : f5 = [(10, _)] := hf5
    subst hf5
    exact Ls.nil (N.to (W.ret (fin _ _ (m4.same s5) rfl)))
  | true =>
    obtain ⟨d1, d2, d3, d4⟩ := DD w4 m4 hb4
    apply Ls.runK LO [27, 29, 30] 3
    · repeat' (first | rfl | with_reducible assumption | assumption | constructor)
    intro w5 f5 s5 hf5
    replace hf5 : f5 = [(27, _), (29, _), (30, _)] := hf5
    subst hf5
    have m5 := m4.same s5
    refine Ls.call LO rfl rfl rfl rfl rfl (vs := [.agg r.tp.cs.toArray, .int .i64 q]) rfl (rshas_walk r.tp q w5 (Rd.moved h.tp m5) h.few.2.2.2) ?_
    rintro _ w6 ⟨rfl, m6⟩
    refine ⟨_, rfl, ?_⟩
    apply Ls.runK LO [10] 2
    · repeat' (first | rfl | with_reducible assumption | assumption | constructor)
    intro w7 f7 s7 hf7
    replace hf7 : f7 = [(10, _)] := hf7
    subst hf7
    exact Ls.nil (N.to (W.ret (fin _ _ ((m5.trans m6).same s7) rfl)))
/-! ### Fits, plain -/
def RuleV.badR (r : RuleV) (t : TupV) (dir : Int) : Bool := (dir != 0 && dir != 1) || (r.proto != 0 && r.proto != t.proto) || (r.flow == 1 && dir != 0) || (r.flow == 2 && dir != 1) || decide (r.flow < 0) || decide (2 < r.flow)
theorem fits_bad (r : RuleV) (t : TupV) (dir : Int) (h : r.badR t dir = true) : r.fits t dir = false := by
  unfold RuleV.fits
  suffices hs : r.bad t dir = true ∨ r.flowOk dir = false by
    rcases hs with e | e
    · rw [e]; rfl
    · rw [e, Bool.and_false, Bool.and_false]
  unfold RuleV.badR at h
  unfold RuleV.bad RuleV.flowOk
  simp only [Bool.or_eq_true, Bool.and_eq_true, decide_eq_true_eq, bne_iff_ne, beq_iff_eq, ne_eq] at h
  simp only [Bool.or_eq_true, Bool.and_eq_true, decide_eq_true_eq, ne_eq, Bool.or_eq_false_iff, Bool.and_eq_false_iff, decide_eq_false_iff_not]
  omega
theorem fits_ok (r : RuleV) (t : TupV) (dir : Int) (h : r.badR t dir = false) : (dir = 0 ∨ dir = 1) ∧ r.fits t dir = r.way (if dir = 1 then t.b else t.a) (if dir = 1 then t.a else t.b) := by
  unfold RuleV.badR at h
  simp only [Bool.or_eq_false_iff, Bool.and_eq_false_iff, decide_eq_false_iff_not, bne_eq_false_iff_eq, beq_eq_false_iff_ne, ne_eq] at h
  refine ⟨by omega, ?_⟩
  unfold RuleV.fits
  have e1 : r.bad t dir = false := by
    unfold RuleV.bad
    simp only [ne_eq, Bool.or_eq_false_iff, Bool.and_eq_false_iff, decide_eq_false_iff_not]
    omega
  have e2 : r.flowOk dir = true := by
    unfold RuleV.flowOk
    simp only [Bool.or_eq_true, Bool.and_eq_true, decide_eq_true_eq]
    omega
  rw [e1, e2, Bool.and_true]; rfl
set_option maxRecDepth 100000 in
set_option maxHeartbeats 8000000 in
theorem rfits_walk (r : RuleV) (t : TupV) (dir : Int) (w : World) (h : RuleAt w r) (hU : RuleU r) (hT : TupU t) : Calls Try.prog 10 #[.agg r.cs.toArray, .agg t.cs.toArray, .int .i64 dir] w fun e w' => e = .returned (.bool (r.fits t dir)) ∧ Mv (fun _ => False) w w' := by
  refine calls_W (n := 93) (vs := [.agg r.cs.toArray, .agg t.cs.toArray, .int .i64 dir]) Try.func10 rfl rfl rfl ?_
  refine W.seq (W.list ?_)
  refine Ls.box rfl rfl rfl rfl rfl (vs := r.cs) rfl ?_
  have hb1 : BX (w.alloc (.cells r.cs.toArray 37)) w.heap.size 37 r.cs := heap_alloc_new w (.cells r.cs.toArray 37)
  have m1 : Mv (fun _ => False) w (w.alloc (.cells r.cs.toArray 37)) := (Mv.refl _ w).alloc _
  have z1 := size_alloc' w (.cells r.cs.toArray 37)
  generalize w.alloc (.cells r.cs.toArray 37) = w1 at hb1 m1 z1
  obtain ⟨p, hp⟩ : ∃ p, p = w.heap.size := ⟨_, rfl⟩
  rw [← hp] at hb1
  rw [← hp]
  refine Ls.box rfl rfl rfl rfl rfl (vs := t.cs) rfl ?_
  have hq1 : BX (w1.alloc (.cells t.cs.toArray 25)) w1.heap.size 25 t.cs := heap_alloc_new w1 (.cells t.cs.toArray 25)
  have m2 : Mv (fun _ => False) w1 (w1.alloc (.cells t.cs.toArray 25)) := (Mv.refl _ w1).alloc _
  generalize w1.alloc (.cells t.cs.toArray 25) = w2 at hq1 m2
  obtain ⟨q, hq⟩ : ∃ q, q = w1.heap.size := ⟨_, rfl⟩
  rw [← hq] at hq1
  rw [← hq]
  have hb2 := hb1.moved m2 fun e => e
  have m2 := m1.trans m2
  apply Ls.runK LO [2, 3, 4] 1
  · repeat' (first | rfl | with_reducible assumption | assumption | constructor)
  intro w3 f3 s3 hf3
  replace hf3 : f3 = [(2, _), (3, _), (4, _)] := hf3
  subst hf3
  refine Ls.nil (N.to ?_)
  have m3 := m2.same s3
  have hb3 := hb2.same s3
  have hq3 := hq1.same s3
  have hpq : p < q := by omega
  have hwq : w.heap.size ≤ q := by omega
  clear m1 m2 hb1 hb2 hq1 s3 z1 hp hq
  refine W.cutS (fun w' g => (Mv (fun _ => False) w w' ∧ BX w' p 37 r.cs ∧ BX w' q 25 t.cs ∧ g = [(2, .int .i64 dir), (3, .pointer (some ⟨p, 0, none⟩)), (4, .pointer (some ⟨q, 0, none⟩))]) ∧ r.badR t dir = false) ?_ ?_
  · refine W.seq (W.list ?_)
    have DD : ∀ w', Same w3 w' → Cl w' ⟨p, 0 + 1, none⟩ (.int .i64 r.proto) ∧ Cl w' ⟨q, 0 + 0, none⟩ (.int .i64 t.proto) ∧ Cl w' ⟨p, 0 + 11, none⟩ (.int .i64 r.flow) := fun w' s => ⟨(hb3.same s).cl rfl, (hq3.same s).cl rfl, (hb3.same s).cl rfl⟩
    obtain ⟨D0, hD0⟩ : ∃ b, b = (dir != 0) := ⟨_, rfl⟩
    obtain ⟨D1, hD1⟩ : ∃ b, b = (dir != 1) := ⟨_, rfl⟩
    obtain ⟨P0, hP0⟩ : ∃ b, b = (r.proto != 0) := ⟨_, rfl⟩
    obtain ⟨P1, hP1⟩ : ∃ b, b = (r.proto != t.proto) := ⟨_, rfl⟩
    obtain ⟨F1, hF1⟩ : ∃ b, b = (r.flow == 1) := ⟨_, rfl⟩
    obtain ⟨F2, hF2⟩ : ∃ b, b = (r.flow == 2) := ⟨_, rfl⟩
    obtain ⟨F3, hF3⟩ : ∃ b, b = decide (r.flow < 0) := ⟨_, rfl⟩
    obtain ⟨F4, hF4⟩ : ∃ b, b = decide (2 < r.flow) := ⟨_, rfl⟩
    have kD0 : Kn (dir != 0) D0 := .of hD0.symm
    have kD1 : Kn (dir != 1) D1 := .of hD1.symm
    have kP0 : Kn (r.proto != 0) P0 := .of hP0.symm
    have kP1 : Kn (r.proto != t.proto) P1 := .of hP1.symm
    have kF1 : Kn (r.flow == 1) F1 := .of hF1.symm
    have kF2 : Kn (r.flow == 2) F2 := .of hF2.symm
    have kF3 : Kn (decide (r.flow < 0)) F3 := .of hF3.symm
    have kF4 : Kn (decide (2 < r.flow)) F4 := .of hF4.symm
    have hbad : r.badR t dir = (((((D0 && D1) || (P0 && P1)) || (F1 && D0)) || (F2 && D1)) || F3 || F4) := by unfold RuleV.badR; rw [hD0, hD1, hP0, hP1, hF1, hF2, hF3, hF4]
    rw [hbad]
    have hfb := fits_bad r t dir
    rw [hbad] at hfb
    clear hD0 hD1 hP0 hP1 hF1 hF2 hF3 hF4 hbad
    refine Ls.meet 7 (fun w' g => Same w3 w' ∧ g = [(2, .int .i64 dir), (3, .pointer (some ⟨p, 0, none⟩)), (4, .pointer (some ⟨q, 0, none⟩)), (13, .bool (D0 && D1))]) ?_ ?_
    · cases D0 with
      | false =>
        apply Ls.runK LO [2, 3, 4, 13] 7
        · repeat' (first | rfl | with_reducible assumption | assumption | constructor)
        intro w4 f4 s4 hf4
        replace hf4 : f4 = [(2, _), (3, _), (4, _), (13, _)] := hf4
        subst hf4
        exact Ls.nil (N.cut ⟨s4, rfl⟩ (sub_keys rfl))
      | true =>
        apply Ls.runK LO [2, 3, 4, 13] 7
        · repeat' (first | rfl | with_reducible assumption | assumption | constructor)
        intro w4 f4 s4 hf4
        replace hf4 : f4 = [(2, _), (3, _), (4, _), (13, _)] := hf4
        subst hf4
        exact Ls.nil (N.cut ⟨s4, rfl⟩ (sub_keys rfl))
    rintro w4 _ ⟨s4, rfl⟩
    obtain ⟨c1, hc1⟩ : ∃ b, b = (D0 && D1) := ⟨_, rfl⟩
    rw [← hc1] at hfb
    rw [← hc1]
    clear hc1
    refine Ls.meet 12 (fun w' g => Same w3 w' ∧ g = [(2, .int .i64 dir), (3, .pointer (some ⟨p, 0, none⟩)), (4, .pointer (some ⟨q, 0, none⟩)), (25, .bool (c1 || (P0 && P1)))]) ?_ ?_
    · obtain ⟨d1, d2, d3⟩ := DD w4 s4
      cases c1 with
      | true =>
        apply Ls.runK LO [2, 3, 4, 25] 12
        · repeat' (first | rfl | with_reducible assumption | assumption | constructor)
        intro w5 f5 s5 hf5
        replace hf5 : f5 = [(2, _), (3, _), (4, _), (25, _)] := hf5
        subst hf5
        exact Ls.nil (N.cut ⟨s4.trans s5, rfl⟩ (sub_keys rfl))
      | false =>
        cases P0 with
        | false =>
          apply Ls.runK LO [2, 3, 4, 25] 12
          · repeat' (first | rfl | with_reducible assumption | assumption | constructor)
          intro w5 f5 s5 hf5
          replace hf5 : f5 = [(2, _), (3, _), (4, _), (25, _)] := hf5
          subst hf5
          exact Ls.nil (N.cut ⟨s4.trans s5, rfl⟩ (sub_keys rfl))
        | true =>
          apply Ls.runK LO [2, 3, 4, 25] 12
          · repeat' (first | rfl | with_reducible assumption | assumption | constructor)
          intro w5 f5 s5 hf5
          replace hf5 : f5 = [(2, _), (3, _), (4, _), (25, _)] := hf5
          subst hf5
          exact Ls.nil (N.cut ⟨s4.trans s5, rfl⟩ (sub_keys rfl))
    clear s4
    rintro w4 _ ⟨s4, rfl⟩
    obtain ⟨c2, hc2⟩ : ∃ b, b = (c1 || (P0 && P1)) := ⟨_, rfl⟩
    rw [← hc2] at hfb
    rw [← hc2]
    clear hc2
    refine Ls.meet 9 (fun w' g => Same w3 w' ∧ g = [(2, .int .i64 dir), (3, .pointer (some ⟨p, 0, none⟩)), (4, .pointer (some ⟨q, 0, none⟩)), (34, .bool (c2 || (F1 && D0)))]) ?_ ?_
    · obtain ⟨d1, d2, d3⟩ := DD w4 s4
      cases c2 with
      | true =>
        apply Ls.runK LO [2, 3, 4, 34] 9
        · repeat' (first | rfl | with_reducible assumption | assumption | constructor)
        intro w5 f5 s5 hf5
        replace hf5 : f5 = [(2, _), (3, _), (4, _), (34, _)] := hf5
        subst hf5
        exact Ls.nil (N.cut ⟨s4.trans s5, rfl⟩ (sub_keys rfl))
      | false =>
        cases F1 with
        | false =>
          apply Ls.runK LO [2, 3, 4, 34] 9
          · repeat' (first | rfl | with_reducible assumption | assumption | constructor)
          intro w5 f5 s5 hf5
          replace hf5 : f5 = [(2, _), (3, _), (4, _), (34, _)] := hf5
          subst hf5
          exact Ls.nil (N.cut ⟨s4.trans s5, rfl⟩ (sub_keys rfl))
        | true =>
          apply Ls.runK LO [2, 3, 4, 34] 9
          · repeat' (first | rfl | with_reducible assumption | assumption | constructor)
          intro w5 f5 s5 hf5
          replace hf5 : f5 = [(2, _), (3, _), (4, _), (34, _)] := hf5
          subst hf5
          exact Ls.nil (N.cut ⟨s4.trans s5, rfl⟩ (sub_keys rfl))
    clear s4
    rintro w4 _ ⟨s4, rfl⟩
    obtain ⟨c3, hc3⟩ : ∃ b, b = (c2 || (F1 && D0)) := ⟨_, rfl⟩
    rw [← hc3] at hfb
    rw [← hc3]
    clear hc3
    refine Ls.meet 9 (fun w' g => Same w3 w' ∧ g = [(2, .int .i64 dir), (3, .pointer (some ⟨p, 0, none⟩)), (4, .pointer (some ⟨q, 0, none⟩)), (43, .bool (c3 || (F2 && D1)))]) ?_ ?_
    · obtain ⟨d1, d2, d3⟩ := DD w4 s4
      cases c3 with
      | true =>
        apply Ls.runK LO [2, 3, 4, 43] 9
        · repeat' (first | rfl | with_reducible assumption | assumption | constructor)
        intro w5 f5 s5 hf5
        replace hf5 : f5 = [(2, _), (3, _), (4, _), (43, _)] := hf5
        subst hf5
        exact Ls.nil (N.cut ⟨s4.trans s5, rfl⟩ (sub_keys rfl))
      | false =>
        cases F2 with
        | false =>
          apply Ls.runK LO [2, 3, 4, 43] 9
          · repeat' (first | rfl | with_reducible assumption | assumption | constructor)
          intro w5 f5 s5 hf5
          replace hf5 : f5 = [(2, _), (3, _), (4, _), (43, _)] := hf5
          subst hf5
          exact Ls.nil (N.cut ⟨s4.trans s5, rfl⟩ (sub_keys rfl))
        | true =>
          apply Ls.runK LO [2, 3, 4, 43] 9
          · repeat' (first | rfl | with_reducible assumption | assumption | constructor)
          intro w5 f5 s5 hf5
          replace hf5 : f5 = [(2, _), (3, _), (4, _), (43, _)] := hf5
          subst hf5
          exact Ls.nil (N.cut ⟨s4.trans s5, rfl⟩ (sub_keys rfl))
    clear s4
    rintro w4 _ ⟨s4, rfl⟩
    obtain ⟨c4, hc4⟩ : ∃ b, b = (c3 || (F2 && D1)) := ⟨_, rfl⟩
    rw [← hc4] at hfb
    rw [← hc4]
    clear hc4
    refine Ls.meet 5 (fun w' g => Same w3 w' ∧ g = [(2, .int .i64 dir), (3, .pointer (some ⟨p, 0, none⟩)), (4, .pointer (some ⟨q, 0, none⟩)), (48, .bool (c4 || F3))]) ?_ ?_
    · obtain ⟨d1, d2, d3⟩ := DD w4 s4
      cases c4 with
      | true =>
        apply Ls.runK LO [2, 3, 4, 48] 5
        · repeat' (first | rfl | with_reducible assumption | assumption | constructor)
        intro w5 f5 s5 hf5
        replace hf5 : f5 = [(2, _), (3, _), (4, _), (48, _)] := hf5
        subst hf5
        exact Ls.nil (N.cut ⟨s4.trans s5, rfl⟩ (sub_keys rfl))
      | false =>
        apply Ls.runK LO [2, 3, 4, 48] 5
        · repeat' (first | rfl | with_reducible assumption | assumption | constructor)
        intro w5 f5 s5 hf5
        replace hf5 : f5 = [(2, _), (3, _), (4, _), (48, _)] := hf5
        subst hf5
        exact Ls.nil (N.cut ⟨s4.trans s5, rfl⟩ (sub_keys rfl))
    clear s4
    rintro w4 _ ⟨s4, rfl⟩
    obtain ⟨c5, hc5⟩ : ∃ b, b = (c4 || F3) := ⟨_, rfl⟩
    rw [← hc5] at hfb
    rw [← hc5]
    clear hc5
    refine Ls.meet 4 (fun w' g => Same w3 w' ∧ g = [(2, .int .i64 dir), (3, .pointer (some ⟨p, 0, none⟩)), (4, .pointer (some ⟨q, 0, none⟩)), (52, .bool (c5 || F4))]) ?_ ?_
    · obtain ⟨d1, d2, d3⟩ := DD w4 s4
      cases c5 with
      | true =>
        apply Ls.runK LO [2, 3, 4, 52] 4
        · repeat' (first | rfl | with_reducible assumption | assumption | constructor)
        intro w5 f5 s5 hf5
        replace hf5 : f5 = [(2, _), (3, _), (4, _), (52, _)] := hf5
        subst hf5
        exact Ls.nil (N.cut ⟨s4.trans s5, rfl⟩ (sub_keys rfl))
      | false =>
        apply Ls.runK LO [2, 3, 4, 52] 4
        · repeat' (first | rfl | with_reducible assumption | assumption | constructor)
        intro w5 f5 s5 hf5
        replace hf5 : f5 = [(2, _), (3, _), (4, _), (52, _)] := hf5
        subst hf5
        exact Ls.nil (N.cut ⟨s4.trans s5, rfl⟩ (sub_keys rfl))
    clear s4
    rintro w4 _ ⟨s4, rfl⟩
    refine Ls.nil (N.to ?_)
    cases hc : (c5 || F4) with
    | true =>
      rw [hc] at hfb
      have e := hfb rfl
      refine W.cond (b := true) rfl (fun _ => ?_) (fun h => by cases h)
      apply W.readS LO mixed [6] (by kernel_rfl)
      · repeat' (first | rfl | with_reducible assumption | assumption | constructor)
      intro w5 f5 s5 hf5
      replace hf5 : f5 = [(6, _)] := hf5
      subst hf5
      rw [e]
      exact W.ret (N.thenR (post (fn := Try.f10) (R := fun e w' => e = .returned (.bool false) ∧ Mv (fun _ => False) w w') LO (rs := [.tmp 6]) rfl (vs := [.bool false]) (.tmp rfl .nil) ⟨rfl, (m3.same s4).same s5⟩))
    | false =>
      refine W.cond (b := false) rfl (fun h => by cases h) (fun _ => W.skip ?_)
      exact N.cut ⟨⟨m3.same s4, hb3.same s4, hq3.same s4, rfl⟩, rfl⟩ (sub_keys rfl)
  clear m3 hb3 hq3
  rintro w4 _ ⟨⟨m4, hb4, hq4, rfl⟩, hbad⟩
  obtain ⟨hd, hfit⟩ := fits_ok r t dir hbad
  rw [hfit]
  clear hfit hbad
  refine W.cutS (fun w' g => ∃ u : TupV, (Mv (fun _ => False) w w' ∧ BX w' p 37 r.cs ∧ BX w' q 25 u.cs ∧ (TupU u ∧ u.a = (if dir = 1 then t.b else t.a) ∧ u.b = (if dir = 1 then t.a else t.b))) ∧ g = [(3, .pointer (some ⟨p, 0, none⟩)), (4, .pointer (some ⟨q, 0, none⟩))]) ?_ ?_
  · rcases hd with rfl | rfl
    · have k1 : Kn ((0 : Int) == 1) false := .of rfl
      apply W.readS LO mixed [3, 4, 54] (by kernel_rfl)
      · repeat' (first | rfl | with_reducible assumption | assumption | constructor)
      intro w5 f5 s5 hf5
      replace hf5 : f5 = [(3, _), (4, _), (54, _)] := hf5
      subst hf5
      refine W.cond (b := false) rfl (fun h => by cases h) (fun _ => W.skip ?_)
      exact N.cut ⟨t, ⟨m4.same s5, hb4.same s5, hq4.same s5, hT, rfl, rfl⟩, rfl⟩ (sub_keys rfl)
    · have k1 : Kn ((1 : Int) == 1) true := .of rfl
      apply W.readS LO mixed [3, 4, 54] (by kernel_rfl)
      · repeat' (first | rfl | with_reducible assumption | assumption | constructor)
      intro w5 f5 s5 hf5
      replace hf5 : f5 = [(3, _), (4, _), (54, _)] := hf5
      subst hf5
      refine W.cond (b := true) rfl (fun _ => W.list ?_) (fun h => by cases h)
      have hq5 := hq4.same s5
      have d1 : Cl w5 ⟨q, 0 + 1, none⟩ (.int .u32 t.src) := hq5.cl rfl
      have d2 : Cl w5 ⟨q, 0 + 2, none⟩ (.int .u32 t.dst) := hq5.cl rfl
      have d3 : Cl w5 ⟨q, 0 + 3, none⟩ (.int .i64 t.sp) := hq5.cl rfl
      have d4 : Cl w5 ⟨q, 0 + 4, none⟩ (.int .i64 t.dp) := hq5.cl rfl
      apply Ls.runK LO [3, 4, 56, 58, 60, 62, 63] 9
      · repeat' (first | rfl | with_reducible assumption | assumption | constructor)
      intro w6 f6 s6 hf6
      replace hf6 : f6 = [(3, _), (4, _), (56, _), (58, _), (60, _), (62, _), (63, _)] := hf6
      subst hf6
      have hq6 := hq5.same s6
      refine Ls.store LO rfl rfl rfl rfl rfl (vs := [.int .u32 t.dst]) rfl rfl rfl hq6 rfl ?_
      intro w7 hq7 m7 _
      have hq7 : BX w7 q 25 ({ t with src := t.dst } : TupV).cs := hq7
      apply Ls.runK LO [3, 4, 58, 60, 62, 64] 1
      · repeat' (first | rfl | with_reducible assumption | assumption | constructor)
      intro w8 f8 s8 hf8
      replace hf8 : f8 = [(3, _), (4, _), (58, _), (60, _), (62, _), (64, _)] := hf8
      subst hf8
      refine Ls.store LO rfl rfl rfl rfl rfl (vs := [.int .u32 t.src]) rfl rfl rfl (hq7.same s8) rfl ?_
      intro w9 hq9 m9 _
      have hq9 : BX w9 q 25 ({ t with src := t.dst, dst := t.src } : TupV).cs := hq9
      apply Ls.runK LO [3, 4, 60, 62, 65] 1
      · repeat' (first | rfl | with_reducible assumption | assumption | constructor)
      intro w10 f10 s10 hf10
      replace hf10 : f10 = [(3, _), (4, _), (60, _), (62, _), (65, _)] := hf10
      subst hf10
      refine Ls.store LO rfl rfl rfl rfl rfl (vs := [.int .i64 t.dp]) rfl rfl rfl (hq9.same s10) rfl ?_
      intro w11 hq11 m11 _
      have hq11 : BX w11 q 25 ({ t with src := t.dst, dst := t.src, sp := t.dp } : TupV).cs := hq11
      apply Ls.runK LO [3, 4, 62, 66] 1
      · repeat' (first | rfl | with_reducible assumption | assumption | constructor)
      intro w12 f12 s12 hf12
      replace hf12 : f12 = [(3, _), (4, _), (62, _), (66, _)] := hf12
      subst hf12
      refine Ls.store LO rfl rfl rfl rfl rfl (vs := [.int .i64 t.sp]) rfl rfl rfl (hq11.same s12) rfl ?_
      intro w13 hq13 m13 _
      have hq13 : BX w13 q 25 ({ t with src := t.dst, dst := t.src, sp := t.dp, dp := t.sp } : TupV).cs := hq13
      have mq : Mv (· = q) w4 w13 := ((((((((Mv.refl _ w4).same s5).same s6).trans m7).same s8).trans m9).same s10).trans m11).same s12 |>.trans m13
      refine Ls.nil (N.cut ⟨_, ⟨m4.cut mq fun k hk e => by omega, hb4.moved mq (by omega), hq13, ⟨hT.2, hT.1⟩, rfl, rfl⟩, rfl⟩ (sub_keys rfl))
  clear m4 hb4 hq4
  rintro w5 _ ⟨u, ⟨m5, hb5, hq5, ⟨hu, hua, hub⟩⟩, rfl⟩
  rw [← hua, ← hub]
  clear hua hub hd
  refine W.seq (W.list ?_)
  have DD : ∀ w', BX w' q 25 u.cs → Cl w' ⟨q, 0 + 1, none⟩ (.int .u32 u.src) ∧ Cl w' ⟨q, 0 + 2, none⟩ (.int .u32 u.dst) ∧ Cl w' ⟨q, 0 + 3, none⟩ (.int .i64 u.sp) ∧ Cl w' ⟨q, 0 + 4, none⟩ (.int .i64 u.dp) := fun w' hq => ⟨hq.cl rfl, hq.cl rfl, hq.cl rfl, hq.cl rfl⟩
  obtain ⟨d1, d2, d3, d4⟩ := DD w5 hq5
  have d5 : CellsAt w5 p 0 15 r.cs := hb5.cells
  apply Ls.runK LO [3, 4, 67, 69, 71, 73, 75] 9
  · repeat' (first | rfl | with_reducible assumption | assumption | constructor)
  intro w6 f6 s6 hf6
  replace hf6 : f6 = [(3, _), (4, _), (67, _), (69, _), (71, _), (73, _), (75, _)] := hf6
  subst hf6
  have m6 := m5.same s6
  refine Ls.call LO rfl rfl rfl rfl rfl (vs := [.agg r.cs.toArray, .int .u32 u.src, .int .i64 u.sp, .int .u32 u.dst, .int .i64 u.dp]) rfl (rway_walk r u.src u.sp u.dst u.dp w6 (h.moved m6) hU hu.1 hu.2) ?_
  rintro _ w7 ⟨rfl, m7⟩
  refine ⟨_, rfl, ?_⟩
  have hb7 := (hb5.same s6).moved m7 fun e => e
  have hq7 := (hq5.same s6).moved m7 fun e => e
  have m7 := m6.trans m7
  clear d1 d2 d3 d4 d5 m5 hb5 hq5 s6 m6
  have hway : r.way u.a u.b = ((r.send ⟨u.src, u.sp⟩ && r.recv ⟨u.dst, u.dp⟩) || (r.both && (r.send ⟨u.dst, u.dp⟩ && r.recv ⟨u.src, u.sp⟩))) := rfl
  rw [hway]
  obtain ⟨x1, hx1⟩ : ∃ b, b = (r.send ⟨u.src, u.sp⟩ && r.recv ⟨u.dst, u.dp⟩) := ⟨_, rfl⟩
  obtain ⟨x2, hx2⟩ : ∃ b, b = (r.send ⟨u.dst, u.dp⟩ && r.recv ⟨u.src, u.sp⟩) := ⟨_, rfl⟩
  rw [← hx1, ← hx2]
  obtain ⟨bo, hbo⟩ : ∃ b, b = r.both := ⟨_, rfl⟩
  have fin : ∀ w' v, Mv (fun _ => False) w w' → v = (x1 || (r.both && x2)) → N 93 [(6, .bool v)] w' (bodyPost Try.prog Try.f10 fun e w' => e = .returned (.bool (x1 || (r.both && x2))) ∧ Mv (fun _ => False) w w') .ret := fun w' v m hv => by
    rw [← hv]
    exact post LO (rs := [.tmp 6]) rfl (vs := [.bool v]) (.tmp rfl .nil) ⟨rfl, m⟩
  have dB : Cl w7 ⟨p, 0 + 10, none⟩ (.bool r.both) := hb7.cl rfl
  rw [← hbo] at dB
  cases x1 with
  | true =>
    apply Ls.runK LO [6] 17
    · repeat' (first | rfl | with_reducible assumption | assumption | constructor)
    intro w8 f8 s8 hf8
    replace hf8 : f8 = [(6, _)] := hf8
    subst hf8
    exact Ls.nil (N.to (W.ret (fin _ _ (m7.same s8) rfl)))
  | false =>
    cases bo with
    | false =>
      apply Ls.runK LO [6] 17
      · repeat' (first | rfl | with_reducible assumption | assumption | constructor)
      intro w8 f8 s8 hf8
      replace hf8 : f8 = [(6, _)] := hf8
      subst hf8
      exact Ls.nil (N.to (W.ret (fin _ _ (m7.same s8) (by rw [← hbo]; rfl))))
    | true =>
      obtain ⟨d1, d2, d3, d4⟩ := DD w7 hq7
      have d5 : CellsAt w7 p 0 15 r.cs := hb7.cells
      apply Ls.runK LO [77, 80, 81, 83, 85, 87, 89] 13
      · repeat' (first | rfl | with_reducible assumption | assumption | constructor)
      intro w8 f8 s8 hf8
      replace hf8 : f8 = [(77, _), (80, _), (81, _), (83, _), (85, _), (87, _), (89, _)] := hf8
      subst hf8
      have m8 := m7.same s8
      refine Ls.call LO rfl rfl rfl rfl rfl (vs := [.agg r.cs.toArray, .int .u32 u.dst, .int .i64 u.dp, .int .u32 u.src, .int .i64 u.sp]) rfl (rway_walk r u.dst u.dp u.src u.sp w8 (h.moved m8) hU hu.2 hu.1) ?_
      rintro _ w9 ⟨rfl, m9⟩
      refine ⟨_, rfl, ?_⟩
      rw [← hx2]
      apply Ls.runK LO [6] 3
      · repeat' (first | rfl | with_reducible assumption | assumption | constructor)
      intro w10 f10 s10 hf10
      replace hf10 : f10 = [(6, _)] := hf10
      subst hf10
      exact Ls.nil (N.to (W.ret (fin _ _ ((m8.trans m9).same s10) (by rw [← hbo]; rfl))))
end Go.Proofs.Ytbbafhpnlmmjjaa
