/- What is proved: whether a port is in a set of ports. Conditions: those that stand in each theorem. -/
import Derived.Test.YtbbafhpnlmmjjaaGrpNet2
namespace Go.Proofs.Ytbbafhpnlmmjjaa
set_option linter.unusedVariables false
set_option linter.unusedSimpArgs false
set_option linter.unusedSectionVars false
open Go.RowKit Fw
theorem Same.trans {w w1 w2 : World} (a : Same w w1) (b : Same w1 w2) : Same w w2 := ⟨b.heap.trans a.heap, b.os.trans a.os, b.tape.trans a.tape, b.output.trans a.output⟩
def scs (n : Int × Int) : List Value := [.int .i64 n.1, .int .i64 n.2]
theorem scs_len (n : Int × Int) : (scs n).length = 2 := rfl
def inS (n : Int × Int) (a : Int) : Bool := decide (n.1 ≤ a) && decide (a ≤ n.2)
def SpansAt (w : World) (s : SetV) : Prop := Rd w 2 s.v s.l.length (s.l.flatMap scs)
def okS (n : Int × Int) : Bool := decide (0 ≤ n.1) && (decide (n.1 ≤ n.2) && decide (n.2 ≤ 65535))
def SetV.checkS (s : SetV) : Bool := decide (s.l.length ≤ 4) && s.l.all okS
def SetV.hasS (s : SetV) (a : Int) : Bool := s.checkS && (decide (0 ≤ a) && (decide (a ≤ 65535) && ((s.l.isEmpty || s.l.any fun n => inS n a) != s.not)))
set_option maxRecDepth 100000 in
set_option maxHeartbeats 4000000 in
theorem scheck_walk (s : SetV) (w : World) (h : SpansAt w s) (hl : s.l.length ≤ 1000000000) : Calls Try.prog 32 #[.agg s.cs.toArray] w fun e w' => e = .returned (.bool s.checkS) ∧ Mv (fun _ => False) w w' := by
  refine calls_W (n := 37) (vs := [.agg s.cs.toArray]) Try.func32 rfl rfl rfl ?_
  refine W.seq (W.list ?_)
  obtain ⟨hv1, hv2⟩ := h.one
  have hbc : (Value.agg s.cs.toArray).cells = [Value.bool s.not, s.v].toArray := rfl
  refine Ls.box rfl rfl rfl rfl rfl (vs := s.cs) rfl ?_
  have hb1 : B2 (w.alloc (.cells s.cs.toArray 34)) w.heap.size 34 (.bool s.not) s.v := heap_alloc_new w (.cells s.cs.toArray 34)
  have m1 : Mv (fun _ => False) w (w.alloc (.cells s.cs.toArray 34)) := (Mv.refl _ w).alloc _
  generalize w.alloc (.cells s.cs.toArray 34) = w1 at hb1 m1
  obtain ⟨r, hr⟩ : ∃ r, r = w.heap.size := ⟨_, rfl⟩
  rw [← hr] at hb1
  rw [← hr]
  apply Ls.runK LO [1] 1
  · repeat' (first | rfl | with_reducible assumption | assumption | constructor)
  intro w2 f2 s2 hf2
  replace hf2 : f2 = [(1, _)] := hf2
  subst hf2
  refine Ls.nil (N.to ?_)
  have hb2 : B2 w2 r 34 (.bool s.not) s.v := by unfold B2; rw [s2.heap]; exact hb1
  have m2 := m1.same s2
  clear m1 s2 hb1
  obtain ⟨a, c, hv⟩ := h.len
  obtain ⟨c0, c1⟩ := hb2.cls
  rw [hv] at c1
  have k1 : Kn (decide ((s.l.length : Int) ≤ 4)) (decide (s.l.length ≤ 4)) := .of (decide_eq_decide.2 (by omega))
  apply W.readS LO mixed [1, 3] (by kernel_rfl)
  · repeat' (first | rfl | with_reducible assumption | assumption | constructor)
  intro w3 f3 s3 hf3
  replace hf3 : f3 = [(1, _), (3, _)] := hf3
  subst hf3
  have m3 := m2.same s3
  have hb3 : B2 w3 r 34 (.bool s.not) s.v := by unfold B2; rw [s3.heap]; exact hb2
  clear c0 c1 hb2 s3 m2 k1
  obtain ⟨acc0, hacc0⟩ : ∃ b, b = decide (s.l.length ≤ 4) := ⟨_, rfl⟩
  rw [← hacc0]
  refine W.cutS (fun w' g => Mv (fun _ => False) w w' ∧ g = [(3, .bool s.checkS)]) ?_ ?_
  · obtain ⟨c0, c1⟩ := hb3.cls
    rw [hv] at c1
    apply W.readS LO mixed [3, 11, 12, 13] (by kernel_rfl)
    · repeat' (first | rfl | with_reducible assumption | assumption | constructor)
    intro w4 f4 s4 hf4
    replace hf4 : f4 = [(3, _), (11, _), (12, _), (13, _)] := hf4
    subst hf4
    have m4 := m3.same s4
    clear c0 c1 hb3 m3 s4
    refine W.block (W.loop (fun k w' g => ∃ i : Nat, k + i = s.l.length ∧ Mv (fun _ => False) w w' ∧ g = [(3, .bool (acc0 && (s.l.take i).all okS)), (11, .slice a s.l.length c), (12, .int .i64 s.l.length), (13, .int .i64 i)]) s.l.length [(3, .bool acc0), (11, .slice a s.l.length c), (12, .int .i64 s.l.length), (13, .int .i64 0)] ⟨0, rfl, m4, by simp⟩ (sub_keys rfl) ?_)
    clear m4
    rintro k w5 _ ⟨i, hk, m5, rfl⟩
    by_cases hlt : i < s.l.length
    · have k1 : Kn (decide ((i : Int) < (s.l.length : Int))) true := .yes (by omega)
      apply W.readS LO mixed [3, 11, 13, 12, 14] (by kernel_rfl)
      · repeat' (first | rfl | with_reducible assumption | assumption | constructor)
      intro w6 f6 s6 hf6
      replace hf6 : f6 = [(3, _), (11, _), (13, _), (12, _), (14, _)] := hf6
      subst hf6
      have m6 := m5.same s6
      clear m5 s6
      refine W.seq (W.cond (b := true) rfl (fun _ => W.skip (N.to ?_)) (fun h => by cases h))
      obtain ⟨x, hx⟩ : ∃ x, s.l[i]? = some x := ⟨_, List.getElem?_eq_getElem hlt⟩
      have htk : (s.l.take (i + 1)).all okS = ((s.l.take i).all okS && okS x) := by rw [List.take_add_one, hx]; simp
      obtain ⟨acc, hacc⟩ : ∃ b, b = (acc0 && (s.l.take i).all okS) := ⟨_, rfl⟩
      rw [← hacc]
      have hnext : (acc0 && (s.l.take (i + 1)).all okS) = (acc && okS x) := by rw [htk, hacc, Bool.and_assoc]
      refine W.cutS (fun w' g => Mv (fun _ => False) w w' ∧ g = [(3, .bool (acc && okS x)), (11, .slice a s.l.length c), (12, .int .i64 s.l.length), (13, .int .i64 i)]) ?_ ?_
      · refine W.block ?_
        obtain ⟨b, o, c', hv', hcell⟩ := (h.moved m6).at scs_len (by decide) hx
        rw [hv] at hv'
        injection hv' with ea _ ec
        subst ea ec
        have i0 : (0 : Int) ≤ (i : Int) := by omega
        have i1 : (i : Int) < (s.l.length : Int) := by omega
        refine W.seq (W.list ?_)
        apply Ls.runK LO [3, 11, 12, 13, 16] 2
        · repeat' (first | rfl | with_reducible assumption | assumption | constructor)
        intro w7 f7 s7 hf7
        replace hf7 : f7 = [(3, _), (11, _), (12, _), (13, _), (16, _)] := hf7
        subst hf7
        have m7 := m6.same s7
        clear hcell m6 s7
        refine Ls.alloc LO rfl rfl rfl rfl (zs := [.int .i64 0, .int .i64 0]) rfl ?_
        have hb8 := heap_alloc_new w7 (.cells [Value.int .i64 0, .int .i64 0].toArray 50)
        have m8 : Mv (fun _ => False) w7 (w7.alloc (.cells [Value.int .i64 0, .int .i64 0].toArray 50)) := (Mv.refl _ w7).alloc _
        generalize w7.alloc (.cells [Value.int .i64 0, .int .i64 0].toArray 50) = w8 at hb8 m8
        obtain ⟨q, hq⟩ : ∃ q, q = w7.heap.size := ⟨_, rfl⟩
        rw [← hq] at hb8
        rw [← hq]
        refine Ls.store LO rfl rfl rfl rfl rfl (vs := scs x) rfl rfl rfl hb8 rfl ?_
        intro w9 hb9 m9 _
        have hb9 : B2 w9 q 50 (.int .i64 x.1) (.int .i64 x.2) := hb9
        have mq := m7.size
        have m9 : Mv (fun _ => False) w w9 := (m7.trans m8).cut m9 fun k hk e => by omega
        refine Ls.nil (N.to ?_)
        clear hb8 m8 m7 mq hq
        obtain ⟨c0, c1⟩ := hb9.cls
        cases acc with
        | false =>
          apply W.readN LO mixed [3, 11, 12, 13] (by kernel_rfl)
          · repeat' (first | rfl | with_reducible assumption | assumption | constructor)
          intro w10 f10 s10 hf10
          replace hf10 : f10 = [(3, _), (11, _), (12, _), (13, _)] := hf10
          subst hf10
          exact N.inb (N.cut ⟨m9.same s10, rfl⟩ (sub_keys rfl))
        | true =>
          by_cases e0 : 0 ≤ x.1
          · have k2 : Kn (decide (0 ≤ x.1)) true := .yes e0
            by_cases e1 : x.1 ≤ x.2
            · have k3 : Kn (decide (x.1 ≤ x.2)) true := .yes e1
              have k4 : Kn (decide (x.2 ≤ 65535)) (decide (x.2 ≤ 65535)) := .rfl
              have eo : okS x = decide (x.2 ≤ 65535) := by unfold okS; rw [decide_eq_true e0, decide_eq_true e1, Bool.true_and, Bool.true_and]
              apply W.readN LO mixed [3, 11, 12, 13] (by kernel_rfl)
              · repeat' (first | rfl | with_reducible assumption | assumption | constructor)
              intro w10 f10 s10 hf10
              replace hf10 : f10 = [(3, _), (11, _), (12, _), (13, _)] := hf10
              subst hf10
              exact N.inb (N.cut ⟨m9.same s10, rfl⟩ (sub_keys (by rw [eo]; rfl)))
            · have k3 : Kn (decide (x.1 ≤ x.2)) false := .no e1
              have eo : okS x = false := by unfold okS; rw [decide_eq_false e1, Bool.false_and, Bool.and_false]
              apply W.readN LO mixed [3, 11, 12, 13] (by kernel_rfl)
              · repeat' (first | rfl | with_reducible assumption | assumption | constructor)
              intro w10 f10 s10 hf10
              replace hf10 : f10 = [(3, _), (11, _), (12, _), (13, _)] := hf10
              subst hf10
              exact N.inb (N.cut ⟨m9.same s10, rfl⟩ (sub_keys (by rw [eo]; rfl)))
          · have k2 : Kn (decide (0 ≤ x.1)) false := .no e0
            have eo : okS x = false := by unfold okS; rw [decide_eq_false e0, Bool.false_and]
            apply W.readN LO mixed [3, 11, 12, 13] (by kernel_rfl)
            · repeat' (first | rfl | with_reducible assumption | assumption | constructor)
            intro w10 f10 s10 hf10
            replace hf10 : f10 = [(3, _), (11, _), (12, _), (13, _)] := hf10
            subst hf10
            exact N.inb (N.cut ⟨m9.same s10, rfl⟩ (sub_keys (by rw [eo]; rfl)))
      · rintro w7 _ ⟨m7, rfl⟩
        have k5 : Kn (IntKind.i64.wrap ((i : Int) + 1)) ((i + 1 : Nat) : Int) := .of (IntWalk.i64_in _ (by omega))
        apply W.readN LO mixed [3, 11, 12, 13] (by kernel_rfl)
        · repeat' (first | rfl | with_reducible assumption | assumption | constructor)
        intro w8 f8 s8 hf8
        replace hf8 : f8 = [(3, _), (11, _), (12, _), (13, _)] := hf8
        subst hf8
        exact N.round (k - 1) _ (by omega) ⟨i + 1, by omega, m7.same s8, by rw [hnext]⟩ (sub_keys rfl)
    · have k1 : Kn (decide ((i : Int) < (s.l.length : Int))) false := .no (by omega)
      apply W.readS LO mixed [3, 14] (by kernel_rfl)
      · repeat' (first | rfl | with_reducible assumption | assumption | constructor)
      intro w6 f6 s6 hf6
      replace hf6 : f6 = [(3, _), (14, _)] := hf6
      subst hf6
      refine W.seq (W.cond (b := false) rfl (fun h => by cases h) (fun _ => W.exit ?_))
      rw [List.take_of_length_le (by omega)]
      refine N.thenE (N.thenE (N.out (N.cut ⟨m5.same s6, rfl⟩ (sub_keys ?_))))
      rw [hacc0]; rfl
  rintro w4 _ ⟨m4, rfl⟩
  apply W.readS LO mixed [2] (by kernel_rfl)
  · repeat' (first | rfl | with_reducible assumption | assumption | constructor)
  intro w5 f5 s5 hf5
  replace hf5 : f5 = [(2, _)] := hf5
  subst hf5
  exact W.ret (post LO (rs := [.tmp 2]) rfl (vs := [.bool s.checkS]) (.tmp rfl .nil) ⟨rfl, m4.same s5⟩)
set_option maxRecDepth 100000 in
set_option maxHeartbeats 4000000 in
theorem shas_walk (s : SetV) (a_ : Int) (w : World) (h : SpansAt w s) (hl : s.l.length ≤ 1000000000) : Calls Try.prog 23 #[.agg s.cs.toArray, .int .i64 a_] w fun e w' => e = .returned (.bool (s.hasS a_)) ∧ Mv (fun _ => False) w w' := by
  refine calls_W (n := 48) (vs := [.agg s.cs.toArray, .int .i64 a_]) Try.func23 rfl rfl rfl ?_
  refine W.seq (W.list ?_)
  obtain ⟨hv1, hv2⟩ := h.one
  refine Ls.box rfl rfl rfl rfl rfl (vs := s.cs) rfl ?_
  have hb1 : B2 (w.alloc (.cells s.cs.toArray 34)) w.heap.size 34 (.bool s.not) s.v := heap_alloc_new w (.cells s.cs.toArray 34)
  have m1 : Mv (fun _ => False) w (w.alloc (.cells s.cs.toArray 34)) := (Mv.refl _ w).alloc _
  generalize w.alloc (.cells s.cs.toArray 34) = w1 at hb1 m1
  obtain ⟨r, hr⟩ : ∃ r, r = w.heap.size := ⟨_, rfl⟩
  rw [← hr] at hb1
  rw [← hr]
  apply Ls.runK LO [1, 2] 1
  · repeat' (first | rfl | with_reducible assumption | assumption | constructor)
  intro w2 f2 s2 hf2
  replace hf2 : f2 = [(1, _), (2, _)] := hf2
  subst hf2
  refine Ls.nil (N.to ?_)
  have hb2 : B2 w2 r 34 (.bool s.not) s.v := by unfold B2; rw [s2.heap]; exact hb1
  have m2 := m1.same s2
  clear m1 s2 hb1
  obtain ⟨a, c, hv⟩ := h.len
  refine W.cutS (fun w' g => (Mv (fun _ => False) w w' ∧ B2 w' r 34 (.bool s.not) s.v ∧ g = [(1, .int .i64 a_), (2, .pointer (some ⟨r, 0, none⟩))]) ∧ s.checkS = true ∧ 0 ≤ a_ ∧ a_ ≤ 65535) ?_ ?_
  · have hcells := hb2.cells
    refine W.seq (W.list ?_)
    apply Ls.runK LO [1, 2, 8] 1
    · repeat' (first | rfl | with_reducible assumption | assumption | constructor)
    intro w3 f3 s3 hf3
    replace hf3 : f3 = [(1, _), (2, _), (8, _)] := hf3
    subst hf3
    have m3 := m2.same s3
    refine Ls.call LO rfl rfl rfl rfl rfl (vs := [.agg s.cs.toArray]) rfl (scheck_walk s w3 (h.moved m3) hl) ?_
    rintro _ w4 ⟨rfl, m4⟩
    refine ⟨_, rfl, ?_⟩
    have hb4 : B2 w4 r 34 (.bool s.not) s.v := (hb2.moved ((Mv.refl _ w2).same s3)).moved m4
    have m4 := m3.trans m4
    have bad : s.hasS a_ = false → ∀ w5, Same w4 w5 → ∀ f5, fget f5 4 = some (.bool false) → N 48 f5 w5 (bodyPost Try.prog Try.f23 fun e w' => e = .returned (.bool (s.hasS a_)) ∧ Mv (fun _ => False) w w') .ret := fun e w5 s5 f5 h4 => by
      rw [e]
      exact post LO (rs := [.tmp 4]) rfl (vs := [.bool false]) (.tmp h4 .nil) ⟨rfl, m4.same s5⟩
    cases hck : s.checkS with
    | false =>
      apply Ls.runK LO [1, 2, 18] 9
      · repeat' (first | rfl | with_reducible assumption | assumption | constructor)
      intro w5 f5 s5 hf5
      replace hf5 : f5 = [(1, _), (2, _), (18, _)] := hf5
      subst hf5
      refine Ls.nil (N.to (W.cond (b := true) rfl (fun _ => ?_) (fun h => by cases h)))
      apply W.readS LO mixed [4] (by kernel_rfl)
      · repeat' (first | rfl | with_reducible assumption | assumption | constructor)
      intro w6 f6 s6 hf6
      replace hf6 : f6 = [(4, _)] := hf6
      subst hf6
      exact W.ret (N.thenR (bad (by unfold SetV.hasS; rw [hck]; rfl) _ (s5.trans s6) _ rfl))
    | true =>
      by_cases h0 : a_ < 0
      · have k0 : Kn (decide (a_ < 0)) true := .yes h0
        apply Ls.runK LO [1, 2, 18] 9
        · repeat' (first | rfl | with_reducible assumption | assumption | constructor)
        intro w5 f5 s5 hf5
        replace hf5 : f5 = [(1, _), (2, _), (18, _)] := hf5
        subst hf5
        refine Ls.nil (N.to (W.cond (b := true) rfl (fun _ => ?_) (fun h => by cases h)))
        apply W.readS LO mixed [4] (by kernel_rfl)
        · repeat' (first | rfl | with_reducible assumption | assumption | constructor)
        intro w6 f6 s6 hf6
        replace hf6 : f6 = [(4, _)] := hf6
        subst hf6
        exact W.ret (N.thenR (bad (by unfold SetV.hasS; rw [decide_eq_false (by omega : ¬ 0 ≤ a_), Bool.false_and, Bool.and_false]) _ (s5.trans s6) _ rfl))
      · have k0 : Kn (decide (a_ < 0)) false := .no h0
        by_cases h1 : 65535 < a_
        · have k1 : Kn (decide (65535 < a_)) true := .yes h1
          apply Ls.runK LO [1, 2, 18] 9
          · repeat' (first | rfl | with_reducible assumption | assumption | constructor)
          intro w5 f5 s5 hf5
          replace hf5 : f5 = [(1, _), (2, _), (18, _)] := hf5
          subst hf5
          refine Ls.nil (N.to (W.cond (b := true) rfl (fun _ => ?_) (fun h => by cases h)))
          apply W.readS LO mixed [4] (by kernel_rfl)
          · repeat' (first | rfl | with_reducible assumption | assumption | constructor)
          intro w6 f6 s6 hf6
          replace hf6 : f6 = [(4, _)] := hf6
          subst hf6
          exact W.ret (N.thenR (bad (by unfold SetV.hasS; rw [decide_eq_false (by omega : ¬ a_ ≤ 65535), Bool.false_and, Bool.and_false, Bool.and_false]) _ (s5.trans s6) _ rfl))
        · have k1 : Kn (decide (65535 < a_)) false := .no h1
          apply Ls.runK LO [1, 2, 18] 9
          · repeat' (first | rfl | with_reducible assumption | assumption | constructor)
          intro w5 f5 s5 hf5
          replace hf5 : f5 = [(1, _), (2, _), (18, _)] := hf5
          subst hf5
          refine Ls.nil (N.to (W.cond (b := false) rfl (fun h => by cases h) (fun _ => W.skip ?_)))
          exact N.cut ⟨⟨m4.same s5, hb4.moved ((Mv.refl _ w4).same s5), rfl⟩, rfl, by omega, by omega⟩ (sub_keys rfl)
  clear hb2 m2
  rintro w3 _ ⟨⟨m3, hb3, rfl⟩, hck, ha0, ha1⟩
  obtain ⟨acc0, hacc0⟩ : ∃ b, b = s.l.isEmpty := ⟨_, rfl⟩
  have k1 : Kn ((s.l.length : Int) == 0) acc0 := .of (by
    rw [hacc0]
    cases s.l with
    | nil => rfl
    | cons y t => rw [beq_eq_false_iff_ne.2 (by simp only [List.length_cons]; omega)]; rfl)
  obtain ⟨c0, c1⟩ := hb3.cls
  rw [hv] at c1
  apply W.readS LO mixed [1, 2, 5] (by kernel_rfl)
  · repeat' (first | rfl | with_reducible assumption | assumption | constructor)
  intro w4 f4 s4 hf4
  replace hf4 : f4 = [(1, _), (2, _), (5, _)] := hf4
  subst hf4
  have m4 := m3.same s4
  have hb4 : B2 w4 r 34 (.bool s.not) s.v := hb3.moved ((Mv.refl _ w3).same s4)
  clear c0 c1 hb3 s4 m3 k1
  refine W.cutS (fun w' g => (Mv (fun _ => False) w w' ∧ B2 w' r 34 (.bool s.not) s.v) ∧ g = [(2, .pointer (some ⟨r, 0, none⟩)), (5, .bool (acc0 || s.l.any fun n => inS n a_))]) ?_ ?_
  · obtain ⟨c0, c1⟩ := hb4.cls
    rw [hv] at c1
    apply W.readS LO mixed [1, 2, 5, 24, 25, 26] (by kernel_rfl)
    · repeat' (first | rfl | with_reducible assumption | assumption | constructor)
    intro w5 f5 s5 hf5
    replace hf5 : f5 = [(1, _), (2, _), (5, _), (24, _), (25, _), (26, _)] := hf5
    subst hf5
    have m5 := m4.same s5
    have hb5 : B2 w5 r 34 (.bool s.not) s.v := hb4.moved ((Mv.refl _ w4).same s5)
    clear c0 c1 hb4 m4 s5
    refine W.block (W.loop (fun k w' g => ∃ i : Nat, k + i = s.l.length ∧ Mv (fun _ => False) w w' ∧ B2 w' r 34 (.bool s.not) s.v ∧ g = [(1, .int .i64 a_), (2, .pointer (some ⟨r, 0, none⟩)), (5, .bool (acc0 || (s.l.take i).any fun n => inS n a_)), (24, .slice a s.l.length c), (25, .int .i64 s.l.length), (26, .int .i64 i)]) s.l.length [(1, .int .i64 a_), (2, .pointer (some ⟨r, 0, none⟩)), (5, .bool acc0), (24, .slice a s.l.length c), (25, .int .i64 s.l.length), (26, .int .i64 0)] ⟨0, rfl, m5, hb5, by simp⟩ (sub_keys rfl) ?_)
    clear m5 hb5
    rintro k w5 _ ⟨i, hk, m5, hb5, rfl⟩
    by_cases hlt : i < s.l.length
    · have k1 : Kn (decide ((i : Int) < (s.l.length : Int))) true := .yes (by omega)
      apply W.readS LO mixed [1, 2, 5, 24, 25, 26, 27] (by kernel_rfl)
      · repeat' (first | rfl | with_reducible assumption | assumption | constructor)
      intro w6 f6 s6 hf6
      replace hf6 : f6 = [(1, _), (2, _), (5, _), (24, _), (25, _), (26, _), (27, _)] := hf6
      subst hf6
      have m6 := m5.same s6
      have hb6 : B2 w6 r 34 (.bool s.not) s.v := hb5.moved ((Mv.refl _ w5).same s6)
      clear m5 hb5 s6
      refine W.seq (W.cond (b := true) rfl (fun _ => W.skip (N.to ?_)) (fun h => by cases h))
      obtain ⟨x, hx⟩ : ∃ x, s.l[i]? = some x := ⟨_, List.getElem?_eq_getElem hlt⟩
      have htk : ((s.l.take (i + 1)).any fun n => inS n a_) = (((s.l.take i).any fun n => inS n a_) || inS x a_) := by rw [List.take_add_one, hx]; simp
      obtain ⟨acc, hacc⟩ : ∃ b, b = (acc0 || (s.l.take i).any fun n => inS n a_) := ⟨_, rfl⟩
      rw [← hacc]
      have hnext : (acc0 || (s.l.take (i + 1)).any fun n => inS n a_) = (acc || inS x a_) := by rw [htk, hacc, Bool.or_assoc]
      refine W.cutS (fun w' g => (Mv (fun _ => False) w w' ∧ B2 w' r 34 (.bool s.not) s.v) ∧ g = [(1, .int .i64 a_), (2, .pointer (some ⟨r, 0, none⟩)), (5, .bool (acc || inS x a_)), (24, .slice a s.l.length c), (25, .int .i64 s.l.length), (26, .int .i64 i)]) ?_ ?_
      · refine W.block ?_
        obtain ⟨b, o, c', hv', hcell⟩ := (h.moved m6).at scs_len (by decide) hx
        rw [hv] at hv'
        injection hv' with ea _ ec
        subst ea ec
        have i0 : (0 : Int) ≤ (i : Int) := by omega
        have i1 : (i : Int) < (s.l.length : Int) := by omega
        refine W.seq (W.list ?_)
        apply Ls.runK LO [1, 2, 5, 24, 25, 26, 29] 2
        · repeat' (first | rfl | with_reducible assumption | assumption | constructor)
        intro w7 f7 s7 hf7
        replace hf7 : f7 = [(1, _), (2, _), (5, _), (24, _), (25, _), (26, _), (29, _)] := hf7
        subst hf7
        have m7 := m6.same s7
        have hb7 : B2 w7 r 34 (.bool s.not) s.v := hb6.moved ((Mv.refl _ w6).same s7)
        clear hcell m6 hb6 s7
        refine Ls.alloc LO rfl rfl rfl rfl (zs := [.int .i64 0, .int .i64 0]) rfl ?_
        have hb8 := heap_alloc_new w7 (.cells [Value.int .i64 0, .int .i64 0].toArray 50)
        have m8 : Mv (fun _ => False) w7 (w7.alloc (.cells [Value.int .i64 0, .int .i64 0].toArray 50)) := (Mv.refl _ w7).alloc _
        generalize w7.alloc (.cells [Value.int .i64 0, .int .i64 0].toArray 50) = w8 at hb8 m8
        obtain ⟨q, hq⟩ : ∃ q, q = w7.heap.size := ⟨_, rfl⟩
        rw [← hq] at hb8
        rw [← hq]
        refine Ls.store LO rfl rfl rfl rfl rfl (vs := scs x) rfl rfl rfl hb8 rfl ?_
        intro w9 hb9 m9 _
        have hb9 : B2 w9 q 50 (.int .i64 x.1) (.int .i64 x.2) := hb9
        have m79 : Mv (fun _ => False) w7 w9 := m8.cut m9 fun k hk e => by omega
        have m9 := m7.trans m79
        have hbr := hb7.moved m79
        refine Ls.nil (N.to ?_)
        clear hb8 m8 m7 hq m79 hb7
        obtain ⟨c0, c1⟩ := hb9.cls
        cases acc with
        | true =>
          apply W.readN LO mixed [1, 2, 5, 24, 25, 26] (by kernel_rfl)
          · repeat' (first | rfl | with_reducible assumption | assumption | constructor)
          intro w10 f10 s10 hf10
          replace hf10 : f10 = [(1, _), (2, _), (5, _), (24, _), (25, _), (26, _)] := hf10
          subst hf10
          exact N.inb (N.cut ⟨⟨m9.same s10, hbr.moved ((Mv.refl _ w9).same s10)⟩, rfl⟩ (sub_keys rfl))
        | false =>
          by_cases e0 : x.1 ≤ a_
          · have k2 : Kn (decide (x.1 ≤ a_)) true := .yes e0
            have k3 : Kn (decide (a_ ≤ x.2)) (decide (a_ ≤ x.2)) := .rfl
            have eo : inS x a_ = decide (a_ ≤ x.2) := by unfold inS; rw [decide_eq_true e0, Bool.true_and]
            apply W.readN LO mixed [1, 2, 5, 24, 25, 26] (by kernel_rfl)
            · repeat' (first | rfl | with_reducible assumption | assumption | constructor)
            intro w10 f10 s10 hf10
            replace hf10 : f10 = [(1, _), (2, _), (5, _), (24, _), (25, _), (26, _)] := hf10
            subst hf10
            exact N.inb (N.cut ⟨⟨m9.same s10, hbr.moved ((Mv.refl _ w9).same s10)⟩, rfl⟩ (sub_keys (by rw [eo]; rfl)))
          · have k2 : Kn (decide (x.1 ≤ a_)) false := .no e0
            have eo : inS x a_ = false := by unfold inS; rw [decide_eq_false e0, Bool.false_and]
            apply W.readN LO mixed [1, 2, 5, 24, 25, 26] (by kernel_rfl)
            · repeat' (first | rfl | with_reducible assumption | assumption | constructor)
            intro w10 f10 s10 hf10
            replace hf10 : f10 = [(1, _), (2, _), (5, _), (24, _), (25, _), (26, _)] := hf10
            subst hf10
            exact N.inb (N.cut ⟨⟨m9.same s10, hbr.moved ((Mv.refl _ w9).same s10)⟩, rfl⟩ (sub_keys (by rw [eo]; rfl)))
      · rintro w7 _ ⟨⟨m7, hb7⟩, rfl⟩
        have k5 : Kn (IntKind.i64.wrap ((i : Int) + 1)) ((i + 1 : Nat) : Int) := .of (IntWalk.i64_in _ (by omega))
        apply W.readN LO mixed [1, 2, 5, 24, 25, 26] (by kernel_rfl)
        · repeat' (first | rfl | with_reducible assumption | assumption | constructor)
        intro w8 f8 s8 hf8
        replace hf8 : f8 = [(1, _), (2, _), (5, _), (24, _), (25, _), (26, _)] := hf8
        subst hf8
        exact N.round (k - 1) _ (by omega) ⟨i + 1, by omega, m7.same s8, hb7.moved ((Mv.refl _ w7).same s8), by rw [hnext]⟩ (sub_keys rfl)
    · have k1 : Kn (decide ((i : Int) < (s.l.length : Int))) false := .no (by omega)
      apply W.readS LO mixed [2, 5, 27] (by kernel_rfl)
      · repeat' (first | rfl | with_reducible assumption | assumption | constructor)
      intro w6 f6 s6 hf6
      replace hf6 : f6 = [(2, _), (5, _), (27, _)] := hf6
      subst hf6
      refine W.seq (W.cond (b := false) rfl (fun h => by cases h) (fun _ => W.exit ?_))
      rw [List.take_of_length_le (by omega)]
      exact N.thenE (N.thenE (N.out (N.cut ⟨⟨m5.same s6, hb5.moved ((Mv.refl _ w5).same s6)⟩, rfl⟩ (sub_keys rfl))))
  rintro w5 _ ⟨⟨m5, hb5⟩, rfl⟩
  obtain ⟨c0, c1⟩ := hb5.cls
  obtain ⟨b1, hb1⟩ : ∃ b1, b1 = (acc0 || s.l.any fun n => inS n a_) := ⟨_, rfl⟩
  rw [← hb1]
  have k2 : Kn (b1 == s.not) (b1 == s.not) := .rfl
  apply W.readS LO mixed [4] (by kernel_rfl)
  · repeat' (first | rfl | with_reducible assumption | assumption | constructor)
  intro w6 f6 s6 hf6
  replace hf6 : f6 = [(4, _)] := hf6
  subst hf6
  refine W.ret (post LO (rs := [.tmp 4]) rfl (vs := [.bool (!(b1 == s.not))]) (.tmp rfl .nil) ⟨?_, m5.same s6⟩)
  have e : s.hasS a_ = !(b1 == s.not) := by unfold SetV.hasS; rw [hck, ← hacc0, hb1, decide_eq_true ha0, decide_eq_true ha1]; rfl
  rw [e]
  rfl
end Go.Proofs.Ytbbafhpnlmmjjaa
