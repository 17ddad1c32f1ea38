/- What is proved: the reference's Check. Conditions: those that stand in each theorem. -/
import Derived.Test.YtbbafhpnlmmjjaaGrpRef2
namespace Go.Proofs.Ytbbafhpnlmmjjaa
set_option linter.unusedVariables false
set_option linter.unusedSimpArgs false
set_option linter.unusedSectionVars false
open Go.RowKit Fw
set_option maxRecDepth 100000 in
set_option maxHeartbeats 4000000 in
theorem rcheck_walk (s : SetV) (w : World) (h : NetsAt w s) (hl : s.l.length ≤ 1000000000) : Calls Try.prog 26 #[.agg s.cs.toArray] w fun e w' => e = .returned (.bool s.check) ∧ Mv (fun _ => False) w w' := by
  refine calls_W (n := 31) (vs := [.agg s.cs.toArray]) Try.func26 rfl rfl rfl ?_
  refine W.seq (W.list ?_)
  obtain ⟨hv1, hv2⟩ := h.one
  refine Ls.box rfl rfl rfl rfl rfl (vs := s.cs) rfl ?_
  have hb1 : B2 (w.alloc (.cells s.cs.toArray 31)) w.heap.size 31 (.bool s.not) s.v := heap_alloc_new w (.cells s.cs.toArray 31)
  have m1 : Mv (fun _ => False) w (w.alloc (.cells s.cs.toArray 31)) := (Mv.refl _ w).alloc _
  generalize w.alloc (.cells s.cs.toArray 31) = w1 at hb1 m1
  obtain ⟨r, hr⟩ : ∃ r, r = w.heap.size := ⟨_, rfl⟩
  rw [← hr] at hb1
  rw [← hr]
  apply Ls.runK LO [1] 1
  · repeat' (first | rfl | with_reducible assumption | assumption | constructor)
  intro w2 f2 s2 hf2
  replace hf2 : f2 = [(1, _)] := hf2
  subst hf2
  refine Ls.nil (N.to ?_)
  have hb2 : B2 w2 r 31 (.bool s.not) s.v := by unfold B2; rw [s2.heap]; exact hb1
  have m2 := m1.same s2
  clear m1 s2 hb1
  obtain ⟨a, c, hv⟩ := h.len
  refine W.cutS (fun w' g => (Mv (fun _ => False) w w' ∧ B2 w' r 31 (.bool s.not) s.v ∧ g = [(1, .pointer (some ⟨r, 0, none⟩))]) ∧ s.l.all okN = true) ?_ ?_
  ·
    apply W.readS LO mixed [1, 3] (by kernel_rfl)
    · repeat' (first | rfl | with_reducible assumption | assumption | constructor)
    intro w3 f3 s3 hf3
    replace hf3 : f3 = [(1, _), (3, _)] := hf3
    subst hf3
    refine W.block (W.loop (fun k w' g => ∃ i : Nat, k + i = s.l.length ∧ Mv (fun _ => False) w w' ∧ B2 w' r 31 (.bool s.not) s.v ∧ (s.l.take i).all okN = true ∧ g = [(1, .pointer (some ⟨r, 0, none⟩)), (3, .int .i64 i)]) s.l.length _ ⟨0, rfl, m2.same s3, hb2.moved ((Mv.refl _ w2).same s3), by simp, rfl⟩ (sub_keys rfl) ?_)
    clear m2 hb2 s3
    rintro k w4 _ ⟨i, hk, m4, hb4, hall, rfl⟩
    obtain ⟨c0, c1⟩ := hb4.cls
    rw [hv] at c1
    by_cases hlt : i < s.l.length
    · have k1 : Kn (decide ((i : Int) < (s.l.length : Int))) true := .yes (by omega)
      refine W.seq ?_
      apply W.readS LO mixed [1, 3, 8] (by kernel_rfl)
      · repeat' (first | rfl | with_reducible assumption | assumption | constructor)
      intro w5 f5 s5 hf5
      replace hf5 : f5 = [(1, _), (3, _), (8, _)] := hf5
      subst hf5
      have m5 := m4.same s5
      have hb5 : B2 w5 r 31 (.bool s.not) s.v := hb4.moved ((Mv.refl _ w4).same s5)
      clear c0 c1 m4 hb4 s5
      refine W.cond (b := true) rfl (fun _ => W.skip (N.to ?_)) (fun h => by cases h)
      obtain ⟨x, hx⟩ : ∃ x, s.l[i]? = some x := ⟨_, List.getElem?_eq_getElem hlt⟩
      have htk : (s.l.take (i + 1)).all okN = ((s.l.take i).all okN && okN x) := by rw [List.take_add_one, hx]; simp
      rw [hall, Bool.true_and] at htk
      refine W.cutS (fun w' g => (Mv (fun _ => False) w w' ∧ B2 w' r 31 (.bool s.not) s.v ∧ g = [(1, .pointer (some ⟨r, 0, none⟩)), (3, .int .i64 i)]) ∧ okN x = true) ?_ ?_
      · refine W.block ?_
        obtain ⟨b, o, c', hv', hcell⟩ := (h.moved m5).at ncs_len (by decide) hx
        obtain ⟨c0, c1⟩ := hb5.cls
        rw [hv'] at c1
        have i0 : (0 : Int) ≤ (i : Int) := by omega
        have i1 : (i : Int) < (s.l.length : Int) := by omega
        have cx : Cl w5 ⟨b, o + (i : Int).toNat * 2 + 1, none⟩ (.int .i64 x.2) := ⟨hcell.get 1 _ rfl⟩
        refine W.cutS (fun w' g => Same w5 w' ∧ g = [(1, .pointer (some ⟨r, 0, none⟩)), (3, .int .i64 i), (26, .bool (!okN x))]) ?_ ?_
        · by_cases e0 : x.2 < 0
          · have k2 : Kn (decide (x.2 < 0)) true := .yes e0
            have eo : okN x = false := by unfold okN; rw [decide_eq_false (by omega : ¬ 0 ≤ x.2), Bool.false_and]
            rw [eo]
            apply W.readN LO mixed [1, 3, 26] (by kernel_rfl)
            · repeat' (first | rfl | with_reducible assumption | assumption | constructor)
            intro w6 f6 s6 hf6
            replace hf6 : f6 = [(1, _), (3, _), (26, _)] := hf6
            subst hf6
            exact N.cut ⟨s6, rfl⟩ (sub_keys rfl)
          · have k2 : Kn (decide (x.2 < 0)) false := .no e0
            by_cases e1 : 32 < x.2
            · have k3 : Kn (decide (32 < x.2)) true := .yes e1
              have eo : okN x = false := by unfold okN; rw [decide_eq_false (by omega : ¬ x.2 ≤ 32), Bool.and_false]
              rw [eo]
              apply W.readN LO mixed [1, 3, 26] (by kernel_rfl)
              · repeat' (first | rfl | with_reducible assumption | assumption | constructor)
              intro w6 f6 s6 hf6
              replace hf6 : f6 = [(1, _), (3, _), (26, _)] := hf6
              subst hf6
              exact N.cut ⟨s6, rfl⟩ (sub_keys rfl)
            · have k3 : Kn (decide (32 < x.2)) false := .no e1
              have eo : okN x = true := by unfold okN; rw [decide_eq_true (by omega : 0 ≤ x.2), decide_eq_true (by omega : x.2 ≤ 32)]; rfl
              rw [eo]
              apply W.readN LO mixed [1, 3, 26] (by kernel_rfl)
              · repeat' (first | rfl | with_reducible assumption | assumption | constructor)
              intro w6 f6 s6 hf6
              replace hf6 : f6 = [(1, _), (3, _), (26, _)] := hf6
              subst hf6
              exact N.cut ⟨s6, rfl⟩ (sub_keys rfl)
        rintro w6 _ ⟨s6, rfl⟩
        obtain ⟨ok, hok⟩ : ∃ ok, ok = okN x := ⟨_, rfl⟩
        rw [← hok]
        cases ok with
        | false =>
          refine W.cond (b := true) rfl (fun _ => ?_) (fun h => by cases h)
          apply W.readS LO mixed [2] (by kernel_rfl)
          · repeat' (first | rfl | with_reducible assumption | assumption | constructor)
          intro w7 f7 s7 hf7
          replace hf7 : f7 = [(2, _)] := hf7
          subst hf7
          have e : s.check = false := by
            unfold SetV.check
            have : s.l.all okN = false := by
              rw [List.all_eq_false]
              exact ⟨x, List.mem_of_getElem? hx, by rw [← hok]; decide⟩
            rw [this, Bool.and_false]
          rw [e]
          refine W.ret (N.inbR (N.thenR ?_))
          exact post (fn := Try.f26) (R := fun e w' => e = .returned (.bool false) ∧ Mv (fun _ => False) w w') LO (rs := [.tmp 2]) rfl (vs := [.bool false]) (.tmp rfl .nil) ⟨rfl, (m5.same s6).same s7⟩
        | true =>
          refine W.cond (b := false) rfl (fun h => by cases h) (fun _ => W.skip ?_)
          exact N.inb (N.cut ⟨⟨m5.same s6, hb5.moved ((Mv.refl _ w5).same s6), rfl⟩, rfl⟩ (sub_keys rfl))
      · rintro w6 _ ⟨⟨m6, hb6, rfl⟩, hok⟩
        have k5 : Kn (IntKind.i64.wrap ((i : Int) + 1)) ((i + 1 : Nat) : Int) := .of (IntWalk.i64_in _ (by omega))
        apply W.readN LO mixed [1, 3] (by kernel_rfl)
        · repeat' (first | rfl | with_reducible assumption | assumption | constructor)
        intro w7 f7 s7 hf7
        replace hf7 : f7 = [(1, _), (3, _)] := hf7
        subst hf7
        exact N.round (k - 1) _ (by omega) ⟨i + 1, by omega, m6.same s7, hb6.moved ((Mv.refl _ w6).same s7), htk.trans hok, rfl⟩ (sub_keys rfl)
    · have k1 : Kn (decide ((i : Int) < (s.l.length : Int))) false := .no (by omega)
      refine W.seq ?_
      apply W.readS LO mixed [1, 8] (by kernel_rfl)
      · repeat' (first | rfl | with_reducible assumption | assumption | constructor)
      intro w5 f5 s5 hf5
      replace hf5 : f5 = [(1, _), (8, _)] := hf5
      subst hf5
      rw [List.take_of_length_le (by omega)] at hall
      refine W.cond (b := false) rfl (fun h => by cases h) (fun _ => W.exit ?_)
      exact N.thenE (N.thenE (N.out (N.cut ⟨⟨m4.same s5, hb4.moved ((Mv.refl _ w4).same s5), rfl⟩, hall⟩ (sub_keys rfl))))
  clear m2 hb2
  rintro w3 _ ⟨⟨m3, hb3, rfl⟩, hall⟩
  obtain ⟨c0, c1⟩ := hb3.cls
  rw [hv] at c1
  have k1 : Kn (decide ((s.l.length : Int) ≤ 4)) (decide (s.l.length ≤ 4)) := .of (decide_eq_decide.2 (by omega))
  apply W.readS LO mixed [2] (by kernel_rfl)
  · repeat' (first | rfl | with_reducible assumption | assumption | constructor)
  intro w4 f4 s4 hf4
  replace hf4 : f4 = [(2, _)] := hf4
  subst hf4
  have e : s.check = decide (s.l.length ≤ 4) := by unfold SetV.check; rw [hall, Bool.and_true]
  rw [e]
  exact W.ret (post LO (rs := [.tmp 2]) rfl (vs := [.bool (decide (s.l.length ≤ 4))]) (.tmp rfl .nil) ⟨rfl, m3.same s4⟩)
end Go.Proofs.Ytbbafhpnlmmjjaa
