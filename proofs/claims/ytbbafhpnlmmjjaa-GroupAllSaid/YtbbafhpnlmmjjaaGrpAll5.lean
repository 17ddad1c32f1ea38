/- What is proved: few rules, the same numbers, the reference's Pick. Conditions: those that stand in each theorem. -/
import Derived.Test.YtbbafhpnlmmjjaaGrpAll4
import Derived.Test.YtbbafhpnlmmjjaaGrpRules
namespace Go.Proofs.Ytbbafhpnlmmjjaa
set_option linter.unusedVariables false
set_option linter.unusedSimpArgs false
set_option linter.unusedSectionVars false
open Go.RowKit Fw
/-- A rule with its contents. -/
structure RuleX where
  r : RuleV
  cl : List ContV
def RuleX.cs (x : RuleX) : List Value := x.r.cs
theorem xcs_len (x : RuleX) : x.cs.length = 15 := rfl
structure RuleX0 (w : World) (x : RuleX) : Prop where
  fn : NetsAt w x.r.fn
  fp : SpansAt w x.r.fp
  tn : NetsAt w x.r.tn
  tp : SpansAt w x.r.tp
  cv : Rd w 8 x.r.cv x.cl.length (x.cl.flatMap ContV.cs)
  u : RuleU x.r
theorem RuleX0.moved {w w' : World} {x : RuleX} (h : RuleX0 w x) (m : Mv (fun _ => False) w w') : RuleX0 w' x := ⟨Rd.moved h.fn m, Rd.moved h.fp m, Rd.moved h.tn m, Rd.moved h.tp m, h.cv.moved m, h.u⟩
structure FewX (x : RuleX) : Prop where
  fn : x.r.fn.l.length ≤ 6
  fp : x.r.fp.l.length ≤ 6
  tn : x.r.tn.l.length ≤ 6
  tp : x.r.tp.l.length ≤ 6
  cl : x.cl.length ≤ 6
theorem RuleX0.at {w : World} {x : RuleX} (h : RuleX0 w x) (f : FewX x) : RuleAt w x.r := by
  obtain ⟨a, c, e⟩ := h.cv.len
  obtain ⟨f1, f2, f3, f4, _⟩ := f
  exact ⟨h.fn, h.fp, h.tn, h.tp, ⟨a, _, c, e⟩, by omega, by omega, by omega, by omega⟩
def RulesX (w : World) (v : Value) (l : List RuleX) : Prop := Rd w 15 v l.length (l.flatMap RuleX.cs) ∧ ∀ x ∈ l, RuleX0 w x
theorem RulesX.moved {w w' : World} {v : Value} {l : List RuleX} (h : RulesX w v l) (m : Mv (fun _ => False) w w') : RulesX w' v l := ⟨h.1.moved m, fun r hr => (h.2 r hr).moved m⟩
theorem RulesX.at {w : World} {v : Value} {l : List RuleX} (h : RulesX w v l) (f : ∀ x ∈ l, FewX x) : RulesAt w v (l.map (·.r)) := by
  refine ⟨?_, fun r hr => ?_⟩
  · have e : ∀ l : List RuleX, (l.map (·.r)).flatMap RuleV.cs = l.flatMap RuleX.cs := fun l => by
      induction l with
      | nil => rfl
      | cons x l ih => rw [List.map_cons, List.flatMap_cons, List.flatMap_cons, ih]; rfl
    rw [e, List.length_map]
    exact h.1
  · obtain ⟨x, hx, rfl⟩ := List.mem_map.1 hr
    exact (h.2 x hx).at (f x hx)
def FewPost (w : World) (l : List RuleX) (e : Ending) (w' : World) : Prop := ∃ b, e = .returned (.bool b) ∧ Same w w' ∧ (b = true → l.length ≤ 50 ∧ ∀ x ∈ l, FewX x)
set_option maxRecDepth 100000 in
set_option maxHeartbeats 8000000 in
theorem few_walk (v : Value) (l : List RuleX) (w : World) (h : RulesX w v l) : Calls Try.prog 7 #[v] w (FewPost w l) := by
  obtain ⟨a, c, hv⟩ := h.1.len
  subst hv
  refine calls_W (n := 86) (vs := [.slice a l.length c]) Try.func7 rfl rfl rfl ?_
  have HS : ∀ w', Same w w' → RulesX w' (.slice a l.length c) l := fun w' s => h.moved ((Mv.refl _ w).same s)
  have bad : ∀ w', Same w w' → ∀ f, fget f 2 = some (.bool false) → N 86 f w' (bodyPost Try.prog Try.f7 (FewPost w l)) .ret := fun w' s f hf =>
    post LO (rs := [.tmp 2]) rfl (vs := [.bool false]) (.tmp hf .nil) ⟨false, rfl, s, fun e => by cases e⟩
  apply W.readS LO mixed [0] (by kernel_rfl)
  · repeat' (first | rfl | with_reducible assumption | assumption | constructor)
  intro w1 f1 s1 hf1
  replace hf1 : f1 = [(0, _)] := hf1
  subst hf1
  refine W.cutS (fun w' g => (Same w w' ∧ (l.length ≤ 50 → ∀ x ∈ l, FewX x)) ∧ g = [(0, .slice a l.length c)]) ?_ ?_
  ·
    apply W.readS LO mixed [0, 3] (by kernel_rfl)
    · repeat' (first | rfl | with_reducible assumption | assumption | constructor)
    intro w2 f2 s2 hf2
    replace hf2 : f2 = [(0, _), (3, _)] := hf2
    subst hf2
    refine W.block (W.loop (fun k w' g => ∃ i : Nat, k + i = 50 ∧ Same w w' ∧ (∀ j x, j < i → l[j]? = some x → FewX x) ∧ g = [(0, .slice a l.length c), (3, .int .i64 i)]) 50 _ ⟨0, rfl, s1.trans s2, fun j x hj => absurd hj (Nat.not_lt_zero j), rfl⟩ (sub_keys rfl) ?_)
    clear s1 s2
    rintro k w3 _ ⟨i, hk, s3, hfew, rfl⟩
    by_cases hlt : i < l.length
    · have k1 : Kn (decide ((i : Int) < (l.length : Int))) true := .yes (by omega)
      by_cases h50 : i < 50
      · have k2 : Kn (decide ((i : Int) < 50)) true := .yes (by omega)
        refine W.seq ?_
        apply W.readS LO mixed [0, 3, 12] (by kernel_rfl)
        · repeat' (first | rfl | with_reducible assumption | assumption | constructor)
        intro w4 f4 s4 hf4
        replace hf4 : f4 = [(0, _), (3, _), (12, _)] := hf4
        subst hf4
        have s4 := s3.trans s4
        clear s3 k1 k2
        refine W.cond (b := true) rfl (fun _ => W.skip (N.to ?_)) (fun h => by cases h)
        obtain ⟨x, hx⟩ : ∃ x, l[i]? = some x := ⟨_, List.getElem?_eq_getElem hlt⟩
        have hxl := List.mem_of_getElem? hx
        obtain ⟨a1, c1, e1⟩ := (h.2 x hxl).cv.len
        obtain ⟨a2, c2, e2⟩ := (h.2 x hxl).fn.len
        obtain ⟨a3, c3, e3⟩ := (h.2 x hxl).tn.len
        obtain ⟨a4, c4, e4⟩ := (h.2 x hxl).fp.len
        obtain ⟨a5, c5, e5⟩ := (h.2 x hxl).tp.len
        obtain ⟨b, o, c', hv', _⟩ := h.1.at xcs_len (by decide) hx
        injection hv' with ea _ ec
        subst ea ec
        have i0 : (0 : Int) ≤ (i : Int) := by omega
        have i1 : (i : Int) < (l.length : Int) := by omega
        have E : ∀ w', Same w w' → CellsAt w' b (o + (i : Int).toNat * 15) 15 x.cs := fun w' s => by
          obtain ⟨b', o', c', hv', hc⟩ := (HS w' s).1.at xcs_len (by decide) hx
          injection hv' with e1 _ _
          injection e1 with e1
          injection e1 with e2 e3 _
          rw [e2, e3]; exact hc
        have E1 : ∀ w', Same w w' → Cl w' ⟨b, o + (i : Int).toNat * 15 + 12, none⟩ (.slice a1 x.cl.length c1) := fun w' s => ⟨by rw [← e1]; exact (E w' s).get 12 _ rfl⟩
        refine W.cutS (fun w' g => (Same w w' ∧ FewX x) ∧ g = [(0, .slice (some ⟨b, o, none⟩) l.length c), (3, .int .i64 i)]) ?_ ?_
        · refine W.block ?_
          refine W.cutS (fun w' g => (Same w w' ∧ FewX x) ∧ g = [(0, .slice (some ⟨b, o, none⟩) l.length c), (3, .int .i64 i)]) ?_ ?_
          · have d1 := E1 w4 s4
            have d2 : Cl w4 ⟨b, o + (i : Int).toNat * 15 + 2 + 1, none⟩ (.slice a2 x.r.fn.l.length c2) := ⟨by rw [← e2]; exact (E w4 s4).get 3 _ rfl⟩
            have d3 : Cl w4 ⟨b, o + (i : Int).toNat * 15 + 6 + 1, none⟩ (.slice a3 x.r.tn.l.length c3) := ⟨by rw [← e3]; exact (E w4 s4).get 7 _ rfl⟩
            have d4 : Cl w4 ⟨b, o + (i : Int).toNat * 15 + 4 + 1, none⟩ (.slice a4 x.r.fp.l.length c4) := ⟨by rw [← e4]; exact (E w4 s4).get 5 _ rfl⟩
            have d5 : Cl w4 ⟨b, o + (i : Int).toNat * 15 + 8 + 1, none⟩ (.slice a5 x.r.tp.l.length c5) := ⟨by rw [← e5]; exact (E w4 s4).get 9 _ rfl⟩
            by_cases f1 : 6 < x.cl.length
            · have q1 : Kn (decide (6 < (x.cl.length : Int))) true := .yes (by omega)
              apply W.readS LO mixed [61] (by kernel_rfl)
              · repeat' (first | rfl | with_reducible assumption | assumption | constructor)
              intro w5 f5 s5 hf5
              replace hf5 : f5 = [(61, _)] := hf5
              subst hf5
              refine W.cond (b := true) rfl (fun _ => ?_) (fun h => by cases h)
              apply W.readS LO mixed [2] (by kernel_rfl)
              · repeat' (first | rfl | with_reducible assumption | assumption | constructor)
              intro w6 f6 s6 hf6
              replace hf6 : f6 = [(2, _)] := hf6
              subst hf6
              exact W.ret (bad _ ((s4.trans s5).trans s6) _ rfl)
            · have q1 : Kn (decide (6 < (x.cl.length : Int))) false := .no (by omega)
              by_cases f2 : 6 < x.r.fn.l.length
              · have q2 : Kn (decide (6 < (x.r.fn.l.length : Int))) true := .yes (by omega)
                apply W.readS LO mixed [61] (by kernel_rfl)
                · repeat' (first | rfl | with_reducible assumption | assumption | constructor)
                intro w5 f5 s5 hf5
                replace hf5 : f5 = [(61, _)] := hf5
                subst hf5
                refine W.cond (b := true) rfl (fun _ => ?_) (fun h => by cases h)
                apply W.readS LO mixed [2] (by kernel_rfl)
                · repeat' (first | rfl | with_reducible assumption | assumption | constructor)
                intro w6 f6 s6 hf6
                replace hf6 : f6 = [(2, _)] := hf6
                subst hf6
                exact W.ret (bad _ ((s4.trans s5).trans s6) _ rfl)
              · have q2 : Kn (decide (6 < (x.r.fn.l.length : Int))) false := .no (by omega)
                by_cases f3 : 6 < x.r.tn.l.length
                · have q3 : Kn (decide (6 < (x.r.tn.l.length : Int))) true := .yes (by omega)
                  apply W.readS LO mixed [61] (by kernel_rfl)
                  · repeat' (first | rfl | with_reducible assumption | assumption | constructor)
                  intro w5 f5 s5 hf5
                  replace hf5 : f5 = [(61, _)] := hf5
                  subst hf5
                  refine W.cond (b := true) rfl (fun _ => ?_) (fun h => by cases h)
                  apply W.readS LO mixed [2] (by kernel_rfl)
                  · repeat' (first | rfl | with_reducible assumption | assumption | constructor)
                  intro w6 f6 s6 hf6
                  replace hf6 : f6 = [(2, _)] := hf6
                  subst hf6
                  exact W.ret (bad _ ((s4.trans s5).trans s6) _ rfl)
                · have q3 : Kn (decide (6 < (x.r.tn.l.length : Int))) false := .no (by omega)
                  by_cases f4 : 6 < x.r.fp.l.length
                  · have q4 : Kn (decide (6 < (x.r.fp.l.length : Int))) true := .yes (by omega)
                    apply W.readS LO mixed [61] (by kernel_rfl)
                    · repeat' (first | rfl | with_reducible assumption | assumption | constructor)
                    intro w5 f5 s5 hf5
                    replace hf5 : f5 = [(61, _)] := hf5
                    subst hf5
                    refine W.cond (b := true) rfl (fun _ => ?_) (fun h => by cases h)
                    apply W.readS LO mixed [2] (by kernel_rfl)
                    · repeat' (first | rfl | with_reducible assumption | assumption | constructor)
                    intro w6 f6 s6 hf6
                    replace hf6 : f6 = [(2, _)] := hf6
                    subst hf6
                    exact W.ret (bad _ ((s4.trans s5).trans s6) _ rfl)
                  · have q4 : Kn (decide (6 < (x.r.fp.l.length : Int))) false := .no (by omega)
                    by_cases f5 : 6 < x.r.tp.l.length
                    · have q5 : Kn (decide (6 < (x.r.tp.l.length : Int))) true := .yes (by omega)
                      apply W.readS LO mixed [61] (by kernel_rfl)
                      · repeat' (first | rfl | with_reducible assumption | assumption | constructor)
                      intro w5 g5 s5 hg5
                      replace hg5 : g5 = [(61, _)] := hg5
                      subst hg5
                      refine W.cond (b := true) rfl (fun _ => ?_) (fun h => by cases h)
                      apply W.readS LO mixed [2] (by kernel_rfl)
                      · repeat' (first | rfl | with_reducible assumption | assumption | constructor)
                      intro w6 g6 s6 hg6
                      replace hg6 : g6 = [(2, _)] := hg6
                      subst hg6
                      exact W.ret (bad _ ((s4.trans s5).trans s6) _ rfl)
                    · have q5 : Kn (decide (6 < (x.r.tp.l.length : Int))) false := .no (by omega)
                      apply W.readS LO mixed [0, 3, 61] (by kernel_rfl)
                      · repeat' (first | rfl | with_reducible assumption | assumption | constructor)
                      intro w5 g5 s5 hg5
                      replace hg5 : g5 = [(0, _), (3, _), (61, _)] := hg5
                      subst hg5
                      refine W.cond (b := false) rfl (fun h => by cases h) (fun _ => W.skip ?_)
                      exact N.cut ⟨⟨s4.trans s5, ⟨by omega, by omega, by omega, by omega, by omega⟩⟩, rfl⟩ (sub_keys rfl)
          clear s4
          rintro w5 _ ⟨⟨s5, hF⟩, rfl⟩
          apply W.readS LO mixed [0, 3, 4] (by kernel_rfl)
          · repeat' (first | rfl | with_reducible assumption | assumption | constructor)
          intro w6 f6 s6 hf6
          replace hf6 : f6 = [(0, _), (3, _), (4, _)] := hf6
          subst hf6
          have s6 := s5.trans s6
          have hcl := hF.cl
          refine W.block (W.loop (fun k w' g => ∃ j : Nat, k + j = x.cl.length ∧ Same w w' ∧ g = [(0, .slice (some ⟨b, o, none⟩) l.length c), (3, .int .i64 i), (4, .int .i64 j)]) x.cl.length _ ⟨0, rfl, s6, rfl⟩ (sub_keys rfl) ?_)
          clear s5 s6
          rintro k' w7 _ ⟨j, hkj, s7, rfl⟩
          have d1 := E1 w7 s7
          by_cases hjl : j < x.cl.length
          · have q1 : Kn (decide ((j : Int) < (x.cl.length : Int))) true := .yes (by omega)
            refine W.seq ?_
            apply W.readS LO mixed [0, 3, 4, 69] (by kernel_rfl)
            · repeat' (first | rfl | with_reducible assumption | assumption | constructor)
            intro w8 f8 s8 hf8
            replace hf8 : f8 = [(0, _), (3, _), (4, _), (69, _)] := hf8
            subst hf8
            have s8 := s7.trans s8
            clear s7 d1
            refine W.cond (b := true) rfl (fun _ => W.skip (N.to ?_)) (fun h => by cases h)
            obtain ⟨y, hy⟩ : ∃ y, x.cl[j]? = some y := ⟨_, List.getElem?_eq_getElem hjl⟩
            refine W.cutS (fun w' g => Same w w' ∧ g = [(0, .slice (some ⟨b, o, none⟩) l.length c), (3, .int .i64 i), (4, .int .i64 j)]) ?_ ?_
            · refine W.block ?_
              have d1 := E1 w8 s8
              obtain ⟨bc, oc, cc, hcv, hcc⟩ := ((HS w8 s8).2 x hxl).cv.at ccs_len (by decide) hy
              rw [e1] at hcv
              injection hcv with ea _ ec
              subst ea ec
              have j0 : (0 : Int) ≤ (j : Int) := by omega
              have j1 : (j : Int) < (x.cl.length : Int) := by omega
              have d2 : Cl w8 ⟨bc, oc + (j : Int).toNat * 8 + 0, none⟩ (.string y.bytes) := ⟨hcc.get 0 _ rfl⟩
              by_cases hb : 30 < y.bytes.size
              · have q2 : Kn (decide (30 < (y.bytes.size : Int))) true := .yes (by omega)
                apply W.readS LO mixed [82] (by kernel_rfl)
                · repeat' (first | rfl | with_reducible assumption | assumption | constructor)
                intro w9 f9 s9 hf9
                replace hf9 : f9 = [(82, _)] := hf9
                subst hf9
                refine W.cond (b := true) rfl (fun _ => ?_) (fun h => by cases h)
                apply W.readS LO mixed [2] (by kernel_rfl)
                · repeat' (first | rfl | with_reducible assumption | assumption | constructor)
                intro w10 f10 s10 hf10
                replace hf10 : f10 = [(2, _)] := hf10
                subst hf10
                exact W.ret (bad _ ((s8.trans s9).trans s10) _ rfl)
              · have q2 : Kn (decide (30 < (y.bytes.size : Int))) false := .no (by omega)
                apply W.readS LO mixed [0, 3, 4, 82] (by kernel_rfl)
                · repeat' (first | rfl | with_reducible assumption | assumption | constructor)
                intro w9 f9 s9 hf9
                replace hf9 : f9 = [(0, _), (3, _), (4, _), (82, _)] := hf9
                subst hf9
                refine W.cond (b := false) rfl (fun h => by cases h) (fun _ => W.skip ?_)
                exact N.inb (N.cut ⟨s8.trans s9, rfl⟩ (sub_keys rfl))
            clear s8
            rintro w9 _ ⟨s9, rfl⟩
            have k5 : Kn (IntKind.i64.wrap ((j : Int) + 1)) ((j + 1 : Nat) : Int) := .of (IntWalk.i64_in _ (by omega))
            apply W.readN LO mixed [0, 3, 4] (by kernel_rfl)
            · repeat' (first | rfl | with_reducible assumption | assumption | constructor)
            intro w10 f10 s10 hf10
            replace hf10 : f10 = [(0, _), (3, _), (4, _)] := hf10
            subst hf10
            exact N.round (k' - 1) _ (by omega) ⟨j + 1, by omega, s9.trans s10, rfl⟩ (sub_keys rfl)
          · have q1 : Kn (decide ((j : Int) < (x.cl.length : Int))) false := .no (by omega)
            refine W.seq ?_
            apply W.readS LO mixed [0, 3, 69] (by kernel_rfl)
            · repeat' (first | rfl | with_reducible assumption | assumption | constructor)
            intro w8 f8 s8 hf8
            replace hf8 : f8 = [(0, _), (3, _), (69, _)] := hf8
            subst hf8
            refine W.cond (b := false) rfl (fun h => by cases h) (fun _ => W.exit ?_)
            exact N.thenE (N.thenE (N.out (N.inb (N.cut ⟨⟨s7.trans s8, hF⟩, rfl⟩ (sub_keys rfl)))))
        · clear s4
          rintro w5 _ ⟨⟨s5, hF⟩, rfl⟩
          have k5 : Kn (IntKind.i64.wrap ((i : Int) + 1)) ((i + 1 : Nat) : Int) := .of (IntWalk.i64_in _ (by omega))
          apply W.readN LO mixed [0, 3] (by kernel_rfl)
          · repeat' (first | rfl | with_reducible assumption | assumption | constructor)
          intro w6 f6 s6 hf6
          replace hf6 : f6 = [(0, _), (3, _)] := hf6
          subst hf6
          refine N.round (k - 1) _ (by omega) ⟨i + 1, by omega, s5.trans s6, fun j y hj hy => ?_, rfl⟩ (sub_keys rfl)
          by_cases e : j = i
          · subst e
            rw [hx] at hy
            rw [← Option.some.inj hy]; exact hF
          · exact hfew j y (by omega) hy
      · have k2 : Kn (decide ((i : Int) < 50)) false := .no (by omega)
        refine W.seq ?_
        apply W.readS LO mixed [0, 12] (by kernel_rfl)
        · repeat' (first | rfl | with_reducible assumption | assumption | constructor)
        intro w4 f4 s4 hf4
        replace hf4 : f4 = [(0, _), (12, _)] := hf4
        subst hf4
        refine W.cond (b := false) rfl (fun h => by cases h) (fun _ => W.exit ?_)
        exact N.thenE (N.thenE (N.out (N.cut ⟨⟨s3.trans s4, fun hl => absurd hlt (by omega)⟩, rfl⟩ (sub_keys rfl))))
    · have k1 : Kn (decide ((i : Int) < (l.length : Int))) false := .no (by omega)
      refine W.seq ?_
      apply W.readS LO mixed [0, 12] (by kernel_rfl)
      · repeat' (first | rfl | with_reducible assumption | assumption | constructor)
      intro w4 f4 s4 hf4
      replace hf4 : f4 = [(0, _), (12, _)] := hf4
      subst hf4
      refine W.cond (b := false) rfl (fun h => by cases h) (fun _ => W.exit ?_)
      refine N.thenE (N.thenE (N.out (N.cut ⟨⟨s3.trans s4, fun _ x hx => ?_⟩, rfl⟩ (sub_keys rfl))))
      obtain ⟨j, hj, rfl⟩ := List.mem_iff_getElem.1 hx
      exact hfew j _ (by omega) (List.getElem?_eq_getElem hj)
  clear s1
  rintro w2 _ ⟨⟨s2, hall⟩, rfl⟩
  have k1 : Kn (decide ((l.length : Int) ≤ 50)) (decide (l.length ≤ 50)) := .of (decide_eq_decide.2 (by omega))
  apply W.readS LO mixed [2] (by kernel_rfl)
  · repeat' (first | rfl | with_reducible assumption | assumption | constructor)
  intro w3 f3 s3 hf3
  replace hf3 : f3 = [(2, _)] := hf3
  subst hf3
  exact W.ret (post LO (rs := [.tmp 2]) rfl (vs := [.bool (decide (l.length ≤ 50))]) (.tmp rfl .nil) ⟨_, rfl, s2.trans s3, fun e => ⟨of_decide_eq_true e, hall (of_decide_eq_true e)⟩⟩)
/-! ### the same numbers -/
def RdI (w : World) (v : Value) (l : List Int) : Prop := Rd w 1 v l.length (l.flatMap fun n => [Value.int .i64 n])
theorem map_flat (l : List Int) : l.flatMap (fun n => [Value.int .i64 n]) = l.map (Value.int .i64) := by
  induction l with
  | nil => rfl
  | cons x l ih => rw [List.flatMap_cons, ih]; rfl
theorem own_rdi {w : World} {v : Value} {l : List Int} (h : Own w 3 v (l.map (.int .i64))) : RdI w v l := by
  have h2 : OwnZ w 3 1 v (l.map (Value.int .i64)).length (l.map (.int .i64)) := h
  have := OwnZ_rd h2
  unfold RdI
  rw [map_flat]
  rwa [List.length_map] at this
set_option maxRecDepth 100000 in
set_option maxHeartbeats 4000000 in
theorem same_walk (u v : Value) (l : List Int) (w : World) (hu : RdI w u l) (hv : RdI w v l) (hl : l.length ≤ 1000000) : Calls Try.prog 11 #[u, v] w (Says w (.bool true)) := by
  obtain ⟨a, c, rfl⟩ := hu.len
  obtain ⟨b, d, rfl⟩ := hv.len
  refine calls_W (n := 26) (vs := [.slice a l.length c, .slice b l.length d]) Try.func11 rfl rfl rfl ?_
  apply W.readS LO mixed [0, 1] (by kernel_rfl)
  · repeat' (first | rfl | with_reducible assumption | assumption | constructor)
  intro w1 f1 s1 hf1
  replace hf1 : f1 = [(0, _), (1, _)] := hf1
  subst hf1
  refine W.cutS (fun w' g => Same w w' ∧ g = [(0, .slice a l.length c), (1, .slice b l.length d)]) ?_ ?_
  · have k1 : Kn ((l.length : Int) != (l.length : Int)) false := .of (by simp)
    apply W.readS LO mixed [0, 1, 10] (by kernel_rfl)
    · repeat' (first | rfl | with_reducible assumption | assumption | constructor)
    intro w2 f2 s2 hf2
    replace hf2 : f2 = [(0, _), (1, _), (10, _)] := hf2
    subst hf2
    refine W.cond (b := false) rfl (fun h => by cases h) (fun _ => W.skip ?_)
    exact N.cut ⟨s1.trans s2, rfl⟩ (sub_keys rfl)
  clear s1
  rintro w1 _ ⟨s1, rfl⟩
  refine W.cutS (fun w' g => Same w w' ∧ g = []) ?_ ?_
  ·
    apply W.readS LO mixed [0, 1, 5] (by kernel_rfl)
    · repeat' (first | rfl | with_reducible assumption | assumption | constructor)
    intro w2 f2 s2 hf2
    replace hf2 : f2 = [(0, _), (1, _), (5, _)] := hf2
    subst hf2
    refine W.block (W.loop (fun k w' g => ∃ i : Nat, k + i = l.length ∧ Same w w' ∧ g = [(0, .slice a l.length c), (1, .slice b l.length d), (5, .int .i64 i)]) l.length _ ⟨0, rfl, s1.trans s2, rfl⟩ (sub_keys rfl) ?_)
    clear s1 s2
    rintro k w3 _ ⟨i, hk, s3, rfl⟩
    by_cases hlt : i < l.length
    · have k1 : Kn (decide ((i : Int) < (l.length : Int))) true := .yes (by omega)
      refine W.seq ?_
      apply W.readS LO mixed [0, 1, 5, 14] (by kernel_rfl)
      · repeat' (first | rfl | with_reducible assumption | assumption | constructor)
      intro w4 f4 s4 hf4
      replace hf4 : f4 = [(0, _), (1, _), (5, _), (14, _)] := hf4
      subst hf4
      have s4 := s3.trans s4
      clear s3
      refine W.cond (b := true) rfl (fun _ => W.skip (N.to ?_)) (fun h => by cases h)
      obtain ⟨x, hx⟩ : ∃ x, l[i]? = some x := ⟨_, List.getElem?_eq_getElem hlt⟩
      obtain ⟨b1, o1, c1, hv1, hc1⟩ := (Rd.moved hu ((Mv.refl _ w).same s4)).at (f := fun n => [Value.int .i64 n]) (fun _ => rfl) (by decide) hx
      injection hv1 with ea _ ec
      subst ea ec
      obtain ⟨b2, o2, c2, hv2, hc2⟩ := (Rd.moved hv ((Mv.refl _ w).same s4)).at (f := fun n => [Value.int .i64 n]) (fun _ => rfl) (by decide) hx
      injection hv2 with ea _ ec
      subst ea ec
      have d1 : Cl w4 ⟨b1, o1 + (i : Int).toNat * 1, none⟩ (.int .i64 x) := ⟨hc1.get 0 _ rfl⟩
      have d2 : Cl w4 ⟨b2, o2 + (i : Int).toNat * 1, none⟩ (.int .i64 x) := ⟨hc2.get 0 _ rfl⟩
      have i0 : (0 : Int) ≤ (i : Int) := by omega
      have i1 : (i : Int) < (l.length : Int) := by omega
      have k2 : Kn (x != x) false := .of (by simp)
      refine W.cutS (fun w' g => Same w w' ∧ g = [(0, .slice (some ⟨b1, o1, none⟩) l.length c), (1, .slice (some ⟨b2, o2, none⟩) l.length d), (5, .int .i64 i)]) ?_ ?_
      · refine W.block ?_
        apply W.readS LO mixed [0, 1, 5, 25] (by kernel_rfl)
        · repeat' (first | rfl | with_reducible assumption | assumption | constructor)
        intro w5 f5 s5 hf5
        replace hf5 : f5 = [(0, _), (1, _), (5, _), (25, _)] := hf5
        subst hf5
        refine W.cond (b := false) rfl (fun h => by cases h) (fun _ => W.skip ?_)
        exact N.inb (N.cut ⟨s4.trans s5, rfl⟩ (sub_keys rfl))
      · clear s4 d1 d2 hc1 hc2
        rintro w5 _ ⟨s5, rfl⟩
        have k5 : Kn (IntKind.i64.wrap ((i : Int) + 1)) ((i + 1 : Nat) : Int) := .of (IntWalk.i64_in _ (by omega))
        apply W.readN LO mixed [0, 1, 5] (by kernel_rfl)
        · repeat' (first | rfl | with_reducible assumption | assumption | constructor)
        intro w6 f6 s6 hf6
        replace hf6 : f6 = [(0, _), (1, _), (5, _)] := hf6
        subst hf6
        exact N.round (k - 1) _ (by omega) ⟨i + 1, by omega, s5.trans s6, rfl⟩ (sub_keys rfl)
    · have k1 : Kn (decide ((i : Int) < (l.length : Int))) false := .no (by omega)
      refine W.seq ?_
      apply W.readS LO mixed [14] (by kernel_rfl)
      · repeat' (first | rfl | with_reducible assumption | assumption | constructor)
      intro w4 f4 s4 hf4
      replace hf4 : f4 = [(14, _)] := hf4
      subst hf4
      refine W.cond (b := false) rfl (fun h => by cases h) (fun _ => W.exit ?_)
      exact N.thenE (N.thenE (N.out (N.cut ⟨s3.trans s4, rfl⟩ (sub_keys rfl))))
  clear s1
  rintro w2 _ ⟨s2, rfl⟩
  apply W.readS LO mixed [4] (by kernel_rfl)
  · repeat' (first | rfl | with_reducible assumption | assumption | constructor)
  intro w3 f3 s3 hf3
  replace hf3 : f3 = [(4, _)] := hf3
  subst hf3
  exact W.ret (post LO (rs := [.tmp 4]) rfl (vs := [.bool true]) (.tmp rfl .nil) ⟨rfl, s2.trans s3⟩)
end Go.Proofs.Ytbbafhpnlmmjjaa
