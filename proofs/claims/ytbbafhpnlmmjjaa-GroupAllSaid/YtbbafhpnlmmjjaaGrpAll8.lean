/- What is proved: the law of all rules, walked. Conditions: those that stand in each theorem. -/
import Derived.Test.YtbbafhpnlmmjjaaGrpAll7
namespace Go.Proofs.Ytbbafhpnlmmjjaa
set_option linter.unusedVariables false
set_option linter.unusedSimpArgs false
set_option linter.unusedSectionVars false
open Go.RowKit Fw
theorem pickN_short (t : TupV) (dir : Int) (l : List RuleV) (h : l.length ≤ 50) : (pickN t dir l 0).length ≤ 1000000 := by
  have := pickN_len t dir l 0
  omega
set_option maxRecDepth 100000 in
set_option maxHeartbeats 8000000 in
theorem all_walk (v : Value) (l : List RuleX) (t : TupV) (dir : Int) (w : World) (h : RulesX w v l) (hT : TupU t) : Calls Try.prog 3 #[v, .agg t.cs.toArray, .int .i64 dir] w (Yes w) := by
  obtain ⟨a, c, hv⟩ := h.1.len
  subst hv
  refine calls_W (n := 46) (vs := [.slice a l.length c, .agg t.cs.toArray, .int .i64 dir]) Try.func3 rfl rfl rfl ?_
  refine W.seq (W.list ?_)
  refine Ls.box rfl rfl rfl rfl rfl (vs := t.cs) rfl ?_
  have hb1 : BX (w.alloc (.cells t.cs.toArray 25)) w.heap.size 25 t.cs := heap_alloc_new w (.cells t.cs.toArray 25)
  have m1 : Mv (fun _ => False) w (w.alloc (.cells t.cs.toArray 25)) := (Mv.refl _ w).alloc _
  generalize w.alloc (.cells t.cs.toArray 25) = w1 at hb1 m1
  obtain ⟨p, hp⟩ : ∃ p, p = w.heap.size := ⟨_, rfl⟩
  rw [← hp] at hb1
  rw [← hp]
  apply Ls.runK LO [0, 2, 4] 1
  · repeat' (first | rfl | with_reducible assumption | assumption | constructor)
  intro w2 f2 s2 hf2
  replace hf2 : f2 = [(0, _), (2, _), (4, _)] := hf2
  subst hf2
  refine Ls.nil (N.to ?_)
  have m2 := m1.same s2
  have hb2 := hb1.same s2
  clear m1 hb1 s2
  refine W.cutS (fun w' g => (Mv (fun _ => False) w w' ∧ BX w' p 25 t.cs ∧ g = [(0, .slice a l.length c), (2, .int .i64 dir), (4, .pointer (some ⟨p, 0, none⟩))]) ∧ l.length ≤ 50 ∧ ∀ x ∈ l, FewX x) ?_ ?_
  · refine W.seq (W.list ?_)
    apply Ls.runK LO [0, 2, 4, 8] 1
    · repeat' (first | rfl | with_reducible assumption | assumption | constructor)
    intro w3 f3 s3 hf3
    replace hf3 : f3 = [(0, _), (2, _), (4, _), (8, _)] := hf3
    subst hf3
    refine Ls.call LO rfl rfl rfl rfl rfl (vs := [.slice a l.length c]) rfl (few_walk _ l w3 (h.moved (m2.same s3))) ?_
    rintro _ w4 ⟨b, rfl, s4, hfew⟩
    refine ⟨_, rfl, ?_⟩
    apply Ls.runK LO [0, 2, 4, 10] 1
    · repeat' (first | rfl | with_reducible assumption | assumption | constructor)
    intro w5 f5 s5 hf5
    replace hf5 : f5 = [(0, _), (2, _), (4, _), (10, _)] := hf5
    subst hf5
    refine Ls.nil (N.to ?_)
    have m5 := ((m2.same s3).same s4).same s5
    cases b with
    | false =>
      refine W.cond (b := true) rfl (fun _ => ?_) (fun h => by cases h)
      refine W.seq (W.list ?_)
      refine Ls.call LO rfl rfl rfl rfl rfl (vs := []) rfl (awake_walk w5) ?_
      rintro _ w6 ⟨rfl, m6⟩
      refine ⟨_, rfl, ?_⟩
      apply Ls.runK LO [6] 1
      · repeat' (first | rfl | with_reducible assumption | assumption | constructor)
      intro w7 f7 s7 hf7
      replace hf7 : f7 = [(6, _)] := hf7
      subst hf7
      refine Ls.nil (N.to (W.ret (N.thenR ?_)))
      exact post (fn := Try.f3) (R := Yes w) LO (rs := [.tmp 6]) rfl (vs := [.bool true]) (.tmp rfl .nil) ⟨rfl, (m5.trans m6).same s7⟩
    | true =>
      refine W.cond (b := false) rfl (fun h => by cases h) (fun _ => W.skip ?_)
      exact N.cut ⟨⟨m5, ((hb2.same s3).same s4).same s5, rfl⟩, hfew rfl⟩ (sub_keys rfl)
  clear m2 hb2
  rintro w3 _ ⟨⟨m3, hb3, rfl⟩, hl, hF⟩
  have hA := h.at hF
  have hU : ∀ r ∈ l.map (·.r), RuleU r := fun r hr => by
    obtain ⟨x, hx, rfl⟩ := List.mem_map.1 hr
    exact (h.2 x hx).u
  obtain ⟨L, hL⟩ : ∃ L : List RuleV, L = l.map (·.r) := ⟨_, rfl⟩
  have hLl : L.length = l.length := by rw [hL, List.length_map]
  rw [← hL] at hA hU
  refine W.cutS (fun w' g => (Mv (fun _ => False) w w' ∧ BX w' p 25 t.cs) ∧ g = [(0, .slice a l.length c), (2, .int .i64 dir), (4, .pointer (some ⟨p, 0, none⟩))]) ?_ ?_
  ·
    apply W.readS LO mixed [0, 2, 4, 7] (by kernel_rfl)
    · repeat' (first | rfl | with_reducible assumption | assumption | constructor)
    intro w4 f4 s4 hf4
    replace hf4 : f4 = [(0, _), (2, _), (4, _), (7, _)] := hf4
    subst hf4
    refine W.block (W.loop (fun k w' g => ∃ i : Nat, k + i = l.length ∧ (Mv (fun _ => False) w w' ∧ BX w' p 25 t.cs) ∧ g = [(0, .slice a l.length c), (2, .int .i64 dir), (4, .pointer (some ⟨p, 0, none⟩)), (7, .int .i64 i)]) l.length _ ⟨0, rfl, ⟨m3.same s4, hb3.same s4⟩, rfl⟩ (sub_keys rfl) ?_)
    clear m3 hb3 s4
    rintro k w5 _ ⟨i, hk, ⟨m5, hb5⟩, rfl⟩
    by_cases hlt : i < l.length
    · have k1 : Kn (decide ((i : Int) < (l.length : Int))) true := .yes (by omega)
      refine W.seq ?_
      apply W.readS LO mixed [0, 2, 4, 7, 15] (by kernel_rfl)
      · repeat' (first | rfl | with_reducible assumption | assumption | constructor)
      intro w6 f6 s6 hf6
      replace hf6 : f6 = [(0, _), (2, _), (4, _), (7, _), (15, _)] := hf6
      subst hf6
      have m6 := m5.same s6
      have hb6 := hb5.same s6
      clear m5 hb5 s6
      refine W.cond (b := true) rfl (fun _ => W.skip (N.to ?_)) (fun h => by cases h)
      obtain ⟨x, hx⟩ : ∃ x, L[i]? = some x := ⟨_, List.getElem?_eq_getElem (by omega)⟩
      have hxl := List.mem_of_getElem? hx
      refine W.cutS (fun w' g => (Mv (fun _ => False) w w' ∧ BX w' p 25 t.cs) ∧ g = [(0, .slice a l.length c), (2, .int .i64 dir), (4, .pointer (some ⟨p, 0, none⟩)), (7, .int .i64 i)]) ?_ ?_
      · refine W.block ?_
        obtain ⟨b, o, c', hv', _⟩ := hA.1.at rcs_len (by decide) hx
        rw [hLl] at hv'
        injection hv' with ea _ ec
        subst ea ec
        have i0 : (0 : Int) ≤ (i : Int) := by omega
        have i1 : (i : Int) < (l.length : Int) := by omega
        have F1 : ∀ w', Mv (fun _ => False) w6 w' → CellsAt w' b (o + (i : Int).toNat * 15) 15 x.cs := fun w' m => by
          obtain ⟨b', o', c', hv', hc⟩ := (hA.1.moved (m6.trans m)).at rcs_len (by decide) hx
          injection hv' with e1 _ _
          injection e1 with e1
          injection e1 with e2 e3 _
          rw [e2, e3]; exact hc
        have F2 : ∀ w', Mv (fun _ => False) w6 w' → CellsAt w' p 0 5 t.cs := fun w' m => (hb6.moved m fun e => e).cells
        refine W.seq (W.held mixed (fun w' => Mv (fun _ => False) w6 w') [] 15 rfl (fun w' s => (Mv.refl _ w6).same s) ?_)
        intro w10 s10
        apply H.takesK LO true [0, 2, 4, 7, 21, 22, 23, 28, 29, 30] [0, 1, 2, 3, 4, 5, 7, 8, 9, 10, 11, 12] (k := 3) rfl (by kernel_rfl)
        · repeat' (first | rfl | with_reducible assumption | assumption | (intro w' hw'; replace hw' := hw' rfl; have h0' := F1 w' hw'; have h1' := F2 w' hw') | constructor)
        intro g_ hg_
        replace hg_ : g_ = [(0, _), (2, _), (4, _), (7, _), (21, _), (22, _), (23, _), (28, _), (29, _), (30, _)] := hg_
        subst hg_
        have n10 : Mv (fun _ => False) w6 w10 := (Mv.refl _ w6).same s10
        refine H.only (i := 6) rfl (by kernel_rfl) ?_
        refine Ls.call LO rfl rfl rfl rfl rfl (vs := [.agg x.cs.toArray, .agg t.cs.toArray, .int .i64 dir]) rfl (fits_walk x t dir w10 ((hA.2 x hxl).moved (m6.trans n10))) ?_
        rintro _ w11 ⟨rfl, m11⟩
        have n11 := n10.trans m11
        refine ⟨_, rfl, Ls.nil (N.goOn (fun _ => n11) ?_)⟩
        refine H.only (i := 13) rfl (by kernel_rfl) ?_
        refine Ls.call LO rfl rfl rfl rfl rfl (vs := [.agg x.cs.toArray, .agg t.cs.toArray, .int .i64 dir]) rfl (rfits_walk x t dir w11 ((hA.2 x hxl).moved (m6.trans n11)) (hU x hxl) hT) ?_
        rintro _ w12 ⟨rfl, m12⟩
        have n12 := n11.trans m12
        refine ⟨_, rfl, Ls.nil (N.goOn (fun _ => n12) ?_)⟩
        have k2 : Kn (x.fits t dir == x.fits t dir) true := .of (beq_self_eq_true _)
        apply H.takesK LO false [0, 2, 4, 7, 32] [14] (k := 0) rfl (by kernel_rfl)
        · repeat' (first | rfl | with_reducible assumption | assumption | (intro w' hw'; replace hw' := True.intro) | constructor)
        intro g_ hg_
        replace hg_ : g_ = [(0, _), (2, _), (4, _), (7, _), (32, _)] := hg_
        subst hg_
        refine H.done (by kernel_rfl) (N.to ?_)
        refine W.cond (b := false) rfl (fun h => by cases h) (fun _ => W.skip ?_)
        exact N.inb (N.cut ⟨⟨m6.trans n12, hb6.moved n12 fun e => e⟩, rfl⟩ (sub_keys rfl))
      · rintro w7 _ ⟨⟨m7, hb7⟩, rfl⟩
        have k5 : Kn (IntKind.i64.wrap ((i : Int) + 1)) ((i + 1 : Nat) : Int) := .of (IntWalk.i64_in _ (by omega))
        apply W.readN LO mixed [0, 2, 4, 7] (by kernel_rfl)
        · repeat' (first | rfl | with_reducible assumption | assumption | constructor)
        intro w8 f8 s8 hf8
        replace hf8 : f8 = [(0, _), (2, _), (4, _), (7, _)] := hf8
        subst hf8
        exact N.round (k - 1) _ (by omega) ⟨i + 1, by omega, ⟨m7.same s8, hb7.same s8⟩, rfl⟩ (sub_keys rfl)
    · have k1 : Kn (decide ((i : Int) < (l.length : Int))) false := .no (by omega)
      refine W.seq ?_
      apply W.readS LO mixed [0, 2, 4, 15] (by kernel_rfl)
      · repeat' (first | rfl | with_reducible assumption | assumption | constructor)
      intro w6 f6 s6 hf6
      replace hf6 : f6 = [(0, _), (2, _), (4, _), (15, _)] := hf6
      subst hf6
      refine W.cond (b := false) rfl (fun h => by cases h) (fun _ => W.exit ?_)
      exact N.thenE (N.thenE (N.out (N.cut ⟨⟨m5.same s6, hb5.same s6⟩, rfl⟩ (sub_keys rfl))))
  clear m3 hb3
  rintro w4 _ ⟨⟨m4, hb4⟩, rfl⟩
  have F2 : ∀ w', Mv (fun _ => False) w4 w' → CellsAt w' p 0 5 t.cs := fun w' m => (hb4.moved m fun e => e).cells
  refine W.seq (W.held mixed (fun w' => Mv (fun _ => False) w4 w') [] 14 rfl (fun w' s => (Mv.refl _ w4).same s) ?_)
  intro w5 s5
  apply H.takesK LO true [33, 35, 36, 38, 39, 40] [0, 2, 3, 5, 6, 7] (k := 8) rfl (by kernel_rfl)
  · repeat' (first | rfl | with_reducible assumption | assumption | (intro w' hw'; replace hw' := hw' rfl; have h0' := F2 w' hw') | constructor)
  intro g_ hg_
  replace hg_ : g_ = [(33, _), (35, _), (36, _), (38, _), (39, _), (40, _)] := hg_
  subst hg_
  have n5 : Mv (fun _ => False) w4 w5 := (Mv.refl _ w4).same s5
  refine H.only (i := 1) rfl (by kernel_rfl) ?_
  refine Ls.call LO rfl rfl rfl rfl rfl (vs := [.slice a l.length c]) rfl (copy_walk _ l w5 (h.moved (m4.trans n5)) hl hF) ?_
  rintro _ w6 ⟨vM, M, rfl, hM, hMl, hlk, m6⟩
  have n6 := n5.trans m6
  refine ⟨_, rfl, Ls.nil (N.goOn (fun _ => n6) ?_)⟩
  rw [← hL] at hlk
  have e := pickN_like t dir L M 0 (by omega) hlk
  refine H.only (i := 4) rfl (by kernel_rfl) ?_
  refine Ls.call LO rfl rfl rfl rfl rfl (vs := [vM, .agg t.cs.toArray, .int .i64 dir]) rfl (pick_walk vM M t dir w6 hM (by omega)) ?_
  rintro _ w7 ⟨v1, rfl, ho1, _, m7⟩
  rw [e] at ho1
  have n7 := n6.trans m7
  refine ⟨_, rfl, Ls.nil (N.goOn (fun _ => n7) ?_)⟩
  refine H.only (i := 8) rfl (by kernel_rfl) ?_
  refine Ls.call LO rfl rfl rfl rfl rfl (vs := [.slice a l.length c, .agg t.cs.toArray, .int .i64 dir]) rfl (rpick_walk _ L t dir w7 (hA.moved (m4.trans n7)) (by omega) hU hT) ?_
  rintro _ w8 ⟨v2, rfl, ho2, _, m8⟩
  have n8 := n7.trans m8
  refine ⟨_, rfl, Ls.nil (N.goOn (fun _ => n8) ?_)⟩
  have ho1 := ho1.moved m8 fun _ _ e => e
  refine H.only (i := 9) rfl (by kernel_rfl) ?_
  refine Ls.call LO rfl rfl rfl rfl rfl (vs := [v1, v2]) rfl (same_walk v1 v2 (pickN t dir L 0) w8 (own_rdi ho1) (own_rdi ho2) (pickN_short t dir L (by omega))) ?_
  rintro _ w9 ⟨rfl, s9⟩
  have n9 := n8.same s9
  refine ⟨_, rfl, Ls.nil (N.goOn (fun _ => n9) ?_)⟩
  apply H.takesK LO false [43] [10] (k := 3) rfl (by kernel_rfl)
  · repeat' (first | rfl | with_reducible assumption | assumption | (intro w' hw'; replace hw' := True.intro) | constructor)
  intro g_ hg_
  replace hg_ : g_ = [(43, _)] := hg_
  subst hg_
  refine H.only (i := 11) rfl (by kernel_rfl) ?_
  refine Ls.call LO rfl rfl rfl rfl rfl (vs := []) rfl (awake_walk w9) ?_
  rintro _ w10 ⟨rfl, m10⟩
  have n10 := n9.trans m10
  refine ⟨_, rfl, Ls.nil (N.goOn (fun _ => n10) ?_)⟩
  apply H.takesK LO false [6] [12, 13] (k := 0) rfl (by kernel_rfl)
  · repeat' (first | rfl | with_reducible assumption | assumption | (intro w' hw'; replace hw' := True.intro) | constructor)
  intro g_ hg_
  replace hg_ : g_ = [(6, _)] := hg_
  subst hg_
  refine H.done (by kernel_rfl) (N.to ?_)
  exact W.ret (post LO (rs := [.tmp 6]) rfl (vs := [.bool true]) (.tmp rfl .nil) ⟨rfl, m4.trans n10⟩)
end Go.Proofs.Ytbbafhpnlmmjjaa
