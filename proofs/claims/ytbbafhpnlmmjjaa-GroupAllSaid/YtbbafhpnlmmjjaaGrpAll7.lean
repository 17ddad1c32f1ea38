/- What is proved: rules in new memory fit as the rules. Conditions: those that stand in each theorem. -/
import Derived.Test.YtbbafhpnlmmjjaaGrpAll6
namespace Go.Proofs.Ytbbafhpnlmmjjaa
set_option linter.unusedVariables false
set_option linter.unusedSimpArgs false
set_option linter.unusedSectionVars false
open Go.RowKit Fw
structure CL2 (w w' : World) (vm : Value) (M : List RuleV) : Prop where
  mv : Mv (fun _ => False) w w'
  own : OwnZ w' 37 15 vm M.length (M.flatMap RuleV.cs)
  g : ∀ r ∈ M, RuleAt w' r ∧ ∀ v ∈ r.vs, ∀ k, v.ownBlock = some k → k < w'.heap.size ∧ vm.ownBlock ≠ some k
  fr : ∀ k, vm.ownBlock = some k → w.heap.size ≤ k
theorem CL2.same {w w' w'' : World} {vm : Value} {M : List RuleV} (h : CL2 w w' vm M) (s : Same w' w'') : CL2 w w'' vm M :=
  ⟨h.mv.same s, h.own.same s, fun r hr => ⟨(h.g r hr).1.moved ((Mv.refl _ w').same s), fun v hv k hk => by rw [s.heap]; exact (h.g r hr).2 v hv k hk⟩, h.fr⟩
theorem nil_mv {w w' : World} (m : Mv (fun k => (Value.slice none 0 0).ownBlock = some k) w w') : Mv (fun _ => False) w w' := m.mono fun k e => by cases e
set_option maxRecDepth 100000 in
set_option maxHeartbeats 8000000 in
theorem copy_walk (v : Value) (l : List RuleX) (w : World) (h : RulesX w v l) (hl : l.length ≤ 50) (hF : ∀ x ∈ l, FewX x) : Calls Try.prog 13 #[v] w (CopyPost w l) := by
  obtain ⟨iR, bR, hiR, hzR, hsR, hbR, hbR1⟩ := info_rule2
  obtain ⟨iN, hiN, hzN, hsN, hbN⟩ := info_net
  obtain ⟨iS, hiS, hzS, hsS, hbS⟩ := info_span
  obtain ⟨iC, bC, hiC, hzC, hsC, hbC, hbC1⟩ := info_cont
  obtain ⟨a, c, hv⟩ := h.1.len
  subst hv
  refine calls_W (n := 49) (vs := [.slice a l.length c]) Try.func13 rfl rfl rfl ?_
  apply W.readS LO mixed [0] (by kernel_rfl)
  · repeat' (first | rfl | with_reducible assumption | assumption | constructor)
  intro w1 f1 s1 hf1
  replace hf1 : f1 = [(0, _)] := hf1
  subst hf1
  apply W.readS LO mixed [0, 3] (by kernel_rfl)
  · repeat' (first | rfl | with_reducible assumption | assumption | constructor)
  intro w2 f2 s2 hf2
  replace hf2 : f2 = [(0, _), (3, _)] := hf2
  subst hf2
  have m2 : Mv (fun _ => False) w w2 := ((Mv.refl _ w).same s1).same s2
  refine W.cutS (fun w' g => ∃ (vm : Value) (M : List RuleV), (CL2 w w' vm M ∧ M.length = l.length ∧ ∀ (j : Nat) (r r' : RuleV), (l.map (·.r))[j]? = some r → M[j]? = some r' → Lk r r') ∧ g = [(3, vm)]) ?_ ?_
  ·
    apply W.readS LO mixed [0, 3, 4] (by kernel_rfl)
    · repeat' (first | rfl | with_reducible assumption | assumption | constructor)
    intro w3 f3 s3 hf3
    replace hf3 : f3 = [(0, _), (3, _), (4, _)] := hf3
    subst hf3
    refine W.block (W.loop (fun k w' g => ∃ (i : Nat) (vm : Value) (M : List RuleV), k + i = l.length ∧ M.length = i ∧ CL2 w w' vm M ∧ (∀ (j : Nat) (r r' : RuleV), (l.map (·.r))[j]? = some r → M[j]? = some r' → Lk r r') ∧
      g = [(0, .slice a l.length c), (3, vm), (4, .int .i64 i)]) l.length _ ⟨0, .slice none 0 0, [], rfl, rfl, ⟨m2.same s3, OwnZ.nil _ _ _, fun r hr => (by cases hr), fun k hk => (by cases hk)⟩, fun j r r' _ hr => by simp at hr, rfl⟩ (sub_keys rfl) ?_)
    clear m2 s1 s2 s3
    rintro k w4 _ ⟨i, vm, M, hk, hM, C, hlk, rfl⟩
    by_cases hlt : i < l.length
    · have k1 : Kn (decide ((i : Int) < (l.length : Int))) true := .yes (by omega)
      refine W.seq ?_
      apply W.readS LO mixed [0, 3, 4, 9] (by kernel_rfl)
      · repeat' (first | rfl | with_reducible assumption | assumption | constructor)
      intro w5 f5 s5 hf5
      replace hf5 : f5 = [(0, _), (3, _), (4, _), (9, _)] := hf5
      subst hf5
      have C := C.same s5
      clear s5 k1
      refine W.cond (b := true) rfl (fun _ => W.skip (N.to ?_)) (fun h => by cases h)
      refine W.cutS (fun w' g => ∃ (vm' : Value) (M' : List RuleV), (M'.length = M.length + 1 ∧ CL2 w w' vm' M' ∧ ∀ (j : Nat) (r r' : RuleV), (l.map (·.r))[j]? = some r → M'[j]? = some r' → Lk r r') ∧ g = [(0, .slice a l.length c), (3, vm'), (4, .int .i64 i)]) ?_ ?_
      · refine W.block ?_
        obtain ⟨x, hx⟩ : ∃ x, l[i]? = some x := ⟨_, List.getElem?_eq_getElem hlt⟩
        have hxl := List.mem_of_getElem? hx
        have hf := hF x hxl
        have hx0 := h.2 x hxl
        obtain ⟨b, o, c', hv', hcell⟩ := (h.1.moved C.mv).at xcs_len (by decide) hx
        injection hv' with ea _ ec
        subst ea ec
        have i0 : (0 : Int) ≤ (i : Int) := by omega
        have i1 : (i : Int) < (l.length : Int) := by omega
        refine W.seq (W.list ?_)
        apply Ls.runK LO [0, 3, 4, 15] 4
        · repeat' (first | rfl | with_reducible assumption | assumption | constructor)
        intro w6 f6 s6 hf6
        replace hf6 : f6 = [(0, _), (3, _), (4, _), (15, _)] := hf6
        subst hf6
        have C := C.same s6
        clear hcell s6
        refine Ls.alloc LO rfl rfl rfl rfl (zs := zRule) rfl ?_
        have hb8 := heap_alloc_new w6 (.cells zRule.toArray 37)
        have m8 : Mv (fun _ => False) w6 (w6.alloc (.cells zRule.toArray 37)) := (Mv.refl _ w6).alloc _
        have z8 := size_alloc' w6 (.cells zRule.toArray 37)
        generalize w6.alloc (.cells zRule.toArray 37) = w8 at hb8 m8 z8
        obtain ⟨p, hp⟩ : ∃ p, p = w6.heap.size := ⟨_, rfl⟩
        rw [← hp] at hb8
        rw [← hp]
        refine Ls.store LO rfl rfl rfl rfl rfl (vs := x.cs) rfl rfl (hx0.at hf).all hb8 rfl ?_
        intro w9 hb9 m9 _
        have hb9 : BX w9 p 37 x.cs := hb9
        have m69 : Mv (fun _ => False) w6 w9 := m8.cut m9 fun k hk e => by omega
        have C : CK w w9 p vm M := ⟨C.mv.trans m69, C.own.moved m69 fun _ _ e => e, fun r hr => ⟨(C.g r hr).1.moved m69, fun v hv k hk => by have := (C.g r hr).2 v hv k hk; exact ⟨by omega, this.2⟩⟩, fun k hk => by rw [hp]; exact C.own.lt k hk, C.fr, by rw [hp]; exact C.mv.size⟩
        refine Ls.nil (N.to ?_)
        clear hb8 m8 m9 m69 z8 hp
        have kz : ∀ (n b : Nat), n ≤ 6 → b ≤ 1000 → (0 + n) * b ≤ 6 * 1000 := fun n b h1 h2 => Nat.mul_le_mul (by omega) h2
        -- addresses
        have R1 := rd_readsZ (Rd.moved hx0.fn C.mv)
        have R2 := rd_readsZ (Rd.moved hx0.tn C.mv)
        have G1 : ∀ w', Mv (fun _ => False) w9 w' → Cl w' ⟨p, 0 + 2 + 1, none⟩ x.r.fn.v := fun w' m => (hb9.moved m fun e => e).cl rfl
        have G2 : ∀ w', Mv (fun _ => False) w9 w' → Cl w' ⟨p, 0 + 6 + 1, none⟩ x.r.tn.v := fun w' m => (hb9.moved m fun e => e).cl rfl
        refine W.seq (W.held mixed (fun w' => Mv (fun _ => False) w9 w') [10, 13] 14 rfl (fun w' s => (Mv.refl _ w9).same s) ?_)
        intro w10 s10
        apply H.takesK LO true [0, 3, 4, 5, 18, 22] [0, 1, 2, 4, 5, 6] (k := 8) rfl (by kernel_rfl)
        · repeat' (first | rfl | with_reducible assumption | assumption | (intro w' hw'; replace hw' := hw' rfl; have h0' := G1 w' hw'; have h1' := G2 w' hw') | constructor)
        intro g_ hg_
        replace hg_ : g_ = [(0, _), (3, _), (4, _), (5, _), (18, _), (22, _)] := hg_
        subst hg_
        have m10 : Mv (fun _ => False) w9 w10 := (Mv.refl _ w9).same s10
        refine H.only (i := 3) rfl (by kernel_rfl) ?_
        refine Ls.appendZ rfl rfl rfl rfl und_nets hiN hzN hsN hbN rfl (by decide) (v := .slice none 0 0) rfl rfl (OwnZ.nil w10 _ _) (R1.moved m10 fun _ _ e => e) (fun u hu => ncs_one u hu) (by have := hf.fn; simp only [maxLen]; omega) (by have := kz _ 16 hf.fn (by decide); omega) ?_
        intro v1 w11 ho1 m11 hb1
        have N1 : NewR w11 p 48 v1 (0 + x.r.fn.l.length) ([] ++ x.r.fn.l.flatMap ncs) := ⟨ho1, fun k hk => by
          rcases hb1 with e | e
          · rw [e] at hk; cases hk
          · rw [e] at hk; have := Option.some.inj hk; have := (hb9.moved m10 fun e => e).lt; omega⟩
        have m11 := nil_mv m11
        have m11' := m10.trans m11
        refine Ls.nil (N.goOn (fun _ => m11') ?_)
        apply H.takesK LO false [0, 3, 4, 5, 19, 22, 25] [8, 9] (k := 5) rfl (by kernel_rfl)
        · repeat' (first | rfl | with_reducible assumption | assumption | (intro w' hw'; replace hw' := True.intro) | constructor)
        intro g_ hg_
        replace hg_ : g_ = [(0, _), (3, _), (4, _), (5, _), (19, _), (22, _), (25, _)] := hg_
        subst hg_
        refine H.only (i := 7) rfl (by kernel_rfl) ?_
        refine Ls.appendZ rfl rfl rfl rfl und_nets hiN hzN hsN hbN rfl (by decide) (v := .slice none 0 0) rfl rfl (OwnZ.nil w11 _ _) (R2.moved m11' fun _ _ e => e) (fun u hu => ncs_one u hu) (by have := hf.tn; simp only [maxLen]; omega) (by have := kz _ 16 hf.tn (by decide); omega) ?_
        intro v2 w12 ho2 m12 hb2
        have N2 : NewR w12 p 48 v2 (0 + x.r.tn.l.length) ([] ++ x.r.tn.l.flatMap ncs) := ⟨ho2, fun k hk => by
          rcases hb2 with e | e
          · rw [e] at hk; cases hk
          · rw [e] at hk; have := Option.some.inj hk; have := (hb9.moved m11' fun e => e).lt; omega⟩
        have m12 := nil_mv m12
        have m12' := m11'.trans m12
        refine Ls.nil (N.goOn (fun _ => m12') ?_)
        obtain ⟨a1, c1, e1, _⟩ := ho1.slice
        refine H.only (i := 10) rfl (by kernel_rfl) ?_
        refine Ls.store LO rfl rfl rfl rfl rfl (vs := [v1]) (by rw [e1]; rfl) rfl (by rw [e1]; rfl) (hb9.moved m12' fun e => e) rfl ?_
        intro w13 hb13 m13 _
        have hb13 : BX w13 p 37 ({ x.r with fn := { x.r.fn with v := v1 } } : RuleV).cs := hb13
        refine Ls.nil (N.goOn (fun hint => absurd (show true = false from hint 10 List.mem_cons_self) (by decide)) ?_)
        apply H.takesK LO false [0, 3, 4, 5, 23, 27] [11, 12] (k := 1) rfl (by kernel_rfl)
        · repeat' (first | rfl | with_reducible assumption | assumption | (intro w' hw'; replace hw' := True.intro) | constructor)
        intro g_ hg_
        replace hg_ : g_ = [(0, _), (3, _), (4, _), (5, _), (23, _), (27, _)] := hg_
        subst hg_
        obtain ⟨a2, c2, e2, _⟩ := ho2.slice
        refine H.only (i := 13) rfl (by kernel_rfl) ?_
        refine Ls.store LO rfl rfl rfl rfl rfl (vs := [v2]) (by rw [e2]; rfl) rfl (by rw [e2]; rfl) hb13 rfl ?_
        intro w14 hb14 m14 _
        have hb14 : BX w14 p 37 ({ x.r with fn := { x.r.fn with v := v1 }, tn := { x.r.tn with v := v2 } } : RuleV).cs := hb14
        refine Ls.nil (N.goOn (fun hint => absurd (show true = false from hint 10 List.mem_cons_self) (by decide)) ?_)
        refine H.done (by kernel_rfl) (N.to ?_)
        have m1314 := m13.trans m14
        have C := (C.non m12').put m1314
        have N1 := (N1.moved m12 fun _ e => e.elim).moved m1314 fun k e => Nat.le_of_eq e
        have N2 := N2.moved m1314 fun k e => Nat.le_of_eq e
        obtain ⟨y1, hy1⟩ : ∃ y1 : RuleV, y1 = { x.r with fn := { x.r.fn with v := v1 }, tn := { x.r.tn with v := v2 } } := ⟨_, rfl⟩
        rw [← hy1] at hb14
        clear R1 R2 G1 G2 m10 m11 m11' m12 m12' m13 m14 m1314 hb13 hb9 ho1 ho2 hb1 hb2 s10
        -- ports
        have R1 := rd_readsZ (Rd.moved hx0.fp C.mv)
        have R2 := rd_readsZ (Rd.moved hx0.tp C.mv)
        have G1 : ∀ w', Mv (fun _ => False) w14 w' → Cl w' ⟨p, 0 + 4 + 1, none⟩ x.r.fp.v := fun w' m => (hb14.moved m fun e => e).cl (by rw [hy1]; rfl)
        have G2 : ∀ w', Mv (fun _ => False) w14 w' → Cl w' ⟨p, 0 + 8 + 1, none⟩ x.r.tp.v := fun w' m => (hb14.moved m fun e => e).cl (by rw [hy1]; rfl)
        refine W.seq (W.held mixed (fun w' => Mv (fun _ => False) w14 w') [10, 13] 14 rfl (fun w' s => (Mv.refl _ w14).same s) ?_)
        intro w10 s10
        apply H.takesK LO true [0, 3, 4, 5, 30, 34] [0, 1, 2, 4, 5, 6] (k := 8) rfl (by kernel_rfl)
        · repeat' (first | rfl | with_reducible assumption | assumption | (intro w' hw'; replace hw' := hw' rfl; have h0' := G1 w' hw'; have h1' := G2 w' hw') | constructor)
        intro g_ hg_
        replace hg_ : g_ = [(0, _), (3, _), (4, _), (5, _), (30, _), (34, _)] := hg_
        subst hg_
        have m10 : Mv (fun _ => False) w14 w10 := (Mv.refl _ w14).same s10
        refine H.only (i := 3) rfl (by kernel_rfl) ?_
        refine Ls.appendZ rfl rfl rfl rfl und_spans hiS hzS hsS hbS rfl (by decide) (v := .slice none 0 0) rfl rfl (OwnZ.nil w10 _ _) (R1.moved m10 fun _ _ e => e) (fun u hu => scs_one u hu) (by have := hf.fp; simp only [maxLen]; omega) (by have := kz _ 16 hf.fp (by decide); omega) ?_
        intro v3 w11 ho3 m11 hb3
        have N3 : NewR w11 p 50 v3 (0 + x.r.fp.l.length) ([] ++ x.r.fp.l.flatMap scs) := ⟨ho3, fun k hk => by
          rcases hb3 with e | e
          · rw [e] at hk; cases hk
          · rw [e] at hk; have := Option.some.inj hk; have := (hb14.moved m10 fun e => e).lt; omega⟩
        have m11 := nil_mv m11
        have m11' := m10.trans m11
        refine Ls.nil (N.goOn (fun _ => m11') ?_)
        apply H.takesK LO false [0, 3, 4, 5, 31, 34, 37] [8, 9] (k := 5) rfl (by kernel_rfl)
        · repeat' (first | rfl | with_reducible assumption | assumption | (intro w' hw'; replace hw' := True.intro) | constructor)
        intro g_ hg_
        replace hg_ : g_ = [(0, _), (3, _), (4, _), (5, _), (31, _), (34, _), (37, _)] := hg_
        subst hg_
        refine H.only (i := 7) rfl (by kernel_rfl) ?_
        refine Ls.appendZ rfl rfl rfl rfl und_spans hiS hzS hsS hbS rfl (by decide) (v := .slice none 0 0) rfl rfl (OwnZ.nil w11 _ _) (R2.moved m11' fun _ _ e => e) (fun u hu => scs_one u hu) (by have := hf.tp; simp only [maxLen]; omega) (by have := kz _ 16 hf.tp (by decide); omega) ?_
        intro v4 w12 ho4 m12 hb4
        have N4 : NewR w12 p 50 v4 (0 + x.r.tp.l.length) ([] ++ x.r.tp.l.flatMap scs) := ⟨ho4, fun k hk => by
          rcases hb4 with e | e
          · rw [e] at hk; cases hk
          · rw [e] at hk; have := Option.some.inj hk; have := (hb14.moved m11' fun e => e).lt; omega⟩
        have m12 := nil_mv m12
        have m12' := m11'.trans m12
        refine Ls.nil (N.goOn (fun _ => m12') ?_)
        obtain ⟨a3, c3, e3, _⟩ := ho3.slice
        refine H.only (i := 10) rfl (by kernel_rfl) ?_
        refine Ls.store LO rfl rfl rfl rfl rfl (vs := [v3]) (by rw [e3]; rfl) rfl (by rw [e3]; rfl) (hb14.moved m12' fun e => e) rfl ?_
        intro w13 hb13 m13 _
        have hb13 : BX w13 p 37 ({ y1 with fp := { y1.fp with v := v3 } } : RuleV).cs := hb13
        refine Ls.nil (N.goOn (fun hint => absurd (show true = false from hint 10 List.mem_cons_self) (by decide)) ?_)
        apply H.takesK LO false [0, 3, 4, 5, 35, 39] [11, 12] (k := 1) rfl (by kernel_rfl)
        · repeat' (first | rfl | with_reducible assumption | assumption | (intro w' hw'; replace hw' := True.intro) | constructor)
        intro g_ hg_
        replace hg_ : g_ = [(0, _), (3, _), (4, _), (5, _), (35, _), (39, _)] := hg_
        subst hg_
        obtain ⟨a4, c4, e4, _⟩ := ho4.slice
        refine H.only (i := 13) rfl (by kernel_rfl) ?_
        refine Ls.store LO rfl rfl rfl rfl rfl (vs := [v4]) (by rw [e4]; rfl) rfl (by rw [e4]; rfl) hb13 rfl ?_
        intro w15 hb15 m14 _
        have hb15 : BX w15 p 37 ({ y1 with fp := { y1.fp with v := v3 }, tp := { y1.tp with v := v4 } } : RuleV).cs := hb15
        refine Ls.nil (N.goOn (fun hint => absurd (show true = false from hint 10 List.mem_cons_self) (by decide)) ?_)
        refine H.done (by kernel_rfl) (N.to ?_)
        have m1314 := m13.trans m14
        have C := (C.non m12').put m1314
        have N1 := (N1.moved m12' fun _ e => e.elim).moved m1314 fun k e => Nat.le_of_eq e
        have N2 := (N2.moved m12' fun _ e => e.elim).moved m1314 fun k e => Nat.le_of_eq e
        have N3 := (N3.moved m12 fun _ e => e.elim).moved m1314 fun k e => Nat.le_of_eq e
        have N4 := N4.moved m1314 fun k e => Nat.le_of_eq e
        obtain ⟨y2, hy2⟩ : ∃ y2 : RuleV, y2 = { y1 with fp := { y1.fp with v := v3 }, tp := { y1.tp with v := v4 } } := ⟨_, rfl⟩
        rw [← hy2] at hb15
        clear R1 R2 G1 G2 m10 m11 m11' m12 m12' m13 m14 m1314 hb13 hb14 ho3 ho4 hb3 hb4 s10
        -- contents
        have R1 := rd_readsZ (hx0.cv.moved C.mv)
        have G1 : Cl w15 ⟨p, 0 + 12, none⟩ x.r.cv := hb15.cl (by rw [hy2, hy1]; rfl)
        refine W.seq (W.list ?_)
        apply Ls.runK LO [0, 3, 4, 5, 41] 2
        · repeat' (first | rfl | with_reducible assumption | assumption | constructor)
        intro w16 f16 s16 hf16
        replace hf16 : f16 = [(0, _), (3, _), (4, _), (5, _), (41, _)] := hf16
        subst hf16
        have m16 : Mv (fun _ => False) w15 w16 := (Mv.refl _ w15).same s16
        refine Ls.appendZ rfl rfl rfl rfl und_conts hiC hzC hsC hbC rfl (by decide) (v := .slice none 0 0) rfl rfl (OwnZ.nil w16 _ _) (R1.moved m16 fun _ _ e => e) (fun u hu => ccs_one u hu) (by have := hf.cl; simp only [maxLen]; omega) (by have := kz _ bC hf.cl hbC1; omega) ?_
        intro v5 w17 ho5 m17 _
        have m17 := m16.trans (nil_mv m17)
        apply Ls.runK LO [0, 3, 4, 5, 42, 43] 1
        · repeat' (first | rfl | with_reducible assumption | assumption | constructor)
        intro w18 f18 s18 hf18
        replace hf18 : f18 = [(0, _), (3, _), (4, _), (5, _), (42, _), (43, _)] := hf18
        subst hf18
        have m18 := m17.same s18
        obtain ⟨a5, c5, e5, _⟩ := ho5.slice
        refine Ls.store LO rfl rfl rfl rfl rfl (vs := [v5]) (by rw [e5]; rfl) rfl (by rw [e5]; rfl) (hb15.moved m18 fun e => e) rfl ?_
        intro w19 hb19 m19 _
        have hb19 : BX w19 p 37 ({ y2 with cv := v5 } : RuleV).cs := hb19
        refine Ls.nil (N.to ?_)
        have C := (C.non m18).put m19
        have N1 := (N1.moved m18 fun _ e => e.elim).moved m19 fun k e => Nat.le_of_eq e
        have N2 := (N2.moved m18 fun _ e => e.elim).moved m19 fun k e => Nat.le_of_eq e
        have N3 := (N3.moved m18 fun _ e => e.elim).moved m19 fun k e => Nat.le_of_eq e
        have N4 := (N4.moved m18 fun _ e => e.elim).moved m19 fun k e => Nat.le_of_eq e
        obtain ⟨z, hz⟩ : ∃ z : RuleV, z = { y2 with cv := v5 } := ⟨_, rfl⟩
        rw [← hz] at hb19
        clear R1 G1 m16 m17 m18 m19 hb15 ho5 s16 s18
        have hzv : z.vs = [v1, v3, v2, v4] := by rw [hz, hy2, hy1]; rfl
        have hzA : ∀ w', NewR w' p 48 v1 (0 + x.r.fn.l.length) ([] ++ x.r.fn.l.flatMap ncs) → NewR w' p 48 v2 (0 + x.r.tn.l.length) ([] ++ x.r.tn.l.flatMap ncs) → NewR w' p 50 v3 (0 + x.r.fp.l.length) ([] ++ x.r.fp.l.flatMap scs) → NewR w' p 50 v4 (0 + x.r.tp.l.length) ([] ++ x.r.tp.l.flatMap scs) → RuleAt w' z := fun w' n1 n2 n3 n4 => by
          have q1 := OwnZ_rd n1.1
          have q2 := OwnZ_rd n2.1
          have q3 := OwnZ_rd n3.1
          have q4 := OwnZ_rd n4.1
          rw [Nat.zero_add, List.nil_append] at q1 q2 q3 q4
          obtain ⟨l1, l2, l3, l4, _⟩ := hf
          rw [hz, hy2, hy1]
          exact ⟨q1, q3, q2, q4, ⟨a5, _, c5, e5⟩, by show x.r.fn.l.length ≤ _; omega, by show x.r.fp.l.length ≤ _; omega, by show x.r.tn.l.length ≤ _; omega, by show x.r.tp.l.length ≤ _; omega⟩
        have hzl : Lk x.r z := fun t dir => by rw [hz, hy2, hy1]; rfl
        have hz0 := hzA w19 N1 N2 N3 N4
        clear hz hy1 hy2
        -- the row
        refine W.list ?_
        have d2 : CellsAt w19 p 0 15 z.cs := hb19.cells
        obtain ⟨am, cm, hvm, _⟩ := C.own.slice
        subst hvm
        apply Ls.runK LO [0, 4, 44, 45] 2
        · repeat' (first | rfl | with_reducible assumption | assumption | constructor)
        intro w20 f20 s20 hf20
        replace hf20 : f20 = [(0, _), (4, _), (44, _), (45, _)] := hf20
        subst hf20
        have C := C.same s20
        refine Ls.buildOne rfl rfl rfl rfl und_rules hiR hzR hsR rfl rfl rfl rfl (cells := z.cs) rfl rfl ?_
        have hr21 := reads_oneZ w20 37 z.cs 15 rfl
        have m21 : Mv (fun _ => False) w20 (w20.alloc (.cells z.cs.toArray 37)) := (Mv.refl _ w20).alloc _
        generalize w20.alloc (.cells z.cs.toArray 37) = w21 at hr21 m21
        have C := C.non m21
        have m1921 : Mv (fun _ => False) w19 w21 := ((Mv.refl _ w19).same s20).trans m21
        have N1 := N1.moved m1921 fun _ e => e.elim
        have N2 := N2.moved m1921 fun _ e => e.elim
        have N3 := N3.moved m1921 fun _ e => e.elim
        have N4 := N4.moved m1921 fun _ e => e.elim
        have hp21 := (hb19.moved m1921 fun e => e).lt
        have hbM : (M.length + 1) * bR ≤ 51 * 1000 := Nat.mul_le_mul (by omega) hbR1
        refine Ls.appendZ rfl rfl rfl rfl und_rules hiR hzR hsR hbR rfl (by decide) (v := .slice am M.length cm) rfl rfl C.own hr21 (fun u hu => List.all_eq_true.1 hz0.all u hu) (by simp only [maxLen]; omega) (by omega) ?_
        intro v6 w22 ho22 m22 hb22
        have mw : Mv (fun _ => False) w w22 := C.mv.cut m22 fun k hk e => by have := C.fr k e; omega
        have hsz := m22.size
        have hG : CL2 w w22 v6 (M ++ [z]) := by
          refine ⟨mw, ?_, fun r hr => ?_, fun k hk => ?_⟩
          · rw [List.length_append, List.length_singleton, List.flatMap_append]
            have : [z].flatMap RuleV.cs = z.cs := by simp
            rw [this]
            exact ho22
          · rcases List.mem_append.1 hr with hr | hr
            · obtain ⟨g1, g2⟩ := C.g r hr
              refine ⟨g1.movedS m22 fun v hv k hk e => (g2 v hv k hk).2 e, fun v hv k hk => ?_⟩
              obtain ⟨o1, o2⟩ := g2 v hv k hk
              refine ⟨by omega, fun e => ?_⟩
              rcases hb22 with e1 | e1
              · exact o2 (e1.symm.trans e)
              · rw [e1] at e; have := Option.some.inj e; omega
            · obtain rfl := List.mem_singleton.1 hr
              have hs : ∀ k, (Value.slice am M.length cm).ownBlock = some k → k ≤ p := fun k e => by have := C.vr k e; omega
              refine ⟨hzA w22 (N1.moved m22 hs) (N2.moved m22 hs) (N3.moved m22 hs) (N4.moved m22 hs), fun v hv k hk => ?_⟩
              have hpk : p < k ∧ k < w21.heap.size := by
                rw [hzv] at hv
                simp only [List.mem_cons, List.not_mem_nil, or_false] at hv
                rcases hv with rfl | rfl | rfl | rfl
                · exact ⟨N1.2 k hk, N1.1.lt k hk⟩
                · exact ⟨N3.2 k hk, N3.1.lt k hk⟩
                · exact ⟨N2.2 k hk, N2.1.lt k hk⟩
                · exact ⟨N4.2 k hk, N4.1.lt k hk⟩
              refine ⟨by omega, fun e => ?_⟩
              rcases hb22 with e1 | e1
              · have := C.vr k (e1.symm.trans e); omega
              · rw [e1] at e; have := Option.some.inj e; omega
          · rcases hb22 with e1 | e1
            · exact C.fr k (e1.symm.trans hk)
            · rw [e1] at hk; have := Option.some.inj hk; have := C.mv.size; omega
        apply Ls.runK LO [0, 3, 4] 1
        · repeat' (first | rfl | with_reducible assumption | assumption | constructor)
        intro w23 f23 s23 hf23
        replace hf23 : f23 = [(0, _), (3, _), (4, _)] := hf23
        subst hf23
        refine Ls.nil (N.inb (N.cut ⟨v6, M ++ [z], ⟨by rw [List.length_append]; rfl, hG.same s23, fun j r r' hj hr' => ?_⟩, rfl⟩ (sub_keys rfl)))
        rw [List.getElem?_append] at hr'
        split at hr'
        · exact hlk j r r' hj hr'
        · have hjl := (List.getElem?_eq_some_iff.1 hr').1
          simp only [List.length_singleton] at hjl
          obtain rfl : j = i := by omega
          rw [hM, Nat.sub_self] at hr'
          obtain rfl : z = r' := by simpa using hr'
          rw [List.getElem?_map, hx] at hj
          obtain rfl : x.r = r := by simpa using hj
          exact hzl
      · clear C
        rintro w6 _ ⟨vm', M', ⟨hM', C, hlk'⟩, rfl⟩
        have k6 : Kn (IntKind.i64.wrap ((i : Int) + 1)) ((i + 1 : Nat) : Int) := .of (IntWalk.i64_in _ (by omega))
        apply W.readN LO mixed [0, 3, 4] (by kernel_rfl)
        · repeat' (first | rfl | with_reducible assumption | assumption | constructor)
        intro w7 f7 s7 hf7
        replace hf7 : f7 = [(0, _), (3, _), (4, _)] := hf7
        subst hf7
        exact N.round (k - 1) _ (by omega) ⟨i + 1, vm', M', by omega, by omega, C.same s7, hlk', rfl⟩ (sub_keys rfl)
    · have k1 : Kn (decide ((i : Int) < (l.length : Int))) false := .no (by omega)
      refine W.seq ?_
      apply W.readS LO mixed [3, 9] (by kernel_rfl)
      · repeat' (first | rfl | with_reducible assumption | assumption | constructor)
      intro w5 f5 s5 hf5
      replace hf5 : f5 = [(3, _), (9, _)] := hf5
      subst hf5
      refine W.cond (b := false) rfl (fun h => by cases h) (fun _ => W.exit ?_)
      exact N.thenE (N.thenE (N.out (N.cut ⟨vm, M, ⟨C.same s5, by omega, hlk⟩, rfl⟩ (sub_keys rfl))))
  rintro w3 _ ⟨vm, M, ⟨C, hM, hlk⟩, rfl⟩
  apply W.readS LO mixed [2] (by kernel_rfl)
  · repeat' (first | rfl | with_reducible assumption | assumption | constructor)
  intro w4 f4 s4 hf4
  replace hf4 : f4 = [(2, _)] := hf4
  subst hf4
  have C := C.same s4
  exact W.ret (post LO (rs := [.tmp 2]) rfl (vs := [vm]) (.tmp rfl .nil) ⟨vm, M, rfl, ⟨OwnZ_rd C.own, fun r hr => (C.g r hr).1⟩, hM, hlk, C.mv⟩)
end Go.Proofs.Ytbbafhpnlmmjjaa
