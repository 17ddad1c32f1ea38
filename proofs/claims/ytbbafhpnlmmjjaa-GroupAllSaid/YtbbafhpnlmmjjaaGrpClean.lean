/- What is proved: the reference's Clean comes to some set. Conditions: those that stand in each theorem. -/
import Derived.Test.YtbbafhpnlmmjjaaGrpRef3
namespace Go.Proofs.Ytbbafhpnlmmjjaa
set_option linter.unusedVariables false
set_option linter.unusedSimpArgs false
set_option linter.unusedSectionVars false
open Go.RowKit Fw
theorem OwnZ_rd {w : World} {e z n : Nat} {v : Value} {xs : List Value} (h : OwnZ w e z v n xs) : Rd w z v n xs := by
  obtain ⟨a, c, hv, hnc, hnil, hblk⟩ := h.slice
  refine ⟨a, c, hv, hnc, hnil, h.len, fun j u hj => ?_⟩
  obtain ⟨a', c', hv', _, _, hr⟩ := h.reads
  rw [hv] at hv'
  injection hv' with e1 _ e3
  subst e1 e3
  obtain ⟨x, hx, hc⟩ := hr j u hj
  obtain ⟨hb, _⟩ := hblk x hx
  refine ⟨x.block, 0, by rw [hx, hb], ?_⟩
  rw [hb, Addr.add_lit] at hc
  exact hc
theorem cell_in {w : World} {a : Addr} {v : Value} (h : w.cell? a = some v) : a.block < w.heap.size := by
  unfold World.cell? at h
  cases hb : w.heap[a.block]? with
  | none => rw [hb] at h; cases h
  | some o => exact (Array.getElem?_eq_some_iff.1 hb).1
def CleanPost (s : SetV) (w : World) (e : Ending) (w' : World) : Prop := ∃ t : SetV, e = .returned (.agg t.cs.toArray) ∧ NetsAt w' t ∧ t.l.length ≤ s.l.length ∧ Mv (fun _ => False) w w' ∧ ∀ k, t.v.ownBlock = some k → w.heap.size ≤ k ∧ k < w'.heap.size
/-- The set under way. -/
structure CL (s : SetV) (w w' : World) (r q p : Nat) (vm : Value) (M : List (Int × Int)) : Prop where
  mv : Mv (fun _ => False) w w'
  br : B2 w' r 31 (.bool s.not) s.v
  bq : B2 w' q 31 (.bool false) (.slice none 0 0)
  bp : B2 w' p 31 (.bool s.not) vm
  own : OwnZ w' 48 2 vm M.length (M.flatMap ncs)
  fr : ∀ k, vm.ownBlock = some k → p < k
theorem CL.non {s : SetV} {w w' w'' : World} {r q p : Nat} {vm : Value} {M : List (Int × Int)} (h : CL s w w' r q p vm M) (m : Mv (fun _ => False) w' w'') : CL s w w'' r q p vm M := ⟨h.mv.trans m, h.br.moved m, h.bq.moved m, h.bp.moved m, h.own.moved m fun _ _ e => e, h.fr⟩
theorem CL.same {s : SetV} {w w' w'' : World} {r q p : Nat} {vm : Value} {M : List (Int × Int)} (h : CL s w w' r q p vm M) (s' : Same w' w'') : CL s w w'' r q p vm M := h.non ((Mv.refl _ w').same s')
set_option maxRecDepth 100000 in
set_option maxHeartbeats 8000000 in
theorem clean_walk (s : SetV) (w : World) (h : NetsAt w s) (hl : s.l.length ≤ 1000000) : Calls Try.prog 20 #[.agg s.cs.toArray] w (CleanPost s w) := by
  obtain ⟨iN, hiN, hzN, hsN, hbN⟩ := info_net
  refine calls_W (n := 110) (vs := [.agg s.cs.toArray]) Try.func20 rfl rfl rfl ?_
  refine W.seq (W.list ?_)
  obtain ⟨hv1, hv2⟩ := h.one
  refine Ls.box rfl rfl rfl rfl rfl (vs := s.cs) rfl ?_
  have hb1 : B2 (w.alloc (.cells s.cs.toArray 31)) w.heap.size 31 (.bool s.not) s.v := heap_alloc_new w (.cells s.cs.toArray 31)
  have m1 : Mv (fun _ => False) w (w.alloc (.cells s.cs.toArray 31)) := (Mv.refl _ w).alloc _
  have z1 := size_alloc' w (.cells s.cs.toArray 31)
  generalize w.alloc (.cells s.cs.toArray 31) = w1 at hb1 m1 z1
  obtain ⟨r, hr⟩ : ∃ r, r = w.heap.size := ⟨_, rfl⟩
  rw [← hr] at hb1
  rw [← hr]
  refine Ls.alloc LO rfl rfl rfl rfl (zs := [.bool false, .slice none 0 0]) rfl ?_
  have hq2 : B2 (w1.alloc (.cells [Value.bool false, .slice none 0 0].toArray 31)) w1.heap.size 31 (.bool false) (.slice none 0 0) := heap_alloc_new w1 (.cells [Value.bool false, .slice none 0 0].toArray 31)
  have m2 : Mv (fun _ => False) w1 (w1.alloc (.cells [Value.bool false, .slice none 0 0].toArray 31)) := (Mv.refl _ w1).alloc _
  generalize w1.alloc (.cells [Value.bool false, .slice none 0 0].toArray 31) = w2 at hq2 m2
  obtain ⟨q, hq⟩ : ∃ q, q = w1.heap.size := ⟨_, rfl⟩
  rw [← hq] at hq2
  rw [← hq]
  have hb2 := hb1.moved m2
  have m2 := m1.trans m2
  clear hb1 m1
  refine Ls.nil (N.to ?_)
  have hrq : r ≠ q := by omega
  have hqw : w.heap.size ≤ q := by omega
  refine W.cutS (fun w' g => (Mv (fun _ => False) w w' ∧ B2 w' r 31 (.bool s.not) s.v ∧ B2 w' q 31 (.bool false) (.slice none 0 0) ∧ g = [(1, .pointer (some ⟨r, 0, none⟩)), (2, .pointer (some ⟨q, 0, none⟩))]) ∧ s.check = true) ?_ ?_
  · refine W.seq (W.list ?_)
    have d1 := hb2.cells
    apply Ls.runK LO [1, 2, 8] 1
    · repeat' (first | rfl | with_reducible assumption | assumption | constructor)
    intro w3 f3 s3 hf3
    replace hf3 : f3 = [(1, _), (2, _), (8, _)] := hf3
    subst hf3
    have m3 := m2.same s3
    refine Ls.call LO rfl rfl rfl rfl rfl (vs := [.agg s.cs.toArray]) rfl (rcheck_walk s w3 (h.moved m3) (by omega)) ?_
    rintro _ w4 ⟨rfl, m4'⟩
    refine ⟨_, rfl, ?_⟩
    have m24 := ((Mv.refl (fun _ => False) w2).same s3).trans m4'
    have hb4 := hb2.moved m24
    have hq4 := hq2.moved m24
    have m4 := m2.trans m24
    apply Ls.runK LO [1, 2, 10] 1
    · repeat' (first | rfl | with_reducible assumption | assumption | constructor)
    intro w5 f5 s5 hf5
    replace hf5 : f5 = [(1, _), (2, _), (10, _)] := hf5
    subst hf5
    refine Ls.nil (N.to ?_)
    have m5 := m4.same s5
    have hb5 := hb4.moved ((Mv.refl _ w4).same s5)
    have hq5 := hq4.moved ((Mv.refl _ w4).same s5)
    cases hck : s.check with
    | false =>
      refine W.cond (b := true) rfl (fun _ => ?_) (fun h => by cases h)
      refine W.seq (W.list ?_)
      apply Ls.runK LO [2, 11] 1
      · repeat' (first | rfl | with_reducible assumption | assumption | constructor)
      intro w6 f6 s6 hf6
      replace hf6 : f6 = [(2, _), (11, _)] := hf6
      subst hf6
      have hq6 := hq5.moved ((Mv.refl _ w5).same s6)
      refine Ls.store LO rfl rfl rfl rfl rfl (vs := [.bool false, .slice none 0 0]) rfl rfl rfl hq6 rfl ?_
      intro w7 hb7 m7 _
      have hq7 : B2 w7 q 31 (.bool false) (.slice none 0 0) := hb7
      refine Ls.nil (N.to (W.ret ?_))
      exact post (fn := Try.f20) (R := CleanPost s w) LO (rs := [.cell 2 31]) rfl (vs := [.agg S0.cs.toArray]) (.cell rfl rfl (.agg hq7.cells) .nil) ⟨S0, rfl, Rd.nil _ _, Nat.zero_le _, (m5.same s6).cut m7 fun k hk e => by omega, fun k hk => by cases hk⟩
    | true =>
      refine W.cond (b := false) rfl (fun h => by cases h) (fun _ => W.skip ?_)
      exact N.cut ⟨⟨m5, hb5, hq5, rfl⟩, rfl⟩ (sub_keys rfl)
  clear hb2 hq2 m2
  rintro w3 _ ⟨⟨m3, hb3, hq3, rfl⟩, hck⟩
  obtain ⟨a, c, hv⟩ := h.len
  have hall : ∀ x ∈ s.l, 0 ≤ x.2 ∧ x.2 ≤ 32 := fun x hx => by
    unfold SetV.check at hck
    rw [Bool.and_eq_true] at hck
    have := List.all_eq_true.1 hck.2 x hx
    unfold okN at this
    simpa using this
  refine W.seq (W.list ?_)
  obtain ⟨c0, c1⟩ := hb3.cls
  apply Ls.runK LO [1, 2, 14] 3
  · repeat' (first | rfl | with_reducible assumption | assumption | constructor)
  intro w4 f4 s4 hf4
  replace hf4 : f4 = [(1, _), (2, _), (14, _)] := hf4
  subst hf4
  have m4 := m3.same s4
  have hb4 := hb3.moved ((Mv.refl _ w3).same s4)
  have hq4 := hq3.moved ((Mv.refl _ w3).same s4)
  clear c0 c1 m3 hb3 hq3 s4
  refine Ls.alloc LO rfl rfl rfl rfl (zs := [.bool false, .slice none 0 0]) rfl ?_
  have hp5 := heap_alloc_new w4 (.cells [Value.bool false, .slice none 0 0].toArray 31)
  have m5 : Mv (fun _ => False) w4 (w4.alloc (.cells [Value.bool false, .slice none 0 0].toArray 31)) := (Mv.refl _ w4).alloc _
  generalize w4.alloc (.cells [Value.bool false, .slice none 0 0].toArray 31) = w5 at hp5 m5
  obtain ⟨p, hp⟩ : ∃ p, p = w4.heap.size := ⟨_, rfl⟩
  rw [← hp] at hp5
  rw [← hp]
  refine Ls.store LO rfl rfl rfl rfl rfl (vs := [.bool s.not, .slice none 0 0]) rfl rfl rfl hp5 rfl ?_
  intro w6 hp6 m6 _
  have hp6 : B2 w6 p 31 (.bool s.not) (.slice none 0 0) := hp6
  have m46 : Mv (fun _ => False) w4 w6 := m5.cut m6 fun k hk e => by omega
  have hb6 := hb4.moved m46
  have hq6 := hq4.moved m46
  have hrp : r ≠ p ∧ q < p := by
    have := (Array.getElem?_eq_some_iff.1 hb4).1
    have := (Array.getElem?_eq_some_iff.1 hq4).1
    omega
  have hpw : w.heap.size ≤ p := by have := m4.size; omega
  have m6 := m4.trans m46
  clear hp5 m5 m46 hb4 hq4 m4 hp
  refine Ls.nil (N.to ?_)
  have C : CL s w w6 r q p (.slice none 0 0) [] := ⟨m6, hb6, hq6, hp6, OwnZ.nil _ _ _, fun k hk => (by cases hk)⟩
  clear m6 hb6 hq6 hp6
  refine W.cutS (fun w' g => ∃ (vm : Value) (M : List (Int × Int)), (CL s w w' r q p vm M ∧ M.length ≤ s.l.length) ∧ g = [(2, .pointer (some ⟨q, 0, none⟩)), (3, .pointer (some ⟨p, 0, none⟩))]) ?_ ?_
  ·
    apply W.readS LO mixed [1, 2, 3, 4] (by kernel_rfl)
    · repeat' (first | rfl | with_reducible assumption | assumption | constructor)
    intro w7 f7 s7 hf7
    replace hf7 : f7 = [(1, _), (2, _), (3, _), (4, _)] := hf7
    subst hf7
    have C := C.same s7
    refine W.block (W.loop (fun k w' g => ∃ (i : Nat) (vm : Value) (M : List (Int × Int)), k + i = s.l.length ∧ CL s w w' r q p vm M ∧ M.length ≤ i ∧ g = [(1, .pointer (some ⟨r, 0, none⟩)), (2, .pointer (some ⟨q, 0, none⟩)), (3, .pointer (some ⟨p, 0, none⟩)), (4, .int .i64 (i : Nat))]) s.l.length _ ⟨0, _, [], rfl, C, Nat.le_refl _, rfl⟩ (sub_keys rfl) ?_)
    clear C s7
    rintro k w8 _ ⟨i, vm, M, hki, C, hM, rfl⟩
    have cl := fun w' (m : Mv (fun _ => False) w8 w') => (C.non m).br.cls.2
    rw [hv] at cl
    have c1 := cl w8 (Mv.refl _ _)
    by_cases hlt : i < s.l.length
    · have k1 : Kn (decide ((i : Int) < (s.l.length : Int))) true := .yes (by omega)
      refine W.seq ?_
      apply W.readS LO mixed [1, 2, 3, 4, 19] (by kernel_rfl)
      · repeat' (first | rfl | with_reducible assumption | assumption | constructor)
      intro w9 f9 s9 hf9
      replace hf9 : f9 = [(1, _), (2, _), (3, _), (4, _), (19, _)] := hf9
      subst hf9
      have C := C.same s9
      clear cl c1 s9
      refine W.cond (b := true) rfl (fun _ => W.skip (N.to ?_)) (fun h => by cases h)
      obtain ⟨xi, hxi⟩ : ∃ x, s.l[i]? = some x := ⟨_, List.getElem?_eq_getElem hlt⟩
      have bi := hall xi (List.mem_of_getElem? hxi)
      obtain ⟨bN, oN, cN, hvN, _⟩ := h.at ncs_len (by decide) hxi
      have E : ∀ (k : Nat) (x : Int × Int), s.l[k]? = some x → ∀ w', Mv (fun _ => False) w w' → CellsAt w' bN (oN + (k : Int).toNat * 2) 2 (ncs x) := fun k x hk w' m => by
        obtain ⟨b', o', c', hv', hc⟩ := Rd.at ncs_len (by decide) (Rd.moved h m) hk
        rw [hvN] at hv'
        injection hv' with e1 _ _
        injection e1 with e1
        injection e1 with e2 e3 _
        rw [e2, e3]; exact hc
      have i0 : (0 : Int) ≤ (i : Int) := by omega
      have i1 : (i : Int) < (s.l.length : Int) := by omega
      refine W.cutS (fun w' g => ∃ (vm' : Value) (M' : List (Int × Int)), (CL s w w' r q p vm' M' ∧ M'.length ≤ i + 1) ∧ g = [(1, .pointer (some ⟨r, 0, none⟩)), (2, .pointer (some ⟨q, 0, none⟩)), (3, .pointer (some ⟨p, 0, none⟩)), (4, .int .i64 (i : Nat))]) ?_ ?_
      · refine W.block ?_
        apply W.readS LO mixed [1, 2, 3, 4, 5] (by kernel_rfl)
        · repeat' (first | rfl | with_reducible assumption | assumption | constructor)
        intro w10 f10 s10 hf10
        replace hf10 : f10 = [(1, _), (2, _), (3, _), (4, _), (5, _)] := hf10
        subst hf10
        have C := C.same s10
        clear s10
        refine W.cutS (fun w' g => ∃ b : Bool, CL s w w' r q p vm M ∧ g = [(1, .pointer (some ⟨r, 0, none⟩)), (2, .pointer (some ⟨q, 0, none⟩)), (3, .pointer (some ⟨p, 0, none⟩)), (4, .int .i64 (i : Nat)), (5, .bool b)]) ?_ ?_
        ·
          apply W.readS LO mixed [1, 2, 3, 4, 5, 6] (by kernel_rfl)
          · repeat' (first | rfl | with_reducible assumption | assumption | constructor)
          intro w11 f11 s11 hf11
          replace hf11 : f11 = [(1, _), (2, _), (3, _), (4, _), (5, _), (6, _)] := hf11
          subst hf11
          have C := C.same s11
          refine W.block (W.loop (fun k' w' g => ∃ (j : Nat) (b : Bool), k' + j = s.l.length ∧ CL s w w' r q p vm M ∧ g = [(1, .pointer (some ⟨r, 0, none⟩)), (2, .pointer (some ⟨q, 0, none⟩)), (3, .pointer (some ⟨p, 0, none⟩)), (4, .int .i64 (i : Nat)), (5, .bool b), (6, .int .i64 (j : Nat))]) s.l.length _ ⟨0, false, rfl, C, rfl⟩ (sub_keys rfl) ?_)
          clear C s11
          rintro k' w12 _ ⟨j, b, hkj, C, rfl⟩
          have c1 := C.br.cls.2
          rw [hv] at c1
          by_cases hjl : j < s.l.length
          · have k2 : Kn (decide ((j : Int) < (s.l.length : Int))) true := .yes (by omega)
            refine W.seq ?_
            apply W.readS LO mixed [1, 2, 3, 4, 5, 6, 26] (by kernel_rfl)
            · repeat' (first | rfl | with_reducible assumption | assumption | constructor)
            intro w13 f13 s13 hf13
            replace hf13 : f13 = [(1, _), (2, _), (3, _), (4, _), (5, _), (6, _), (26, _)] := hf13
            subst hf13
            have C := C.same s13
            clear c1 s13
            refine W.cond (b := true) rfl (fun _ => W.skip (N.to ?_)) (fun h => by cases h)
            obtain ⟨xj, hxj⟩ : ∃ x, s.l[j]? = some x := ⟨_, List.getElem?_eq_getElem hjl⟩
            have bj := hall xj (List.mem_of_getElem? hxj)
            have j0 : (0 : Int) ≤ (j : Int) := by omega
            have j1 : (j : Int) < (s.l.length : Int) := by omega
            refine W.cutS (fun w' g => ∃ b' : Bool, CL s w w' r q p vm M ∧ g = [(1, .pointer (some ⟨r, 0, none⟩)), (2, .pointer (some ⟨q, 0, none⟩)), (3, .pointer (some ⟨p, 0, none⟩)), (4, .int .i64 (i : Nat)), (5, .bool b'), (6, .int .i64 (j : Nat))]) ?_ ?_
            · refine W.block ?_
              refine W.cutS (fun w' g => ∃ b7 : Bool, CL s w w' r q p vm M ∧ g = [(1, .pointer (some ⟨r, 0, none⟩)), (2, .pointer (some ⟨q, 0, none⟩)), (3, .pointer (some ⟨p, 0, none⟩)), (4, .int .i64 (i : Nat)), (5, .bool b), (6, .int .i64 (j : Nat)), (7, .bool b7)]) ?_ ?_
              · refine W.held mixed (fun w' => Mv (fun _ => False) w13 w') [] 25 rfl (fun w' s => (Mv.refl _ w13).same s) ?_
                intro w14 s14
                have F1 : ∀ w', Mv (fun _ => False) w13 w' → Cl w' ⟨r, 1, none⟩ (.slice (some ⟨bN, oN, none⟩) s.l.length cN) := fun w' m => by rw [← hvN]; exact (C.non m).br.cls.2
                have F2 : ∀ w', Mv (fun _ => False) w13 w' → CellsAt w' bN (oN + (i : Int).toNat * 2) 2 (ncs xi) := fun w' m => E i xi hxi w' (C.mv.trans m)
                have F3 : ∀ w', Mv (fun _ => False) w13 w' → CellsAt w' bN (oN + (j : Int).toNat * 2) 2 (ncs xj) := fun w' m => E j xj hxj w' (C.mv.trans m)
                have m14 := (Mv.refl (fun _ => False) w13).same s14
                apply H.takesK LO true [1, 2, 3, 4, 5, 6, 33, 38] [0, 1, 2, 3, 4, 5, 6, 7, 8, 9] (k := 15) rfl (by kernel_rfl)
                · repeat' (first | rfl | with_reducible assumption | assumption | (intro w' hw'; replace hw' := hw' rfl; have h0' := F1 w' hw'; have h1' := F2 w' hw'; have h2' := F3 w' hw') | constructor)
                intro g_ hg_
                replace hg_ : g_ = [(1, _), (2, _), (3, _), (4, _), (5, _), (6, _), (33, _), (38, _)] := hg_
                subst hg_
                refine H.only (i := 10) rfl (by kernel_rfl) ?_
                refine Ls.call LO rfl rfl rfl rfl rfl (vs := [.agg (ncs xi).toArray, .agg (ncs xj).toArray]) rfl (cov_walk xi xj w14 (by omega) (by omega)) ?_
                rintro _ w15 ⟨rfl, m15'⟩
                have m15 := m14.trans m15'
                refine ⟨_, rfl, Ls.nil (N.goOn (fun _ => m15) ?_)⟩
                generalize covR xi xj = b1
                cases b1 with
                | false =>
                  apply H.takesK LO false [1, 2, 3, 4, 5, 6, 7] [11, 12, 13, 14, 15, 16, 17, 18, 19, 20, 21, 22, 23, 24] (k := 0) rfl (by kernel_rfl)
                  · repeat' (first | rfl | with_reducible assumption | assumption | (intro w' hw'; replace hw' := True.intro) | constructor)
                  intro g_ hg_
                  replace hg_ : g_ = [(1, _), (2, _), (3, _), (4, _), (5, _), (6, _), (7, _)] := hg_
                  subst hg_
                  exact H.done (by kernel_rfl) (N.cut ⟨false, C.non m15, rfl⟩ (sub_keys rfl))
                | true =>
                  apply H.takesK LO false [1, 2, 3, 4, 5, 6, 40] [11] (k := 13) rfl (by kernel_rfl)
                  · repeat' (first | rfl | with_reducible assumption | assumption | (intro w' hw'; replace hw' := True.intro) | constructor)
                  intro g_ hg_
                  replace hg_ : g_ = [(1, _), (2, _), (3, _), (4, _), (5, _), (6, _), (40, _)] := hg_
                  subst hg_
                  apply H.takesK LO true [1, 2, 3, 4, 5, 6, 40, 45, 50] [12, 13, 14, 15, 16, 17, 18, 19, 20, 21] (k := 3) rfl (by kernel_rfl)
                  · repeat' (first | rfl | with_reducible assumption | assumption | (intro w' hw'; replace hw' := hw' rfl; have h0' := F1 w' hw'; have h1' := F2 w' hw'; have h2' := F3 w' hw') | constructor)
                  intro g_ hg_
                  replace hg_ : g_ = [(1, _), (2, _), (3, _), (4, _), (5, _), (6, _), (40, _), (45, _), (50, _)] := hg_
                  subst hg_
                  refine H.only (i := 22) rfl (by kernel_rfl) ?_
                  refine Ls.call LO rfl rfl rfl rfl rfl (vs := [.agg (ncs xj).toArray, .agg (ncs xi).toArray]) rfl (cov_walk xj xi w15 (by omega) (by omega)) ?_
                  rintro _ w16 ⟨rfl, m16'⟩
                  have m16 := m15.trans m16'
                  refine ⟨_, rfl, Ls.nil (N.goOn (fun _ => m16) ?_)⟩
                  generalize covR xj xi = b2
                  apply H.takesK LO false [1, 2, 3, 4, 5, 6, 7] [23, 24] (k := 0) rfl (by kernel_rfl)
                  · repeat' (first | rfl | with_reducible assumption | assumption | (intro w' hw'; replace hw' := True.intro) | constructor)
                  intro g_ hg_
                  replace hg_ : g_ = [(1, _), (2, _), (3, _), (4, _), (5, _), (6, _), (7, _)] := hg_
                  subst hg_
                  exact H.done (by kernel_rfl) (N.cut ⟨b2, C.non m16, rfl⟩ (sub_keys rfl))
              · clear C
                rintro w14 _ ⟨b7, C, rfl⟩
                refine W.held mixed (fun w' => Mv (fun _ => False) w14 w') [] 29 rfl (fun w' s => (Mv.refl _ w14).same s) ?_
                intro w15 s15
                have F1 : ∀ w', Mv (fun _ => False) w14 w' → Cl w' ⟨r, 1, none⟩ (.slice (some ⟨bN, oN, none⟩) s.l.length cN) := fun w' m => by rw [← hvN]; exact (C.non m).br.cls.2
                have F2 : ∀ w', Mv (fun _ => False) w14 w' → CellsAt w' bN (oN + (i : Int).toNat * 2) 2 (ncs xi) := fun w' m => E i xi hxi w' (C.mv.trans m)
                have F3 : ∀ w', Mv (fun _ => False) w14 w' → CellsAt w' bN (oN + (j : Int).toNat * 2) 2 (ncs xj) := fun w' m => E j xj hxj w' (C.mv.trans m)
                have m15 := (Mv.refl (fun _ => False) w14).same s15
                cases b with
                | true =>
                  apply H.takesK LO false [1, 2, 3, 4, 5, 6] [0, 1, 2, 3, 4, 5, 6, 7, 8, 9, 10, 11, 12, 13, 14, 15, 16, 17, 18, 19, 20, 21, 22, 23, 24, 25, 26, 27, 28] (k := 0) rfl (by kernel_rfl)
                  · repeat' (first | rfl | with_reducible assumption | assumption | (intro w' hw'; replace hw' := True.intro) | constructor)
                  intro g_ hg_
                  replace hg_ : g_ = [(1, _), (2, _), (3, _), (4, _), (5, _), (6, _)] := hg_
                  subst hg_
                  exact H.done (by kernel_rfl) (N.inb (N.cut ⟨true, C.non m15, rfl⟩ (sub_keys rfl)))
                | false =>
                  by_cases hij : j = i
                  · have k3 : Kn ((j : Int) != (i : Int)) false := .of (by rw [hij]; simp)
                    apply H.takesK LO false [1, 2, 3, 4, 5, 6] [0, 1, 2, 3, 4, 5, 6, 7, 8, 9, 10, 11, 12, 13, 14, 15, 16, 17, 18, 19, 20, 21, 22, 23, 24, 25, 26, 27, 28] (k := 0) rfl (by kernel_rfl)
                    · repeat' (first | rfl | with_reducible assumption | assumption | (intro w' hw'; replace hw' := True.intro) | constructor)
                    intro g_ hg_
                    replace hg_ : g_ = [(1, _), (2, _), (3, _), (4, _), (5, _), (6, _)] := hg_
                    subst hg_
                    exact H.done (by kernel_rfl) (N.inb (N.cut ⟨false, C.non m15, rfl⟩ (sub_keys rfl)))
                  · have k3 : Kn ((j : Int) != (i : Int)) true := .of (by rw [bne_iff_ne]; omega)
                    apply H.takesK LO false [1, 2, 3, 4, 5, 6, 7, 54, 58] [0, 1, 2, 3, 4, 5] (k := 23) rfl (by kernel_rfl)
                    · repeat' (first | rfl | with_reducible assumption | assumption | (intro w' hw'; replace hw' := True.intro) | constructor)
                    intro g_ hg_
                    replace hg_ : g_ = [(1, _), (2, _), (3, _), (4, _), (5, _), (6, _), (7, _), (54, _), (58, _)] := hg_
                    subst hg_
                    apply H.takesK LO true [1, 2, 3, 4, 5, 6, 7, 54, 58, 63, 68] [6, 7, 8, 9, 10, 11, 12, 13, 14, 15] (k := 13) rfl (by kernel_rfl)
                    · repeat' (first | rfl | with_reducible assumption | assumption | (intro w' hw'; replace hw' := hw' rfl; have h0' := F1 w' hw'; have h1' := F2 w' hw'; have h2' := F3 w' hw') | constructor)
                    intro g_ hg_
                    replace hg_ : g_ = [(1, _), (2, _), (3, _), (4, _), (5, _), (6, _), (7, _), (54, _), (58, _), (63, _), (68, _)] := hg_
                    subst hg_
                    refine H.only (i := 16) rfl (by kernel_rfl) ?_
                    refine Ls.call LO rfl rfl rfl rfl rfl (vs := [.agg (ncs xj).toArray, .agg (ncs xi).toArray]) rfl (cov_walk xj xi w15 (by omega) (by omega)) ?_
                    rintro _ w16 ⟨rfl, m16'⟩
                    have m16 := m15.trans m16'
                    refine ⟨_, rfl, Ls.nil (N.goOn (fun _ => m16) ?_)⟩
                    generalize covR xj xi = b2
                    cases b2 with
                    | false =>
                      apply H.takesK LO false [1, 2, 3, 4, 5, 6] [17, 18, 19, 20, 21, 22, 23, 24, 25, 26, 27, 28] (k := 0) rfl (by kernel_rfl)
                      · repeat' (first | rfl | with_reducible assumption | assumption | (intro w' hw'; replace hw' := True.intro) | constructor)
                      intro g_ hg_
                      replace hg_ : g_ = [(1, _), (2, _), (3, _), (4, _), (5, _), (6, _)] := hg_
                      subst hg_
                      exact H.done (by kernel_rfl) (N.inb (N.cut ⟨false, C.non m16, rfl⟩ (sub_keys rfl)))
                    | true =>
                      cases b7 with
                      | false =>
                        apply H.takesK LO false [1, 2, 3, 4, 5, 6] [17, 18, 19, 20, 21, 22, 23, 24, 25, 26, 27, 28] (k := 0) rfl (by kernel_rfl)
                        · repeat' (first | rfl | with_reducible assumption | assumption | (intro w' hw'; replace hw' := True.intro) | constructor)
                        intro g_ hg_
                        replace hg_ : g_ = [(1, _), (2, _), (3, _), (4, _), (5, _), (6, _)] := hg_
                        subst hg_
                        exact H.done (by kernel_rfl) (N.inb (N.cut ⟨true, C.non m16, rfl⟩ (sub_keys rfl)))
                      | true =>
                        apply H.takesK LO false [1, 2, 3, 4, 5, 6] [17, 18, 19, 20, 21, 22, 23, 24, 25, 26, 27, 28] (k := 0) rfl (by kernel_rfl)
                        · repeat' (first | rfl | with_reducible assumption | assumption | (intro w' hw'; replace hw' := True.intro) | constructor)
                        intro g_ hg_
                        replace hg_ : g_ = [(1, _), (2, _), (3, _), (4, _), (5, _), (6, _)] := hg_
                        subst hg_
                        exact H.done (by kernel_rfl) (N.inb (N.cut ⟨_, C.non m16, rfl⟩ (sub_keys rfl)))
            · clear C
              rintro w14 _ ⟨b', C, rfl⟩
              have k5 : Kn (IntKind.i64.wrap ((j : Int) + 1)) ((j + 1 : Nat) : Int) := .of (IntWalk.i64_in _ (by omega))
              apply W.readN LO mixed [1, 2, 3, 4, 5, 6] (by kernel_rfl)
              · repeat' (first | rfl | with_reducible assumption | assumption | constructor)
              intro w15 f15 s15 hf15
              replace hf15 : f15 = [(1, _), (2, _), (3, _), (4, _), (5, _), (6, _)] := hf15
              subst hf15
              exact N.round (k' - 1) _ (by omega) ⟨j + 1, b', by omega, C.same s15, rfl⟩ (sub_keys rfl)
          · have k2 : Kn (decide ((j : Int) < (s.l.length : Int))) false := .no (by omega)
            refine W.seq ?_
            apply W.readS LO mixed [1, 2, 3, 4, 5, 26] (by kernel_rfl)
            · repeat' (first | rfl | with_reducible assumption | assumption | constructor)
            intro w13 f13 s13 hf13
            replace hf13 : f13 = [(1, _), (2, _), (3, _), (4, _), (5, _), (26, _)] := hf13
            subst hf13
            refine W.cond (b := false) rfl (fun h => by cases h) (fun _ => W.exit ?_)
            exact N.thenE (N.thenE (N.out (N.cut ⟨b, C.same s13, rfl⟩ (sub_keys rfl))))
        · clear C
          rintro w11 _ ⟨b, C, rfl⟩
          apply W.readS LO mixed [1, 2, 3, 4, 82] (by kernel_rfl)
          · repeat' (first | rfl | with_reducible assumption | assumption | constructor)
          intro w12 f12 s12 hf12
          replace hf12 : f12 = [(1, _), (2, _), (3, _), (4, _), (82, _)] := hf12
          subst hf12
          have C := C.same s12
          clear s12
          cases b with
          | true =>
            refine W.cond (b := false) rfl (fun h => by cases h) (fun _ => W.skip ?_)
            exact N.inb (N.cut ⟨vm, M, ⟨C, by omega⟩, rfl⟩ (sub_keys rfl))
          | false =>
            refine W.cond (b := true) rfl (fun _ => ?_) (fun h => by cases h)
            have hrp' : r < p := by omega
            have F1 : ∀ w', Mv (fun k => vm.ownBlock = some k) w12 w' → Cl w' ⟨r, 1, none⟩ (.slice (some ⟨bN, oN, none⟩) s.l.length cN) := fun w' m => by
              have e : B2 w' r 31 (.bool s.not) s.v := (m.block r (Array.getElem?_eq_some_iff.1 C.br).1 fun e => by have := C.fr r e; omega).trans C.br
              rw [← hvN]; exact e.cls.2
            have nb : ∀ k, bN = k → ¬ vm.ownBlock = some k := fun k hk e => by have := C.fr k e; have := cell_in ((E i xi hxi w (Mv.refl _ w)).get 0 _ rfl); simp only at this; omega
            have F2a : ∀ w', Mv (fun k => vm.ownBlock = some k) w12 w' → Cl w' ⟨bN, oN + (i : Int).toNat * 2 + 0, none⟩ (.int .u32 xi.1) := fun w' m => ⟨m.cell ((E i xi hxi w12 C.mv).get 0 _ rfl) (nb _ rfl)⟩
            have F2b : ∀ w', Mv (fun k => vm.ownBlock = some k) w12 w' → Cl w' ⟨bN, oN + (i : Int).toNat * 2 + 1, none⟩ (.int .i64 xi.2) := fun w' m => ⟨m.cell ((E i xi hxi w12 C.mv).get 1 _ rfl) (nb _ rfl)⟩
            obtain ⟨am, cm, hvm, _⟩ := C.own.slice
            have F3 : ∀ w', Mv (fun k => vm.ownBlock = some k) w12 w' → Cl w' ⟨p, 1, none⟩ vm := fun w' m => by
              have e : B2 w' p 31 (.bool s.not) vm := (m.block p (Array.getElem?_eq_some_iff.1 C.bp).1 fun e => by have := C.fr p e; omega).trans C.bp
              exact e.cls.2
            refine W.held mixed (fun w' => Mv (fun k => vm.ownBlock = some k) w12 w') [26] 27 rfl (fun w' s => (Mv.refl _ w12).same s) ?_
            intro w12a s12a
            apply H.takesK LO true [1, 2, 3, 4, 84, 90, 96, 104] [0, 1, 2, 3, 4, 5, 6, 7, 8, 9, 10, 11, 12, 13, 16, 17, 18, 19, 20, 21] (k := 7) rfl (by kernel_rfl)
            · repeat' (first | rfl | with_reducible assumption | assumption | (intro w' hw'; replace hw' := hw' rfl; have h0' := F1 w' hw'; have h1' := F2a w' hw'; have h2' := F2b w' hw'; have h3' := F3 w' hw') | constructor)
            intro g_ hg_
            replace hg_ : g_ = [(1, _), (2, _), (3, _), (4, _), (84, _), (90, _), (96, _), (104, _)] := hg_
            subst hg_
            refine H.only (i := 14) rfl (by kernel_rfl) ?_
            refine Ls.call LO rfl rfl rfl rfl rfl (vs := [.int .i64 xi.2]) rfl (mask_says xi.2 w12a (by omega) (by omega)) ?_
            rintro _ w13 ⟨rfl, s13⟩
            have m13 : Mv (fun k => vm.ownBlock = some k) w12 w13 := ((Mv.refl _ w12).same s12a).same s13
            refine ⟨_, rfl, Ls.nil (N.goOn (fun _ => m13) ?_)⟩
            have C := (C.same s12a).same s13
            apply H.takesK LO false [1, 2, 3, 4, 84, 105] [15, 22] (k := 4) rfl (by kernel_rfl)
            · repeat' (first | rfl | with_reducible assumption | assumption | (intro w' hw'; replace hw' := True.intro) | constructor)
            intro g_ hg_
            replace hg_ : g_ = [(1, _), (2, _), (3, _), (4, _), (84, _), (105, _)] := hg_
            subst hg_
            obtain ⟨y, hy⟩ : ∃ y : Int × Int, y = (bits .and .u32 xi.1 (mkR xi.2), xi.2) := ⟨_, rfl⟩
            refine H.only (i := 23) rfl (by kernel_rfl) ?_
            refine Ls.buildOne rfl rfl rfl rfl und_nets hiN hzN hsN rfl rfl rfl rfl (cells := ncs y) (by rw [hy]; rfl) rfl ?_
            have hr14 := reads_oneZ w13 48 (ncs y) 2 rfl
            have m14 : Mv (fun _ => False) w13 (w13.alloc (.cells (ncs y).toArray 48)) := (Mv.refl _ w13).alloc _
            generalize w13.alloc (.cells (ncs y).toArray 48) = w14 at hr14 m14
            have C := C.non m14
            have m14 : Mv (fun k => vm.ownBlock = some k) w12 w14 := m13.trans (m14.mono fun _ e => e.elim)
            refine Ls.nil (N.goOn (fun _ => m14) ?_)
            refine H.only (i := 24) rfl (by kernel_rfl) ?_
            have hp14 : p < w14.heap.size := (Array.getElem?_eq_some_iff.1 C.bp).1
            refine Ls.appendZ rfl rfl rfl rfl und_nets hiN hzN hsN hbN rfl (by decide) rfl rfl C.own hr14 (fun u hu => ?_) (by simp only [maxLen]; omega) (by omega) ?_
            · simp only [ncs, List.mem_cons, List.not_mem_nil, or_false] at hu
              rcases hu with rfl | rfl <;> rfl
            intro v' w15 ho15 m15 hb15
            have hfr : ∀ k, v'.ownBlock = some k → p < k := fun k hk => by
              rcases hb15 with e | e
              · exact C.fr k (by rw [← e]; exact hk)
              · rw [e] at hk; have := Option.some.inj hk; omega
            have mw15 : Mv (fun _ => False) w w15 := C.mv.cut m15 fun k hk e => by have := C.fr k e; omega
            have br15 : B2 w15 r 31 (.bool s.not) s.v := (m15.block r (Array.getElem?_eq_some_iff.1 C.br).1 fun e => by have := C.fr r e; omega).trans C.br
            have bq15 : B2 w15 q 31 (.bool false) (.slice none 0 0) := (m15.block q (Array.getElem?_eq_some_iff.1 C.bq).1 fun e => by have := C.fr q e; omega).trans C.bq
            have bp15 : B2 w15 p 31 (.bool s.not) vm := (m15.block p hp14 fun e => by have := C.fr p e; omega).trans C.bp
            refine Ls.nil (N.goOn (fun _ => m14.trans m15) ?_)
            apply H.takesK LO false [1, 2, 3, 4, 107, 108] [25] (k := 1) rfl (by kernel_rfl)
            · repeat' (first | rfl | with_reducible assumption | assumption | (intro w' hw'; replace hw' := True.intro) | constructor)
            intro g_ hg_
            replace hg_ : g_ = [(1, _), (2, _), (3, _), (4, _), (107, _), (108, _)] := hg_
            subst hg_
            obtain ⟨a2, c2, hv2, _⟩ := ho15.slice
            refine H.only (i := 26) rfl (by kernel_rfl) ?_
            refine Ls.store LO rfl rfl rfl rfl rfl (vs := [v']) (by rw [hv2]; rfl) rfl (by rw [hv2]; rfl) bp15 rfl ?_
            intro w17 hb17 m17 _
            have m1617 : Mv (· = p) w15 w17 := m17
            refine Ls.nil (N.goOn (fun hint => absurd (show true = false from hint 26 List.mem_cons_self) (by decide)) ?_)
            have hl : (M ++ [y]).length = M.length + 1 := by simp
            refine H.done (by kernel_rfl) (N.inb (N.cut ⟨v', M ++ [y], ⟨⟨mw15.cut m1617 fun k hk e => by omega, ?_, ?_, hb17, ?_, hfr⟩, by omega⟩, rfl⟩ (sub_keys rfl)))
            · exact (m1617.block r (Array.getElem?_eq_some_iff.1 br15).1 fun e => by omega).trans br15
            · exact (m1617.block q (Array.getElem?_eq_some_iff.1 bq15).1 fun e => by omega).trans bq15
            · have := ho15.moved m1617 fun k hk e => by have := hfr k hk; omega
              rw [hl, List.flatMap_append]
              simpa using this
      · clear C
        rintro w10 _ ⟨vm', M', ⟨C, hM'⟩, rfl⟩
        have k5 : Kn (IntKind.i64.wrap ((i : Int) + 1)) ((i + 1 : Nat) : Int) := .of (IntWalk.i64_in _ (by omega))
        apply W.readN LO mixed [1, 2, 3, 4] (by kernel_rfl)
        · repeat' (first | rfl | with_reducible assumption | assumption | constructor)
        intro w11 f11 s11 hf11
        replace hf11 : f11 = [(1, _), (2, _), (3, _), (4, _)] := hf11
        subst hf11
        exact N.round (k - 1) _ (by omega) ⟨i + 1, vm', M', by omega, C.same s11, by omega, rfl⟩ (sub_keys rfl)
    · have k1 : Kn (decide ((i : Int) < (s.l.length : Int))) false := .no (by omega)
      refine W.seq ?_
      apply W.readS LO mixed [2, 3, 19] (by kernel_rfl)
      · repeat' (first | rfl | with_reducible assumption | assumption | constructor)
      intro w9 f9 s9 hf9
      replace hf9 : f9 = [(2, _), (3, _), (19, _)] := hf9
      subst hf9
      refine W.cond (b := false) rfl (fun h => by cases h) (fun _ => W.exit ?_)
      exact N.thenE (N.thenE (N.out (N.cut ⟨vm, M, ⟨C.same s9, by omega⟩, rfl⟩ (sub_keys rfl))))
  clear C
  rintro w7 _ ⟨vm, M, ⟨C, hM⟩, rfl⟩
  refine W.seq (W.list ?_)
  have d1 := C.bp.cells
  apply Ls.runK LO [2, 109] 1
  · repeat' (first | rfl | with_reducible assumption | assumption | constructor)
  intro w8 f8 s8 hf8
  replace hf8 : f8 = [(2, _), (109, _)] := hf8
  subst hf8
  have C := C.same s8
  obtain ⟨am, cm, rfl, _⟩ := C.own.slice
  refine Ls.store LO rfl rfl rfl rfl rfl (vs := [.bool s.not, .slice am M.length cm]) rfl rfl rfl C.bq rfl ?_
  intro w9 hb9 m9 _
  have hq9 : B2 w9 q 31 (.bool s.not) (.slice am M.length cm) := hb9
  have ho9 := C.own.moved m9 fun k hk e => by have := C.fr k hk; omega
  refine Ls.nil (N.to (W.ret ?_))
  exact post (fn := Try.f20) (R := CleanPost s w) LO (rs := [.cell 2 31]) rfl (vs := [.agg (SetV.mk s.not (.slice am M.length cm) M).cs.toArray]) (.cell rfl rfl (.agg hq9.cells) .nil) ⟨⟨s.not, .slice am M.length cm, M⟩, rfl, OwnZ_rd ho9, hM, C.mv.cut m9 fun k hk e => by omega, fun k hk => ⟨by have := C.fr k hk; omega, ho9.lt k hk⟩⟩
end Go.Proofs.Ytbbafhpnlmmjjaa
