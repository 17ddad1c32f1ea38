/- What is proved: rules by numbers come to some rules that are well laid, each for one of three flows. Conditions: those that stand in each theorem. -/
import Derived.Test.YtbbafhpnlmmjjaaGrpClean
namespace Go.Proofs.Ytbbafhpnlmmjjaa
set_option linter.unusedVariables false
set_option linter.unusedSimpArgs false
set_option linter.unusedSectionVars false
open Go.RowKit Fw
theorem Rd.movedS {S : Nat → Prop} {w w' : World} {z n : Nat} {v : Value} {cells : List Value} (h : Rd w z v n cells) (m : Mv S w w') (hs : ∀ k, v.ownBlock = some k → ¬ S k) : Rd w' z v n cells := by
  obtain ⟨a, c, rfl, hnc, hnil, hl, hr⟩ := h
  refine ⟨a, c, rfl, hnc, hnil, hl, fun j u hj => ?_⟩
  obtain ⟨b, o, rfl, hc⟩ := hr j u hj
  exact ⟨b, o, rfl, m.cell hc (hs b rfl)⟩
/-- A part of a row. -/
theorem Rd.part1 {w : World} {a : Option Addr} {n c : Nat} {cells : List Value} (h : Rd w 1 (.slice a n c) n cells) (l k : Nat) (hlk : l ≤ k) (hk : k ≤ n) : Rd w 1 (.slice (if c = l then a else a.map (·.add (l * 1))) (k - l) (c - l)) (k - l) ((cells.drop l).take (k - l)) := by
  obtain ⟨a', c', hv, hnc, hnil, hl, hr⟩ := h
  injection hv with e1 _ e3
  subst e1 e3
  refine ⟨_, _, rfl, by omega, fun hn => ?_, by simp; omega, fun j u hj => ?_⟩
  · cases a with
    | none => have := hnil rfl; omega
    | some x => split at hn <;> cases hn
  · rw [List.getElem?_take] at hj
    split at hj
    · rename_i hjl
      rw [List.getElem?_drop] at hj
      obtain ⟨b, o, rfl, hc⟩ := hr _ _ hj
      rw [if_neg (by omega)]
      refine ⟨b, o + l * 1, ?_, ?_⟩
      · show some ((⟨b, o, none⟩ : Addr).add (l * 1)) = _
        rw [Addr.add_lit]
      · rw [← hc]; congr 2; omega
    · cases hj
def RuleV.vs (r : RuleV) : List Value := [r.fn.v, r.fp.v, r.tn.v, r.tp.v]
theorem RuleAt.movedS {S : Nat → Prop} {w w' : World} {r : RuleV} (h : RuleAt w r) (m : Mv S w w') (hs : ∀ v ∈ r.vs, ∀ k, v.ownBlock = some k → ¬ S k) : RuleAt w' r :=
  ⟨Rd.movedS h.fn m (hs _ (by simp [RuleV.vs])), Rd.movedS h.fp m (hs _ (by simp [RuleV.vs])), Rd.movedS h.tn m (hs _ (by simp [RuleV.vs])), Rd.movedS h.tp m (hs _ (by simp [RuleV.vs])), h.cv, h.few⟩
def Fl3 (r : RuleV) : Prop := r.flow = 0 ∨ r.flow = 1 ∨ r.flow = 2
/-- A rule that is well laid, away from the row and from the box. -/
structure GR (w : World) (vm : Value) (p : Nat) (r : RuleV) : Prop where
  at_ : RuleAt w r
  off : ∀ v ∈ r.vs, ∀ k, v.ownBlock = some k → k < w.heap.size ∧ vm.ownBlock ≠ some k ∧ k ≠ p
  fl : Fl3 r
theorem GR.moved {S : Nat → Prop} {w w' : World} {vm : Value} {p : Nat} {r : RuleV} (h : GR w vm p r) (m : Mv S w w') (hs : ∀ v ∈ r.vs, ∀ k, v.ownBlock = some k → ¬ S k) : GR w' vm p r :=
  ⟨h.at_.movedS m hs, fun v hv k hk => by have := h.off v hv k hk; exact ⟨Nat.lt_of_lt_of_le this.1 m.size, this.2⟩, h.fl⟩
structure RB (w w' : World) (p : Nat) (vm : Value) (M : List RuleV) (y : RuleV) : Prop where
  mv : Mv (fun _ => False) w w'
  own : OwnZ w' 37 15 vm M.length (M.flatMap RuleV.cs)
  g : ∀ r ∈ y :: M, GR w' vm p r
  bx : BX w' p 37 y.cs
  vr : ∀ k, vm.ownBlock = some k → k < p
  fr : ∀ k, vm.ownBlock = some k → w.heap.size ≤ k
  le : w.heap.size ≤ p
theorem RB.non {w w' w'' : World} {p : Nat} {vm : Value} {M : List RuleV} {y : RuleV} (h : RB w w' p vm M y) (m : Mv (fun _ => False) w' w'') : RB w w'' p vm M y :=
  ⟨h.mv.trans m, h.own.moved m fun _ _ e => e, fun r hr => (h.g r hr).moved m fun _ _ _ _ e => e, h.bx.moved m fun e => e, h.vr, h.fr, h.le⟩
theorem RB.same {w w' w'' : World} {p : Nat} {vm : Value} {M : List RuleV} {y : RuleV} (h : RB w w' p vm M y) (s : Same w' w'') : RB w w'' p vm M y := h.non ((Mv.refl _ w').same s)
theorem RB.put {w w' w'' : World} {p : Nat} {vm : Value} {M : List RuleV} {y : RuleV} (h : RB w w' p vm M y) (y' : RuleV) (hy : GR w' vm p y') (hb : w''.heap[p]? = some (.cells y'.cs.toArray 37 (0, 0))) (m : Mv (· = p) w' w'') : RB w w'' p vm M y' :=
  ⟨h.mv.cut m fun k hk e => by have := h.le; omega, h.own.moved m fun k hk e => by have := h.vr k hk; omega, fun r hr => by
    have hg : GR w' vm p r := by
      rcases List.mem_cons.1 hr with rfl | hr
      · exact hy
      · exact h.g r (List.mem_cons_of_mem _ hr)
    exact hg.moved m fun v hv k hk e => (hg.off v hv k hk).2.2 e, hb, h.vr, h.fr, h.le⟩
/-- The rules under way. -/
structure RL (w w' : World) (vm : Value) (M : List RuleV) : Prop where
  mv : Mv (fun _ => False) w w'
  own : OwnZ w' 37 15 vm M.length (M.flatMap RuleV.cs)
  g : ∀ r ∈ M, RuleAt w' r ∧ (∀ v ∈ r.vs, ∀ k, v.ownBlock = some k → k < w'.heap.size ∧ vm.ownBlock ≠ some k) ∧ Fl3 r
  fr : ∀ k, vm.ownBlock = some k → w.heap.size ≤ k
theorem RL.non {w w' w'' : World} {vm : Value} {M : List RuleV} (h : RL w w' vm M) (m : Mv (fun _ => False) w' w'') : RL w w'' vm M :=
  ⟨h.mv.trans m, h.own.moved m fun _ _ e => e, fun r hr => ⟨(h.g r hr).1.moved m, fun v hv k hk => ⟨Nat.lt_of_lt_of_le ((h.g r hr).2.1 v hv k hk).1 m.size, ((h.g r hr).2.1 v hv k hk).2⟩, (h.g r hr).2.2⟩, h.fr⟩
theorem RL.same {w w' w'' : World} {vm : Value} {M : List RuleV} (h : RL w w' vm M) (s : Same w' w'') : RL w w'' vm M := h.non ((Mv.refl _ w').same s)
theorem info_rule2 : ∃ i b, Try.prog.info? 37 = some i ∧ i.zero = some (.agg zRule.toArray) ∧ i.size = 15 ∧ i.bytes = b ∧ b ≤ 1000 := by
  have h : (Try.prog.info? 37).map (fun i => (i.zero, i.size, decide (i.bytes ≤ 1000))) = some (some (.agg zRule.toArray), 15, true) := by kernel_rfl
  obtain ⟨i, hi, e⟩ := Option.map_eq_some_iff.1 h
  injection e with e1 e2
  injection e2 with e2 e3
  exact ⟨i, _, hi, e1, e2, rfl, of_decide_eq_true e3⟩
theorem at_list (l : List Int) (k : Int) (h0 : 0 ≤ k) (h1 : k < ((l.length : Nat) : Int)) : ∃ x ∈ l, ((l.map (Value.int .i64)).toArray)[k.toNat]? = some (.int .i64 x) := by
  have hk : k.toNat < l.length := by omega
  refine ⟨l[k.toNat], List.getElem_mem hk, ?_⟩
  rw [List.getElem?_toArray, List.getElem?_map, List.getElem?_eq_getElem hk]
  rfl
theorem S0_rd (w : World) : NetsAt w S0 ∧ SpansAt w S0 := ⟨Rd.nil _ _, Rd.nil _ _⟩
def RulesPost (w : World) (e : Ending) (w' : World) : Prop := ∃ v M, e = .returned v ∧ RulesAt w' v M ∧ M.length ≤ 6 ∧ (∀ r ∈ M, Fl3 r) ∧ Mv (fun _ => False) w w'
set_option maxRecDepth 100000 in
set_option maxHeartbeats 8000000 in
theorem rules_walk (v : Value) (l : List Int) (w : World) (h : RowI w v l) (hl : l.length ≤ 1000000) : Calls Try.prog 16 #[v] w (RulesPost w) := by
  obtain ⟨iR, bR, hiR, hzR, hsR, hbR, hbR1⟩ := info_rule2
  obtain ⟨iN, hiN, hzN, hsN, hbN⟩ := info_net
  obtain ⟨iS, hiS, hzS, hsS, hbS⟩ := info_span
  obtain ⟨a, c, hv⟩ := h.1.len
  subst hv
  have hlc : l.length ≤ c := by
    obtain ⟨a', c', hv, hnc, _⟩ := h.1
    injection hv with _ _ e3
    subst e3; exact hnc
  refine calls_W (n := 97) (vs := [.slice a l.length c]) Try.func16 rfl rfl rfl ?_
  apply W.readS LO mixed [0] (by kernel_rfl)
  · repeat' (first | rfl | with_reducible assumption | assumption | constructor)
  intro w1 f1 s1 hf1
  replace hf1 : f1 = [(0, _)] := hf1
  subst hf1
  apply W.readS LO mixed [0, 3] (by kernel_rfl)
  · repeat' (first | rfl | with_reducible assumption | assumption | constructor)
  intro w2 f2 s2 hf2
  replace hf2 : f2 = [(0, _), (3, _)] := hf2
  subst hf2
  have m2 : Mv (fun _ => False) w w2 := ((Mv.refl _ w).same s1).same s2
  refine W.cutS (fun w' g => ∃ (vm : Value) (M : List RuleV), (RL w w' vm M ∧ M.length ≤ 6) ∧ g = [(3, vm)]) ?_ ?_
  ·
    apply W.readS LO mixed [0, 3, 4] (by kernel_rfl)
    · repeat' (first | rfl | with_reducible assumption | assumption | constructor)
    intro w3 f3 s3 hf3
    replace hf3 : f3 = [(0, _), (3, _), (4, _)] := hf3
    subst hf3
    refine W.block (W.loop (fun k w' g => ∃ (i : Nat) (vm : Value) (M : List RuleV), k + i = 24 ∧ M.length * 4 = i ∧ RL w w' vm M ∧
      g = [(0, .slice a l.length c), (3, vm), (4, .int .i64 i)]) 24 _ ⟨0, .slice none 0 0, [], rfl, rfl, ⟨m2.same s3, OwnZ.nil _ _ _, fun r hr => (by cases hr), fun k hk => (by cases hk)⟩, rfl⟩ (sub_keys rfl) ?_)
    clear m2 s1 s2 s3
    rintro k w4 _ ⟨i, vm, M, hk, hM, C, rfl⟩
    have k0 : Kn (IntKind.i64.wrap ((i : Int) + 3)) ((i : Int) + 3) := .of (IntWalk.i64_in _ (by omega))
    by_cases hlt : i + 3 < l.length ∧ i < 24
    · obtain ⟨hlt, h3⟩ := hlt
      have k1 : Kn (decide ((i : Int) + 3 < (l.length : Int))) true := .yes (by omega)
      have k2 : Kn (decide ((i : Int) < 24)) true := .yes (by omega)
      refine W.seq ?_
      apply W.readS LO mixed [0, 3, 4, 15] (by kernel_rfl)
      · repeat' (first | rfl | with_reducible assumption | assumption | constructor)
      intro w5 f5 s5 hf5
      replace hf5 : f5 = [(0, _), (3, _), (4, _), (15, _)] := hf5
      subst hf5
      have C := C.same s5
      clear s5 k0 k1 k2
      refine W.cond (b := true) rfl (fun _ => W.skip (N.to ?_)) (fun h => by cases h)
      refine W.cutS (fun w' g => ∃ (vm' : Value) (M' : List RuleV), (M'.length = M.length + 1 ∧ RL w w' vm' M') ∧ g = [(0, .slice a l.length c), (3, vm'), (4, .int .i64 i)]) ?_ ?_
      · refine W.block ?_
        obtain ⟨x, hx⟩ : ∃ x, l[i]? = some x := ⟨_, List.getElem?_eq_getElem (by omega)⟩
        have hx64 := h.2 x (List.mem_of_getElem? hx)
        obtain ⟨b, o, c', hv', hcell⟩ := (h.1.moved C.mv).at (f := fun n => [Value.int .i64 n]) (fun _ => rfl) (by decide) hx
        injection hv' with ea _ ec
        subst ea ec
        have cx : Cl w5 ⟨b, o + (i : Int).toNat * 1, none⟩ (.int .i64 x) := by
          cases hcell with | cons hc _ => exact hc
        have i0 : (0 : Int) ≤ (i : Int) := by omega
        have i1 : (i : Int) < (l.length : Int) := by omega
        obtain ⟨V, hV⟩ : ∃ V, V = x % 16777216 := ⟨_, rfl⟩
        have bV : 0 ≤ V ∧ V < 16777216 := by omega
        have q1 := quiet_of (w := w5) fun w' s' => place00_says x 16777216 w' (by decide) (by decide) hx64.1 hx64.2
        rw [← hV] at q1
        apply W.readS LO mixed [0, 3, 4, 5] (by kernel_rfl)
        · repeat' (first | rfl | with_reducible assumption | assumption | constructor)
        intro w6 f6 s6 hf6
        replace hf6 : f6 = [(0, _), (3, _), (4, _), (5, _)] := hf6
        subst hf6
        have C := C.same s6
        clear q1 cx hcell s6 hV
        have n8 : (8 : Int) ≠ 0 := by decide
        have n4 : (4 : Int) ≠ 0 := by decide
        have n32 : (32 : Int) ≠ 0 := by decide
        have n128 : (128 : Int) ≠ 0 := by decide
        have n512 : (512 : Int) ≠ 0 := by decide
        have n3 : (3 : Int) ≠ 0 := by decide
        refine W.seq (W.held mixed (fun _ => True) [] 27 rfl (fun _ _ => True.intro) ?_)
        intro w7 s7
        have C := C.same s7
        clear s7
        apply H.takesK LO false [0, 3, 4, 5, 23, 27, 32] [0, 4, 9] (k := 24) rfl (by kernel_rfl)
        · repeat' (first | rfl | with_reducible assumption | assumption | (intro w' hw'; replace hw' := True.intro) | constructor)
        intro g_ hg_
        replace hg_ : g_ = [(0, _), (3, _), (4, _), (5, _), (23, _), (27, _), (32, _)] := hg_
        subst hg_
        show H Try.prog 97 _ _ _ _ _ _ [(0, _), (3, _), (4, _), (5, _), (23, .agg (([1, 1, 1, 1, 2, 3, 4, 1] : List Int).map (Value.int .i64)).toArray), (27, .agg (([6, 6, 0, 17] : List Int).map (Value.int .i64)).toArray), (32, .agg (([0, 1, 2, 0] : List Int).map (Value.int .i64)).toArray)] _
        have e8 : 0 ≤ V % 8 ∧ V % 8 < ((8 : Nat) : Int) := by omega
        have e4 : 0 ≤ V / 8 % 4 ∧ V / 8 % 4 < ((4 : Nat) : Int) := by omega
        have e32 : 0 ≤ V / 32 % 4 ∧ V / 32 % 4 < ((4 : Nat) : Int) := by omega
        obtain ⟨e80, e81⟩ := e8
        obtain ⟨e40, e41⟩ := e4
        obtain ⟨e320, e321⟩ := e32
        obtain ⟨A, _, hA⟩ := at_list [1, 1, 1, 1, 2, 3, 4, 1] (V % 8) e80 e81
        obtain ⟨B, _, hB⟩ := at_list [6, 6, 0, 17] (V / 8 % 4) e40 e41
        obtain ⟨F, hFm, hF⟩ := at_list [0, 1, 2, 0] (V / 32 % 4) e320 e321
        have a1 := kr 8 bV.1
        have a2 := kq 8 bV (by decide)
        have a3 := kr 4 (qb 8 bV (by decide)).1
        have a4 := kq 32 bV (by decide)
        have a5 := kr 4 (qb 32 bV (by decide)).1
        have a6 := kq 128 bV (by decide)
        have a7 := kr 4 (qb 128 bV (by decide)).1
        have a8 := kq 512 bV (by decide)
        have a9 := kr 3 (qb 512 bV (by decide)).1
        apply H.takesK LO false [0, 3, 4, 5, 47] [1, 2, 3, 5, 6, 7, 8, 10, 11, 12, 13, 14, 15, 16, 17, 18, 19, 20, 21, 22, 23, 24] (k := 2) rfl (by kernel_rfl)
        · repeat' (first | rfl | with_reducible assumption | assumption | (intro w' hw'; replace hw' := True.intro) | constructor)
        intro g_ hg_
        replace hg_ : g_ = [(0, _), (3, _), (4, _), (5, _), (47, _)] := hg_
        subst hg_
        clear a1 a2 a3 a4 a5 a6 a7 a8 a9 hA hB hF
        refine H.only (i := 25) rfl (by kernel_rfl) ?_
        refine Ls.alloc LO rfl rfl rfl rfl (zs := zRule) rfl ?_
        have hb8 := heap_alloc_new w7 (.cells zRule.toArray 37)
        have m8 : Mv (fun _ => False) w7 (w7.alloc (.cells zRule.toArray 37)) := (Mv.refl _ w7).alloc _
        have z8 := size_alloc' w7 (.cells zRule.toArray 37)
        generalize w7.alloc (.cells zRule.toArray 37) = w8 at hb8 m8 z8
        obtain ⟨p, hp⟩ : ∃ p, p = w7.heap.size := ⟨_, rfl⟩
        rw [← hp] at hb8
        rw [← hp]
        refine Ls.nil (N.goOn (fun _ => True.intro) ?_)
        obtain ⟨y, hy⟩ : ∃ y : RuleV, y = ⟨A, B, S0, S0, S0, S0, V / 128 % 4 == 0, F, .slice none 0 0, IntKind.i64.wrap (100 + (i : Int)), IntKind.i64.wrap (1 + V / 512 % 3)⟩ := ⟨_, rfl⟩
        refine H.only (i := 26) rfl (by kernel_rfl) ?_
        refine Ls.store LO rfl rfl rfl rfl rfl (vs := y.cs) (by rw [hy]; rfl) rfl (by rw [hy]; rfl) hb8 rfl ?_
        intro w9 hb9 m9 _
        have hb9 : w9.heap[p]? = some (.cells y.cs.toArray 37 (0, 0)) := by
          have e : wr zRule 0 y.cs = y.cs := by rw [hy]; rfl
          rw [e] at hb9; exact hb9
        have m79 : Mv (fun _ => False) w7 w9 := m8.cut m9 fun k hk e => by omega
        refine Ls.nil (N.goOn (fun _ => True.intro) ?_)
        have D : RB w w9 p vm M y := by
          have C9 := C.non m79
          refine ⟨C9.mv, C9.own, fun r hr => ?_, hb9, fun k hk => by rw [hp]; exact C.own.lt k hk, C.fr, by rw [hp]; exact C.mv.size⟩
          rcases List.mem_cons.1 hr with rfl | hr
          · refine ⟨⟨?_, ?_, ?_, ?_, ⟨none, 0, 0, ?_⟩, ?_⟩, fun v hv k hk => ?_, ?_⟩
            · rw [hy]; exact (S0_rd _).1
            · rw [hy]; exact (S0_rd _).2
            · rw [hy]; exact (S0_rd _).1
            · rw [hy]; exact (S0_rd _).2
            · rw [hy]
            · rw [hy]; exact ⟨Nat.zero_le _, Nat.zero_le _, Nat.zero_le _, Nat.zero_le _⟩
            · rw [hy] at hv
              simp only [RuleV.vs, S0, List.mem_cons, List.not_mem_nil, or_false, or_self] at hv
              rw [hv] at hk; cases hk
            · unfold Fl3
              rw [hy]
              simp only [List.mem_cons, List.not_mem_nil, or_false] at hFm
              show F = 0 ∨ F = 1 ∨ F = 2
              omega
          · obtain ⟨g1, g2, g3⟩ := C9.g r hr
            refine ⟨g1, fun v hv k hk => ⟨(g2 v hv k hk).1, (g2 v hv k hk).2, ?_⟩, g3⟩
            have := ((C.g r hr).2.1 v hv k hk).1
            omega
        have hyf : y.fn.l.length ≤ 1 := by rw [hy]; exact Nat.zero_le _
        have hytp : y.tp.v = .slice none 0 0 := by rw [hy]; rfl
        refine H.done (by kernel_rfl) (N.to ?_)
        clear C hb8 hb9 m8 m9 m79 z8 hp hy
        -- ports
        refine W.cutS (fun w' g => ∃ y : RuleV, (RB w w' p vm M y ∧ y.fn.l.length ≤ 1) ∧ g = [(0, .slice (some ⟨b, o, none⟩) l.length c), (3, vm), (4, .int .i64 i), (5, .int .i64 V), (6, .pointer (some ⟨p, 0, none⟩))]) ?_ ?_
        · have a1 := kq 1536 bV (by decide)
          have a2 := kr 3 (qb 1536 bV (by decide)).1
          have n1536 : (1536 : Int) ≠ 0 := by decide
          apply W.readS LO mixed [0, 3, 4, 5, 6, 51] (by kernel_rfl)
          · repeat' (first | rfl | with_reducible assumption | assumption | constructor)
          intro w10 f10 s10 hf10
          replace hf10 : f10 = [(0, _), (3, _), (4, _), (5, _), (6, _), (51, _)] := hf10
          subst hf10
          have D := D.same s10
          clear a1 a2 s10
          cases hc : (V / 1536 % 3 == 0) with
          | false =>
            refine W.cond (b := false) rfl (fun h => by cases h) (fun _ => W.skip ?_)
            exact N.cut ⟨y, ⟨D, hyf⟩, rfl⟩ (sub_keys rfl)
          | true =>
            refine W.cond (b := true) rfl (fun _ => W.list ?_) (fun h => by cases h)
            have a1 := kq 4608 bV (by decide)
            have a2 := kr 2 (qb 4608 bV (by decide)).1
            have n4608 : (4608 : Int) ≠ 0 := by decide
            have n2 : (2 : Int) ≠ 0 := by decide
            obtain ⟨X, hX⟩ : ∃ X, X = IntKind.i64.wrap (80 + V / 4608 % 2) := ⟨_, rfl⟩
            have a3 : Kn (IntKind.i64.wrap (80 + V / 4608 % 2)) X := .of hX.symm
            apply Ls.runK LO [0, 3, 4, 5, 6, 56] 5
            · repeat' (first | rfl | with_reducible assumption | assumption | constructor)
            intro w11 f11 s11 hf11
            replace hf11 : f11 = [(0, _), (3, _), (4, _), (5, _), (6, _), (56, _)] := hf11
            subst hf11
            have D := D.same s11
            clear a1 a2 a3 s11 hX
            refine Ls.buildOne rfl rfl rfl rfl und_spans hiS hzS hsS rfl rfl rfl rfl (cells := scs (80, X)) rfl rfl ?_
            have hb12 := heap_alloc_new w11 (.cells (scs (80, X)).toArray 50)
            have m12 : Mv (fun _ => False) w11 (w11.alloc (.cells (scs (80, X)).toArray 50)) := (Mv.refl _ w11).alloc _
            have z12 := size_alloc' w11 (.cells (scs (80, X)).toArray 50)
            generalize w11.alloc (.cells (scs (80, X)).toArray 50) = w12 at hb12 m12 z12
            obtain ⟨q, hq⟩ : ∃ q, q = w11.heap.size := ⟨_, rfl⟩
            rw [← hq] at hb12
            rw [← hq]
            have hp11 := D.bx.lt
            have hvm11 := fun k hk => D.own.lt k hk
            have D := D.non m12
            apply Ls.runK LO [0, 3, 4, 5, 6, 58, 59] 2
            · repeat' (first | rfl | with_reducible assumption | assumption | constructor)
            intro w13 f13 s13 hf13
            replace hf13 : f13 = [(0, _), (3, _), (4, _), (5, _), (6, _), (58, _), (59, _)] := hf13
            subst hf13
            have D := D.same s13
            have hs13 : w13.heap.size = w12.heap.size := by rw [s13.heap]
            rw [← s13.heap] at hb12
            have hrd : Rd w13 2 (.slice (some ⟨q, 0, none⟩) 1 1) 1 (scs (80, X)) := Rd.new hb12 rfl
            refine Ls.store LO rfl rfl rfl rfl rfl (vs := [.bool false, .slice (some ⟨q, 0, none⟩) 1 1]) rfl rfl rfl D.bx rfl ?_
            intro w14 hb14 m14 _
            obtain ⟨g1, g2, g3⟩ := D.g y List.mem_cons_self
            have D := D.put { y with tp := ⟨false, .slice (some ⟨q, 0, none⟩) 1 1, [(80, X)]⟩ } ⟨⟨g1.fn, g1.fp, g1.tn, hrd, g1.cv, ⟨g1.few.1, g1.few.2.1, g1.few.2.2.1, (by show 1 ≤ 1000000000; decide)⟩⟩, fun v hv k hk => by
              simp only [RuleV.vs, List.mem_cons, List.not_mem_nil, or_false] at hv
              rcases hv with rfl | rfl | rfl | rfl
              · exact g2 _ (by simp [RuleV.vs]) k hk
              · exact g2 _ (by simp [RuleV.vs]) k hk
              · exact g2 _ (by simp [RuleV.vs]) k hk
              · have e : q = k := Option.some.inj hk
                refine ⟨by omega, fun e2 => ?_, by omega⟩
                have := hvm11 k e2
                omega, g3⟩ hb14 m14
            exact Ls.nil (N.cut ⟨_, ⟨D, hyf⟩, rfl⟩ (sub_keys rfl))
        clear D hyf hytp
        rintro w10 _ ⟨y, ⟨D, hyf⟩, rfl⟩
        -- addresses
        refine W.cutS (fun w' g => ∃ y : RuleV, (RB w w' p vm M y ∧ y.fn.l.length ≤ 1) ∧ g = [(0, .slice (some ⟨b, o, none⟩) l.length c), (3, vm), (4, .int .i64 i), (5, .int .i64 V), (6, .pointer (some ⟨p, 0, none⟩))]) ?_ ?_
        · have a1 := kq 9216 bV (by decide)
          have a2 := kr 4 (qb 9216 bV (by decide)).1
          have n9216 : (9216 : Int) ≠ 0 := by decide
          apply W.readS LO mixed [0, 3, 4, 5, 6, 63] (by kernel_rfl)
          · repeat' (first | rfl | with_reducible assumption | assumption | constructor)
          intro w11 f11 s11 hf11
          replace hf11 : f11 = [(0, _), (3, _), (4, _), (5, _), (6, _), (63, _)] := hf11
          subst hf11
          have D := D.same s11
          clear a1 a2 s11
          cases hc : (V / 9216 % 4 == 0) with
          | false =>
            refine W.cond (b := false) rfl (fun h => by cases h) (fun _ => W.skip ?_)
            exact N.cut ⟨y, ⟨D, hyf⟩, rfl⟩ (sub_keys rfl)
          | true =>
            refine W.cond (b := true) rfl (fun _ => W.list ?_) (fun h => by cases h)
            have a1 := kq 36864 bV (by decide)
            have a2 := kr 2 (qb 36864 bV (by decide)).1
            have n36864 : (36864 : Int) ≠ 0 := by decide
            have n2 : (2 : Int) ≠ 0 := by decide
            have a4 := kq 73728 bV (by decide)
            have a5 := kr 3 (qb 73728 bV (by decide)).1
            have n73728 : (73728 : Int) ≠ 0 := by decide
            obtain ⟨X, hX⟩ : ∃ X, X = IntKind.i64.wrap (30 + V / 73728 % 3) := ⟨_, rfl⟩
            have a3 : Kn (IntKind.i64.wrap (30 + V / 73728 % 3)) X := .of hX.symm
            obtain ⟨B, hB⟩ : ∃ B, B = (V / 36864 % 2 == 0) := ⟨_, rfl⟩
            have a6 : Kn (V / 36864 % 2 == 0) B := .of hB.symm
            apply Ls.runK LO [0, 3, 4, 5, 6, 67, 72] 9
            · repeat' (first | rfl | with_reducible assumption | assumption | constructor)
            intro w12 f12 s12 hf12
            replace hf12 : f12 = [(0, _), (3, _), (4, _), (5, _), (6, _), (67, _), (72, _)] := hf12
            subst hf12
            have D := D.same s12
            clear a1 a2 a3 a4 a5 a6 s12 hX hB
            refine Ls.buildOne rfl rfl rfl rfl und_nets hiN hzN hsN rfl rfl rfl rfl (cells := ncs (167772161, X)) rfl rfl ?_
            have hb13 := heap_alloc_new w12 (.cells (ncs (167772161, X)).toArray 48)
            have m13 : Mv (fun _ => False) w12 (w12.alloc (.cells (ncs (167772161, X)).toArray 48)) := (Mv.refl _ w12).alloc _
            have z13 := size_alloc' w12 (.cells (ncs (167772161, X)).toArray 48)
            generalize w12.alloc (.cells (ncs (167772161, X)).toArray 48) = w13 at hb13 m13 z13
            obtain ⟨q, hq⟩ : ∃ q, q = w12.heap.size := ⟨_, rfl⟩
            rw [← hq] at hb13
            rw [← hq]
            have hp12 := D.bx.lt
            have hvm12 := fun k hk => D.own.lt k hk
            have D := D.non m13
            apply Ls.runK LO [0, 3, 4, 5, 6, 74, 75] 2
            · repeat' (first | rfl | with_reducible assumption | assumption | constructor)
            intro w14 f14 s14 hf14
            replace hf14 : f14 = [(0, _), (3, _), (4, _), (5, _), (6, _), (74, _), (75, _)] := hf14
            subst hf14
            have D := D.same s14
            have hs14 : w14.heap.size = w13.heap.size := by rw [s14.heap]
            rw [← s14.heap] at hb13
            have hrd : Rd w14 2 (.slice (some ⟨q, 0, none⟩) 1 1) 1 (ncs (167772161, X)) := Rd.new hb13 rfl
            refine Ls.store LO rfl rfl rfl rfl rfl (vs := [.bool B, .slice (some ⟨q, 0, none⟩) 1 1]) rfl rfl rfl D.bx rfl ?_
            intro w15 hb15 m15 _
            obtain ⟨g1, g2, g3⟩ := D.g y List.mem_cons_self
            have D := D.put { y with fn := ⟨B, .slice (some ⟨q, 0, none⟩) 1 1, [(167772161, X)]⟩ } ⟨⟨hrd, g1.fp, g1.tn, g1.tp, g1.cv, ⟨(by show 1 ≤ 1000000000; decide), g1.few.2.1, g1.few.2.2.1, g1.few.2.2.2⟩⟩, fun v hv k hk => by
              simp only [RuleV.vs, List.mem_cons, List.not_mem_nil, or_false] at hv
              rcases hv with rfl | rfl | rfl | rfl
              · have e : q = k := Option.some.inj hk
                refine ⟨by omega, fun e2 => ?_, by omega⟩
                have := hvm12 k e2
                omega
              · exact g2 _ (by simp [RuleV.vs]) k hk
              · exact g2 _ (by simp [RuleV.vs]) k hk
              · exact g2 _ (by simp [RuleV.vs]) k hk, g3⟩ hb15 m15
            exact Ls.nil (N.cut ⟨_, ⟨D, Nat.le_refl _⟩, rfl⟩ (sub_keys rfl))
        clear D hyf
        rintro w11 _ ⟨y, ⟨D, hyf⟩, rfl⟩
        -- clean
        refine W.seq (W.list ?_)
        have d1 : CellsAt w11 p (0 + 2) 2 [.bool y.fn.not, y.fn.v] := .cons (D.bx.cl rfl) (.cons (D.bx.cl rfl) .nil)
        apply Ls.runK LO [0, 3, 4, 5, 6, 77] 2
        · repeat' (first | rfl | with_reducible assumption | assumption | constructor)
        intro w12 f12 s12 hf12
        replace hf12 : f12 = [(0, _), (3, _), (4, _), (5, _), (6, _), (77, _)] := hf12
        subst hf12
        have D := D.same s12
        clear d1 s12
        refine Ls.call LO rfl rfl rfl rfl rfl (vs := [.agg y.fn.cs.toArray]) rfl (clean_walk y.fn w12 (D.g y List.mem_cons_self).at_.fn (by omega)) ?_
        rintro _ w13 ⟨s, rfl, hs, hsl, m13, hsb⟩
        refine ⟨_, rfl, ?_⟩
        have hp12 := D.bx.lt
        have hvm12 := fun k hk => D.own.lt k hk
        have D := D.non m13
        apply Ls.runK LO [0, 3, 4, 5, 6, 78, 79] 1
        · repeat' (first | rfl | with_reducible assumption | assumption | constructor)
        intro w14 f14 s14 hf14
        replace hf14 : f14 = [(0, _), (3, _), (4, _), (5, _), (6, _), (78, _), (79, _)] := hf14
        subst hf14
        have D := D.same s14
        have hs14 : w14.heap.size = w13.heap.size := by rw [s14.heap]
        have hs := Rd.moved hs ((Mv.refl _ w13).same s14)
        obtain ⟨sa, sc, hsv⟩ := hs.len
        refine Ls.store LO rfl rfl rfl rfl rfl (vs := s.cs) rfl rfl (by simp only [SetV.cs, List.all_cons, List.all_nil, hsv]; rfl) D.bx rfl ?_
        intro w15 hb15 m15 _
        obtain ⟨y', hy'⟩ : ∃ y' : RuleV, y' = { y with fn := s } := ⟨_, rfl⟩
        have D : RB w w15 p vm M y' := by
          obtain ⟨g1, g2, g3⟩ := D.g y List.mem_cons_self
          rw [hy']
          exact D.put { y with fn := s } ⟨⟨hs, g1.fp, g1.tn, g1.tp, g1.cv, ⟨(by show s.l.length ≤ 1000000000; omega), g1.few.2.1, g1.few.2.2.1, g1.few.2.2.2⟩⟩, fun v hv k hk => by
            simp only [RuleV.vs, List.mem_cons, List.not_mem_nil, or_false] at hv
            rcases hv with rfl | rfl | rfl | rfl
            · have e := hsb k hk
              refine ⟨by omega, fun e2 => ?_, by omega⟩
              have := hvm12 k e2
              omega
            · exact g2 _ (by simp [RuleV.vs]) k hk
            · exact g2 _ (by simp [RuleV.vs]) k hk
            · exact g2 _ (by simp [RuleV.vs]) k hk, g3⟩ hb15 m15
        refine Ls.nil (N.to ?_)
        clear hs hsb hsl hsv hb15 m15 s14 m13 hs14 hp12 hvm12 hy' hyf
        -- contents
        refine W.seq (W.list ?_)
        have a1 : Kn (IntKind.i64.wrap ((i : Int) + 1)) ((i : Int) + 1) := .of (IntWalk.i64_in _ (by omega))
        have a2 := kq 221184 bV (by decide)
        have a3 := kr 4 (qb 221184 bV (by decide)).1
        have n221184 : (221184 : Int) ≠ 0 := by decide
        have bW : 0 ≤ V / 221184 % 4 ∧ V / 221184 % 4 < 4 := by omega
        obtain ⟨W_, hW⟩ : ∃ W_, W_ = V / 221184 % 4 := ⟨_, rfl⟩
        rw [← hW] at a3 bW
        have a4 : Kn (IntKind.i64.wrap ((i : Int) + 1 + W_)) ((i : Int) + 1 + W_) := .of (IntWalk.i64_in _ (by omega))
        have b1 : 0 ≤ (i : Int) + 1 := by omega
        have b2 : (i : Int) + 1 ≤ (i : Int) + 1 + W_ := by omega
        have b3 : (i : Int) + 1 + W_ ≤ (c : Int) := by omega
        apply Ls.runK LO [0, 3, 4, 5, 6, 89] 10
        · repeat' (first | rfl | with_reducible assumption | assumption | constructor)
        intro w16 f16 s16 hf16
        replace hf16 : f16 = [(0, _), (3, _), (4, _), (5, _), (6, _), (89, _)] := hf16
        subst hf16
        have D := D.same s16
        have hri : RowI w16 (.slice (if c = ((i : Int) + 1).toNat then some ⟨b, o, none⟩ else (some ⟨b, o, none⟩ : Option Addr).map (·.add (((i : Int) + 1).toNat * 1))) (((i : Int) + 1 + W_).toNat - ((i : Int) + 1).toNat) (c - ((i : Int) + 1).toNat)) ((l.drop ((i : Int) + 1).toNat).take (((i : Int) + 1 + W_).toNat - ((i : Int) + 1).toNat)) := by
          have hp1 := Rd.part1 (h.1.moved D.mv) ((i : Int) + 1).toNat ((i : Int) + 1 + W_).toNat (by omega) (by omega)
          have hlen : ((l.drop ((i : Int) + 1).toNat).take (((i : Int) + 1 + W_).toNat - ((i : Int) + 1).toNat)).length = ((i : Int) + 1 + W_).toNat - ((i : Int) + 1).toNat := by
            rw [List.length_take, List.length_drop]; omega
          refine ⟨?_, fun n hn => h.2 n (List.mem_of_mem_drop (List.mem_of_mem_take hn))⟩
          rw [hlen]
          have e : ∀ (l : List Int), l.flatMap (fun n => [Value.int .i64 n]) = l.map (Value.int .i64) := fun l => by induction l with
            | nil => rfl
            | cons x l ih => rw [List.flatMap_cons, ih]; rfl
          rw [e] at hp1 ⊢
          rw [List.map_take, List.map_drop]
          exact hp1
        refine Ls.call LO rfl rfl rfl rfl rfl (vs := [_]) rfl (contents_walk _ _ w16 hri (by rw [List.length_take, List.length_drop]; omega)) ?_
        rintro _ w17 ⟨ac, nc, cc, rfl, m17⟩
        refine ⟨_, rfl, ?_⟩
        have D := D.non m17
        apply Ls.runK LO [0, 3, 4, 5, 6, 90, 91] 1
        · repeat' (first | rfl | with_reducible assumption | assumption | constructor)
        intro w18 f18 s18 hf18
        replace hf18 : f18 = [(0, _), (3, _), (4, _), (5, _), (6, _), (90, _), (91, _)] := hf18
        subst hf18
        have D := D.same s18
        clear a1 a2 a3 a4 hri s16 m17 s18
        refine Ls.store LO rfl rfl rfl rfl rfl (vs := [.slice ac nc cc]) rfl rfl rfl D.bx rfl ?_
        intro w19 hb19 m19 _
        have D : RB w w19 p vm M { y' with cv := .slice ac nc cc } := by
          obtain ⟨g1, g2, g3⟩ := D.g y' List.mem_cons_self
          exact D.put { y' with cv := .slice ac nc cc } ⟨⟨g1.fn, g1.fp, g1.tn, g1.tp, ⟨ac, nc, cc, rfl⟩, g1.few⟩, fun v hv k hk => g2 v hv k hk, g3⟩ hb19 m19
        refine Ls.nil (N.to ?_)
        clear hb19 m19
        obtain ⟨z, hz⟩ : ∃ z : RuleV, z = { y' with cv := .slice ac nc cc } := ⟨_, rfl⟩
        rw [← hz] at D
        clear hz
        -- the row
        refine W.list ?_
        have d2 : CellsAt w19 p 0 15 z.cs := D.bx.cells
        obtain ⟨am, cm, hvm, _⟩ := D.own.slice
        subst hvm
        apply Ls.runK LO [0, 4, 92, 93] 2
        · repeat' (first | rfl | with_reducible assumption | assumption | constructor)
        intro w20 f20 s20 hf20
        replace hf20 : f20 = [(0, _), (4, _), (92, _), (93, _)] := hf20
        subst hf20
        have D := D.same s20
        clear d2 s20
        refine Ls.buildOne rfl rfl rfl rfl und_rules hiR hzR hsR rfl rfl rfl rfl (cells := z.cs) rfl rfl ?_
        have hr21 := reads_oneZ w20 37 z.cs 15 rfl
        have m21 : Mv (fun _ => False) w20 (w20.alloc (.cells z.cs.toArray 37)) := (Mv.refl _ w20).alloc _
        generalize w20.alloc (.cells z.cs.toArray 37) = w21 at hr21 m21
        have D := D.non m21
        have hzg := D.g z List.mem_cons_self
        have hbM : (M.length + 1) * bR ≤ 7 * 1000 := Nat.mul_le_mul (by omega) hbR1
        refine Ls.appendZ rfl rfl rfl rfl und_rules hiR hzR hsR hbR rfl (by decide) (v := .slice am M.length cm) rfl rfl D.own hr21 (fun u hu => List.all_eq_true.1 hzg.at_.all u hu) (by simp only [maxLen]; omega) (by omega) ?_
        intro v2 w22 ho22 m22 hb22
        have mw : Mv (fun _ => False) w w22 := D.mv.cut m22 fun k hk e => by have := D.fr k e; omega
        have hG : RL w w22 v2 (M ++ [z]) := by
          refine ⟨mw, ?_, fun r hr => ?_, fun k hk => ?_⟩
          · rw [List.length_append, List.length_singleton, List.flatMap_append]
            have : [z].flatMap RuleV.cs = z.cs := by simp
            rw [this]
            exact ho22
          · have hg := D.g r (by
              rcases List.mem_append.1 hr with hr | hr
              · exact List.mem_cons_of_mem _ hr
              · rw [List.mem_singleton.1 hr]; exact List.mem_cons_self)
            refine ⟨hg.at_.movedS m22 fun v hv k hk e => (hg.off v hv k hk).2.1 e, fun v hv k hk => ?_, hg.fl⟩
            obtain ⟨o1, o2, o3⟩ := hg.off v hv k hk
            refine ⟨Nat.lt_of_lt_of_le o1 m22.size, fun e => ?_⟩
            rcases hb22 with e1 | e1
            · exact o2 (e1.symm.trans e)
            · rw [e1] at e; have := Option.some.inj e; omega
          · rcases hb22 with e1 | e1
            · exact D.fr k (e1.symm.trans hk)
            · rw [e1] at hk; have := Option.some.inj hk; have := D.mv.size; omega
        apply Ls.runK LO [0, 3, 4] 1
        · repeat' (first | rfl | with_reducible assumption | assumption | constructor)
        intro w23 f23 s23 hf23
        replace hf23 : f23 = [(0, _), (3, _), (4, _)] := hf23
        subst hf23
        refine Ls.nil (N.inb (N.cut ⟨v2, M ++ [z], ⟨by rw [List.length_append]; rfl, hG.same s23⟩, rfl⟩ (sub_keys rfl)))
      · clear C
        rintro w6 _ ⟨vm', M', ⟨hM', C⟩, rfl⟩
        have k6 : Kn (IntKind.i64.wrap ((i : Int) + 4)) ((i + 4 : Nat) : Int) := .of (IntWalk.i64_in _ (by omega))
        apply W.readN LO mixed [0, 3, 4] (by kernel_rfl)
        · repeat' (first | rfl | with_reducible assumption | assumption | constructor)
        intro w7 f7 s7 hf7
        replace hf7 : f7 = [(0, _), (3, _), (4, _)] := hf7
        subst hf7
        exact N.round (k - 4) _ (by omega) ⟨i + 4, vm', M', by omega, by omega, C.same s7, rfl⟩ (sub_keys rfl)
    · by_cases h1 : i + 3 < l.length
      · have k1 : Kn (decide ((i : Int) + 3 < (l.length : Int))) true := .yes (by omega)
        have k2 : Kn (decide ((i : Int) < 24)) false := .no (by omega)
        refine W.seq ?_
        apply W.readS LO mixed [3, 15] (by kernel_rfl)
        · repeat' (first | rfl | with_reducible assumption | assumption | constructor)
        intro w5 f5 s5 hf5
        replace hf5 : f5 = [(3, _), (15, _)] := hf5
        subst hf5
        refine W.cond (b := false) rfl (fun h => by cases h) (fun _ => W.exit ?_)
        exact N.thenE (N.thenE (N.out (N.cut ⟨_, M, ⟨C.same s5, by omega⟩, rfl⟩ (sub_keys rfl))))
      · have k1 : Kn (decide ((i : Int) + 3 < (l.length : Int))) false := .no (by omega)
        refine W.seq ?_
        apply W.readS LO mixed [3, 15] (by kernel_rfl)
        · repeat' (first | rfl | with_reducible assumption | assumption | constructor)
        intro w5 f5 s5 hf5
        replace hf5 : f5 = [(3, _), (15, _)] := hf5
        subst hf5
        refine W.cond (b := false) rfl (fun h => by cases h) (fun _ => W.exit ?_)
        exact N.thenE (N.thenE (N.out (N.cut ⟨_, M, ⟨C.same s5, by omega⟩, rfl⟩ (sub_keys rfl))))
  rintro w3 _ ⟨vm, M, ⟨C, hM⟩, rfl⟩
  apply W.readS LO mixed [2] (by kernel_rfl)
  · repeat' (first | rfl | with_reducible assumption | assumption | constructor)
  intro w4 f4 s4 hf4
  replace hf4 : f4 = [(2, _)] := hf4
  subst hf4
  have C := C.same s4
  exact W.ret (post LO (rs := [.tmp 2]) rfl (vs := [vm]) (.tmp rfl .nil) ⟨vm, M, rfl, ⟨OwnZ_rd C.own, fun r hr => (C.g r hr).1⟩, hM, fun r hr => (C.g r hr).2.2, C.mv⟩)
end Go.Proofs.Ytbbafhpnlmmjjaa
