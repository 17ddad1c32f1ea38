/- What is proved: whether an address is in a net, in a set of nets. Conditions: those that stand in each theorem. -/
import Derived.Test.YtbbafhpnlmmjjaaGrpBase
namespace Go.Proofs.Ytbbafhpnlmmjjaa
set_option linter.unusedVariables false
set_option linter.unusedSimpArgs false
set_option linter.unusedSectionVars false
open Go.RowKit Fw
def ncs (n : Int × Int) : List Value := [.int .u32 n.1, .int .i64 n.2]
theorem ncs_len (n : Int × Int) : (ncs n).length = 2 := rfl
def inN (n : Int × Int) (a : Int) : Bool := bits .and .u32 a (mk n.2) == bits .and .u32 n.1 (mk n.2)
set_option maxRecDepth 100000 in
set_option maxHeartbeats 2000000 in
theorem has_walk (x : Int × Int) (a : Int) (w : World) (h0 : 0 ≤ x.2) (h1 : x.2 ≤ 32) : Calls Try.prog 31 #[.agg (ncs x).toArray, .int .u32 a] w fun e w' => e = .returned (.bool (inN x a)) ∧ Mv (fun _ => False) w w' := by
  refine calls_W (n := 18) (vs := [.agg (ncs x).toArray, .int .u32 a]) Try.func31 rfl rfl rfl ?_
  refine W.seq (W.list ?_)
  refine Ls.box rfl rfl rfl rfl rfl (vs := ncs x) rfl ?_
  have hb1 := heap_alloc_new w (.cells (ncs x).toArray 48)
  have m1 : Mv (fun _ => False) w (w.alloc (.cells (ncs x).toArray 48)) := (Mv.refl _ w).alloc _
  generalize w.alloc (.cells (ncs x).toArray 48) = w1 at hb1 m1
  obtain ⟨r, hr⟩ : ∃ r, r = w.heap.size := ⟨_, rfl⟩
  rw [← hr] at hb1
  rw [← hr]
  apply Ls.runK LO [1, 2] 1
  · repeat' (first | rfl | with_reducible assumption | assumption | constructor)
  intro w2 f2 s2 hf2
  replace hf2 : f2 = [(1, _), (2, _)] := hf2
  subst hf2
  refine Ls.nil (N.to ?_)
  rw [← s2.heap] at hb1
  have m2 := m1.same s2
  clear m1 s2
  have hc : ∀ w', Mv (fun _ => False) w2 w' → Cl w' ⟨r, 0, none⟩ (.int .u32 x.1) ∧ Cl w' ⟨r, 1, none⟩ (.int .i64 x.2) := fun w' m => by
    have hb := (m.block r (Array.getElem?_eq_some_iff.1 hb1).1 fun e => e).trans hb1
    exact ⟨⟨by unfold World.cell?; simp only [hb]; rfl⟩, ⟨by unfold World.cell?; simp only [hb]; rfl⟩⟩
  have F1 : ∀ w', Mv (fun _ => False) w2 w' → Cl w' ⟨r, 1, none⟩ (.int .i64 x.2) := fun w' m => (hc w' m).2
  refine W.seq (W.held mixed (fun w' => Mv (fun _ => False) w2 w') [] 5 rfl (fun w' s => (Mv.refl _ w2).same s) ?_)
  intro w3 s3
  apply H.takesK LO true [1, 2, 8] [1, 2] (k := 3) rfl (by kernel_rfl)
  · repeat' (first | rfl | with_reducible assumption | assumption | (intro w' hw'; replace hw' := hw' rfl; have h0' := F1 w' hw') | constructor)
  intro g_ hg_
  replace hg_ : g_ = [(1, _), (2, _), (8, _)] := hg_
  subst hg_
  have m3 : Mv (fun _ => False) w2 w3 := (Mv.refl _ w2).same s3
  refine H.only (i := 0) rfl (by kernel_rfl) ?_
  refine Ls.call LO rfl rfl rfl rfl rfl (vs := []) rfl (masks_walk w3) ?_
  rintro _ w4 ⟨rfl, m4⟩
  refine ⟨_, rfl, ?_⟩
  have m4 := m3.trans m4
  refine Ls.nil (N.goOn (fun _ => m4) ?_)
  have i1 : x.2 < ((33 : Nat) : Int) := by omega
  have hmk : maskL.toArray[x.2.toNat]? = some (.int .u32 (mk x.2)) := by
    unfold maskL
    rw [List.getElem?_toArray, List.getElem?_map, List.getElem?_range (by omega)]
    simp only [Option.map_some]
    rw [show ((x.2.toNat : Nat) : Int) = x.2 by omega]
  apply H.takesK LO false [1, 2, 5] [3, 4] (k := 0) rfl (by kernel_rfl)
  · repeat' (first | rfl | with_reducible assumption | assumption | (intro w' hw'; replace hw' := True.intro) | constructor)
  intro g_ hg_
  replace hg_ : g_ = [(1, _), (2, _), (5, _)] := hg_
  subst hg_
  refine H.done (by kernel_rfl) (N.to ?_)
  obtain ⟨c0, c1⟩ := hc w4 m4
  apply W.readS LO mixed [4] (by kernel_rfl)
  · repeat' (first | rfl | with_reducible assumption | assumption | constructor)
  intro w5 f5 s5 hf5
  replace hf5 : f5 = [(4, _)] := hf5
  subst hf5
  exact W.ret (post LO (rs := [.tmp 4]) rfl (vs := [.bool (inN x a)]) (.tmp rfl .nil) ⟨rfl, (m2.trans m4).same s5⟩)
/-- A set. -/
structure SetV where
  not : Bool
  v : Value
  l : List (Int × Int)
def SetV.cs (s : SetV) : List Value := [.bool s.not, s.v]
def NetsAt (w : World) (s : SetV) : Prop := Rd w 2 s.v s.l.length (s.l.flatMap ncs)
def okN (n : Int × Int) : Bool := decide (0 ≤ n.2) && decide (n.2 ≤ 32)
def SetV.check (s : SetV) : Bool := decide (s.l.length ≤ 4) && s.l.all okN
def SetV.has (s : SetV) (a : Int) : Bool := s.check && ((s.l.isEmpty || s.l.any fun n => inN n a) != s.not)
/-- A struct of two in its box, the second one's cell. -/
def B2 (w : World) (r T : Nat) (u v : Value) : Prop := w.heap[r]? = some (.cells [u, v].toArray T (0, 0))
theorem B2.moved {w w' : World} {r T : Nat} {u v : Value} (h : B2 w r T u v) (m : Mv (fun _ => False) w w') : B2 w' r T u v := (m.block r (Array.getElem?_eq_some_iff.1 h).1 fun e => e).trans h
theorem B2.cls {w : World} {r T : Nat} {u v : Value} (h : B2 w r T u v) : Cl w ⟨r, 0, none⟩ u ∧ Cl w ⟨r, 1, none⟩ v := by
  unfold B2 at h
  exact ⟨⟨by unfold World.cell?; rw [h]; rfl⟩, ⟨by unfold World.cell?; rw [h]; rfl⟩⟩
theorem B2.cells {w : World} {r T : Nat} {u v : Value} (h : B2 w r T u v) : CellsAt w r 0 2 [u, v] := .cons h.cls.1 (.cons h.cls.2 .nil)
set_option maxRecDepth 100000 in
set_option maxHeartbeats 4000000 in
theorem ncheck_walk (s : SetV) (w : World) (h : NetsAt w s) (hl : s.l.length ≤ 1000000000) : Calls Try.prog 30 #[.agg s.cs.toArray] w fun e w' => e = .returned (.bool s.check) ∧ Mv (fun _ => False) w w' := by
  refine calls_W (n := 30) (vs := [.agg s.cs.toArray]) Try.func30 rfl rfl rfl ?_
  refine W.seq (W.list ?_)
  obtain ⟨hv1, hv2⟩ := h.one
  have hbc : (Value.agg s.cs.toArray).cells = [Value.bool s.not, s.v].toArray := rfl
  refine Ls.box rfl rfl rfl rfl rfl (vs := s.cs) rfl ?_
  have hb1 : B2 (w.alloc (.cells s.cs.toArray 31)) w.heap.size 31 (.bool s.not) s.v := heap_alloc_new w (.cells s.cs.toArray 31)
  have m1 : Mv (fun _ => False) w (w.alloc (.cells s.cs.toArray 31)) := (Mv.refl _ w).alloc _
  generalize w.alloc (.cells s.cs.toArray 31) = w1 at hb1 m1
  obtain ⟨r, hr⟩ : ∃ r, r = w.heap.size := ⟨_, rfl⟩
  rw [← hr] at hb1
  rw [← hr]
  apply Ls.runK LO [1] 1
  · repeat' (first | rfl | with_reducible assumption | assumption | constructor)
  intro w2 f2 s2 hf2
  replace hf2 : f2 = [(1, _)] := hf2
  subst hf2
  refine Ls.nil (N.to ?_)
  have hb2 : B2 w2 r 31 (.bool s.not) s.v := by unfold B2; rw [s2.heap]; exact hb1
  have m2 := m1.same s2
  clear m1 s2 hb1
  obtain ⟨a, c, hv⟩ := h.len
  obtain ⟨c0, c1⟩ := hb2.cls
  rw [hv] at c1
  have k1 : Kn (decide ((s.l.length : Int) ≤ 4)) (decide (s.l.length ≤ 4)) := .of (decide_eq_decide.2 (by omega))
  apply W.readS LO mixed [1, 3] (by kernel_rfl)
  · repeat' (first | rfl | with_reducible assumption | assumption | constructor)
  intro w3 f3 s3 hf3
  replace hf3 : f3 = [(1, _), (3, _)] := hf3
  subst hf3
  have m3 := m2.same s3
  have hb3 : B2 w3 r 31 (.bool s.not) s.v := by unfold B2; rw [s3.heap]; exact hb2
  clear c0 c1 hb2 s3 m2 k1
  obtain ⟨acc0, hacc0⟩ : ∃ b, b = decide (s.l.length ≤ 4) := ⟨_, rfl⟩
  rw [← hacc0]
  refine W.cutS (fun w' g => Mv (fun _ => False) w w' ∧ g = [(3, .bool s.check)]) ?_ ?_
  · obtain ⟨c0, c1⟩ := hb3.cls
    rw [hv] at c1
    apply W.readS LO mixed [3, 11, 12, 13] (by kernel_rfl)
    · repeat' (first | rfl | with_reducible assumption | assumption | constructor)
    intro w4 f4 s4 hf4
    replace hf4 : f4 = [(3, _), (11, _), (12, _), (13, _)] := hf4
    subst hf4
    have m4 := m3.same s4
    clear c0 c1 hb3 m3 s4
    refine W.block (W.loop (fun k w' g => ∃ i : Nat, k + i = s.l.length ∧ Mv (fun _ => False) w w' ∧ g = [(3, .bool (acc0 && (s.l.take i).all okN)), (11, .slice a s.l.length c), (12, .int .i64 s.l.length), (13, .int .i64 i)]) s.l.length [(3, .bool acc0), (11, .slice a s.l.length c), (12, .int .i64 s.l.length), (13, .int .i64 0)] ⟨0, rfl, m4, by simp⟩ (sub_keys rfl) ?_)
    clear m4
    rintro k w5 _ ⟨i, hk, m5, rfl⟩
    by_cases hlt : i < s.l.length
    · have k1 : Kn (decide ((i : Int) < (s.l.length : Int))) true := .yes (by omega)
      apply W.readS LO mixed [3, 11, 13, 12, 14] (by kernel_rfl)
      · repeat' (first | rfl | with_reducible assumption | assumption | constructor)
      intro w6 f6 s6 hf6
      replace hf6 : f6 = [(3, _), (11, _), (13, _), (12, _), (14, _)] := hf6
      subst hf6
      have m6 := m5.same s6
      clear m5 s6
      refine W.seq (W.cond (b := true) rfl (fun _ => W.skip (N.to ?_)) (fun h => by cases h))
      obtain ⟨x, hx⟩ : ∃ x, s.l[i]? = some x := ⟨_, List.getElem?_eq_getElem hlt⟩
      have htk : (s.l.take (i + 1)).all okN = ((s.l.take i).all okN && okN x) := by rw [List.take_add_one, hx]; simp
      obtain ⟨acc, hacc⟩ : ∃ b, b = (acc0 && (s.l.take i).all okN) := ⟨_, rfl⟩
      rw [← hacc]
      have hnext : (acc0 && (s.l.take (i + 1)).all okN) = (acc && okN x) := by rw [htk, hacc, Bool.and_assoc]
      refine W.cutS (fun w' g => Mv (fun _ => False) w w' ∧ g = [(3, .bool (acc && okN x)), (11, .slice a s.l.length c), (12, .int .i64 s.l.length), (13, .int .i64 i)]) ?_ ?_
      · refine W.block ?_
        obtain ⟨b, o, c', hv', hcell⟩ := (h.moved m6).at ncs_len (by decide) hx
        rw [hv] at hv'
        injection hv' with ea _ ec
        subst ea ec
        have i0 : (0 : Int) ≤ (i : Int) := by omega
        have i1 : (i : Int) < (s.l.length : Int) := by omega
        refine W.seq (W.list ?_)
        apply Ls.runK LO [3, 11, 12, 13, 16] 2
        · repeat' (first | rfl | with_reducible assumption | assumption | constructor)
        intro w7 f7 s7 hf7
        replace hf7 : f7 = [(3, _), (11, _), (12, _), (13, _), (16, _)] := hf7
        subst hf7
        have m7 := m6.same s7
        clear hcell m6 s7
        refine Ls.alloc LO rfl rfl rfl rfl (zs := [.int .u32 0, .int .i64 0]) rfl ?_
        have hb8 := heap_alloc_new w7 (.cells [Value.int .u32 0, .int .i64 0].toArray 48)
        have m8 : Mv (fun _ => False) w7 (w7.alloc (.cells [Value.int .u32 0, .int .i64 0].toArray 48)) := (Mv.refl _ w7).alloc _
        generalize w7.alloc (.cells [Value.int .u32 0, .int .i64 0].toArray 48) = w8 at hb8 m8
        obtain ⟨q, hq⟩ : ∃ q, q = w7.heap.size := ⟨_, rfl⟩
        rw [← hq] at hb8
        rw [← hq]
        refine Ls.store LO rfl rfl rfl rfl rfl (vs := ncs x) rfl rfl rfl hb8 rfl ?_
        intro w9 hb9 m9 _
        have hb9 : B2 w9 q 48 (.int .u32 x.1) (.int .i64 x.2) := hb9
        have mq := m7.size
        have m9 : Mv (fun _ => False) w w9 := (m7.trans m8).cut m9 fun k hk e => by omega
        refine Ls.nil (N.to ?_)
        clear hb8 m8 m7 mq hq
        obtain ⟨c0, c1⟩ := hb9.cls
        cases acc with
        | false =>
          apply W.readN LO mixed [3, 11, 12, 13] (by kernel_rfl)
          · repeat' (first | rfl | with_reducible assumption | assumption | constructor)
          intro w10 f10 s10 hf10
          replace hf10 : f10 = [(3, _), (11, _), (12, _), (13, _)] := hf10
          subst hf10
          exact N.inb (N.cut ⟨m9.same s10, rfl⟩ (sub_keys rfl))
        | true =>
          by_cases e0 : 0 ≤ x.2
          · have k2 : Kn (decide (0 ≤ x.2)) true := .yes e0
            have k3 : Kn (decide (x.2 ≤ 32)) (decide (x.2 ≤ 32)) := .rfl
            have eo : okN x = decide (x.2 ≤ 32) := by unfold okN; rw [decide_eq_true e0, Bool.true_and]
            apply W.readN LO mixed [3, 11, 12, 13] (by kernel_rfl)
            · repeat' (first | rfl | with_reducible assumption | assumption | constructor)
            intro w10 f10 s10 hf10
            replace hf10 : f10 = [(3, _), (11, _), (12, _), (13, _)] := hf10
            subst hf10
            exact N.inb (N.cut ⟨m9.same s10, rfl⟩ (sub_keys (by rw [eo]; rfl)))
          · have k2 : Kn (decide (0 ≤ x.2)) false := .no e0
            have eo : okN x = false := by unfold okN; rw [decide_eq_false e0, Bool.false_and]
            apply W.readN LO mixed [3, 11, 12, 13] (by kernel_rfl)
            · repeat' (first | rfl | with_reducible assumption | assumption | constructor)
            intro w10 f10 s10 hf10
            replace hf10 : f10 = [(3, _), (11, _), (12, _), (13, _)] := hf10
            subst hf10
            exact N.inb (N.cut ⟨m9.same s10, rfl⟩ (sub_keys (by rw [eo]; rfl)))
      · rintro w7 _ ⟨m7, rfl⟩
        have k5 : Kn (IntKind.i64.wrap ((i : Int) + 1)) ((i + 1 : Nat) : Int) := .of (IntWalk.i64_in _ (by omega))
        apply W.readN LO mixed [3, 11, 12, 13] (by kernel_rfl)
        · repeat' (first | rfl | with_reducible assumption | assumption | constructor)
        intro w8 f8 s8 hf8
        replace hf8 : f8 = [(3, _), (11, _), (12, _), (13, _)] := hf8
        subst hf8
        exact N.round (k - 1) _ (by omega) ⟨i + 1, by omega, m7.same s8, by rw [hnext]⟩ (sub_keys rfl)
    · have k1 : Kn (decide ((i : Int) < (s.l.length : Int))) false := .no (by omega)
      apply W.readS LO mixed [3, 14] (by kernel_rfl)
      · repeat' (first | rfl | with_reducible assumption | assumption | constructor)
      intro w6 f6 s6 hf6
      replace hf6 : f6 = [(3, _), (14, _)] := hf6
      subst hf6
      refine W.seq (W.cond (b := false) rfl (fun h => by cases h) (fun _ => W.exit ?_))
      rw [List.take_of_length_le (by omega)]
      refine N.thenE (N.thenE (N.out (N.cut ⟨m5.same s6, rfl⟩ (sub_keys ?_))))
      rw [hacc0]; rfl
  rintro w4 _ ⟨m4, rfl⟩
  apply W.readS LO mixed [2] (by kernel_rfl)
  · repeat' (first | rfl | with_reducible assumption | assumption | constructor)
  intro w5 f5 s5 hf5
  replace hf5 : f5 = [(2, _)] := hf5
  subst hf5
  exact W.ret (post LO (rs := [.tmp 2]) rfl (vs := [.bool s.check]) (.tmp rfl .nil) ⟨rfl, m4.same s5⟩)
end Go.Proofs.Ytbbafhpnlmmjjaa
