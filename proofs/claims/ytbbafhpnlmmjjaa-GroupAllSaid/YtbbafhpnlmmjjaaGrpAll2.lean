/- What is proved: the reference's Has of a set of addresses. Conditions: those that stand in each theorem. -/
import Derived.Test.YtbbafhpnlmmjjaaGrpAll1
namespace Go.Proofs.Ytbbafhpnlmmjjaa
set_option linter.unusedVariables false
set_option linter.unusedSimpArgs false
set_option linter.unusedSectionVars false
open Go.RowKit Fw
/-- Numbers of 32 bits. -/
def U32 (a : Int) : Prop := 0 ≤ a ∧ a < 4294967296
set_option maxRecDepth 100000 in
set_option maxHeartbeats 4000000 in
theorem rhas_walk (s : SetV) (a_ : Int) (w : World) (h : NetsAt w s) (hl : s.l.length ≤ 1000000000) (hU : ∀ x ∈ s.l, U32 x.1) (ha : U32 a_) : Calls Try.prog 24 #[.agg s.cs.toArray, .int .u32 a_] w fun e w' => e = .returned (.bool (s.has a_)) ∧ Mv (fun _ => False) w w' := by
  refine calls_W (n := 35) (vs := [.agg s.cs.toArray, .int .u32 a_]) Try.func24 rfl rfl rfl ?_
  refine W.seq (W.list ?_)
  obtain ⟨hv1, hv2⟩ := h.one
  refine Ls.box rfl rfl rfl rfl rfl (vs := s.cs) rfl ?_
  have hb1 : B2 (w.alloc (.cells s.cs.toArray 31)) w.heap.size 31 (.bool s.not) s.v := heap_alloc_new w (.cells s.cs.toArray 31)
  have m1 : Mv (fun _ => False) w (w.alloc (.cells s.cs.toArray 31)) := (Mv.refl _ w).alloc _
  generalize w.alloc (.cells s.cs.toArray 31) = w1 at hb1 m1
  obtain ⟨r, hr⟩ : ∃ r, r = w.heap.size := ⟨_, rfl⟩
  rw [← hr] at hb1
  rw [← hr]
  apply Ls.runK LO [1, 2] 1
  · repeat' (first | rfl | with_reducible assumption | assumption | constructor)
  intro w2 f2 s2 hf2
  replace hf2 : f2 = [(1, _), (2, _)] := hf2
  subst hf2
  refine Ls.nil (N.to ?_)
  have hb2 : B2 w2 r 31 (.bool s.not) s.v := by unfold B2; rw [s2.heap]; exact hb1
  have m2 := m1.same s2
  clear m1 s2 hb1
  obtain ⟨a, c, hv⟩ := h.len
  refine W.cutS (fun w' g => (Mv (fun _ => False) w w' ∧ B2 w' r 31 (.bool s.not) s.v ∧ g = [(1, .int .u32 a_), (2, .pointer (some ⟨r, 0, none⟩))]) ∧ s.check = true) ?_ ?_
  · have hcells := hb2.cells
    refine W.seq (W.list ?_)
    apply Ls.runK LO [1, 2, 7] 1
    · repeat' (first | rfl | with_reducible assumption | assumption | constructor)
    intro w3 f3 s3 hf3
    replace hf3 : f3 = [(1, _), (2, _), (7, _)] := hf3
    subst hf3
    have m3 := m2.same s3
    refine Ls.call LO rfl rfl rfl rfl rfl (vs := [.agg s.cs.toArray]) rfl (rcheck_walk s w3 (h.moved m3) hl) ?_
    rintro _ w4 ⟨rfl, m4⟩
    refine ⟨_, rfl, ?_⟩
    apply Ls.runK LO [1, 2, 9] 1
    · repeat' (first | rfl | with_reducible assumption | assumption | constructor)
    intro w5 f5 s5 hf5
    replace hf5 : f5 = [(1, _), (2, _), (9, _)] := hf5
    subst hf5
    have hb5 : B2 w5 r 31 (.bool s.not) s.v := ((hb2.moved ((Mv.refl _ w2).same s3)).moved m4).moved ((Mv.refl _ w4).same s5)
    have m5 := (m3.trans m4).same s5
    refine Ls.nil (N.to ?_)
    cases hck : s.check with
    | false =>
      refine W.cond (b := true) rfl (fun _ => ?_) (fun h => by cases h)
      apply W.readS LO mixed [4] (by kernel_rfl)
      · repeat' (first | rfl | with_reducible assumption | assumption | constructor)
      intro w6 f6 s6 hf6
      replace hf6 : f6 = [(4, _)] := hf6
      subst hf6
      have e : s.has a_ = false := by unfold SetV.has; rw [hck]; rfl
      rw [e]
      exact W.ret (N.thenR (post (fn := Try.f24) (R := fun e w' => e = .returned (.bool false) ∧ Mv (fun _ => False) w w') LO (rs := [.tmp 4]) rfl (vs := [.bool false]) (.tmp rfl .nil) ⟨rfl, m5.same s6⟩))
    | true =>
      refine W.cond (b := false) rfl (fun h => by cases h) (fun _ => W.skip ?_)
      exact N.cut ⟨⟨m5, hb5, rfl⟩, rfl⟩ (sub_keys rfl)
  clear hb2 m2
  rintro w3 _ ⟨⟨m3, hb3, rfl⟩, hck⟩
  have hall : ∀ x ∈ s.l, 0 ≤ x.2 ∧ x.2 ≤ 32 := fun x hx => by
    unfold SetV.check at hck
    rw [Bool.and_eq_true] at hck
    have := List.all_eq_true.1 hck.2 x hx
    unfold okN at this
    simpa using this
  obtain ⟨acc0, hacc0⟩ : ∃ b, b = s.l.isEmpty := ⟨_, rfl⟩
  have k1 : Kn ((s.l.length : Int) == 0) acc0 := .of (by
    rw [hacc0]
    cases s.l with
    | nil => rfl
    | cons y t => rw [beq_eq_false_iff_ne.2 (by simp only [List.length_cons]; omega)]; rfl)
  obtain ⟨c0, c1⟩ := hb3.cls
  rw [hv] at c1
  apply W.readS LO mixed [1, 2, 5] (by kernel_rfl)
  · repeat' (first | rfl | with_reducible assumption | assumption | constructor)
  intro w4 f4 s4 hf4
  replace hf4 : f4 = [(1, _), (2, _), (5, _)] := hf4
  subst hf4
  have m4 := m3.same s4
  have hb4 : B2 w4 r 31 (.bool s.not) s.v := hb3.moved ((Mv.refl _ w3).same s4)
  clear c0 c1 hb3 s4 m3 k1
  refine W.cutS (fun w' g => (Mv (fun _ => False) w w' ∧ B2 w' r 31 (.bool s.not) s.v) ∧ g = [(2, .pointer (some ⟨r, 0, none⟩)), (5, .bool (acc0 || s.l.any fun n => inN n a_))]) ?_ ?_
  ·
    apply W.readS LO mixed [1, 2, 5, 6] (by kernel_rfl)
    · repeat' (first | rfl | with_reducible assumption | assumption | constructor)
    intro w5 f5 s5 hf5
    replace hf5 : f5 = [(1, _), (2, _), (5, _), (6, _)] := hf5
    subst hf5
    have m5 := m4.same s5
    have hb5 : B2 w5 r 31 (.bool s.not) s.v := hb4.moved ((Mv.refl _ w4).same s5)
    clear hb4 m4 s5
    refine W.block (W.loop (fun k w' g => ∃ i : Nat, k + i = s.l.length ∧ Mv (fun _ => False) w w' ∧ B2 w' r 31 (.bool s.not) s.v ∧ g = [(1, .int .u32 a_), (2, .pointer (some ⟨r, 0, none⟩)), (5, .bool (acc0 || (s.l.take i).any fun n => inN n a_)), (6, .int .i64 i)]) s.l.length [(1, .int .u32 a_), (2, .pointer (some ⟨r, 0, none⟩)), (5, .bool acc0), (6, .int .i64 (0 : Nat))] ⟨0, rfl, m5, hb5, by simp⟩ (sub_keys rfl) ?_)
    clear m5 hb5
    rintro k w5 _ ⟨i, hk, m5, hb5, rfl⟩
    obtain ⟨c0, c1⟩ := hb5.cls
    rw [hv] at c1
    by_cases hlt : i < s.l.length
    · have k1 : Kn (decide ((i : Int) < (s.l.length : Int))) true := .yes (by omega)
      refine W.seq ?_
      apply W.readS LO mixed [1, 2, 5, 6, 18] (by kernel_rfl)
      · repeat' (first | rfl | with_reducible assumption | assumption | constructor)
      intro w6 f6 s6 hf6
      replace hf6 : f6 = [(1, _), (2, _), (5, _), (6, _), (18, _)] := hf6
      subst hf6
      have m6 := m5.same s6
      have hb6 : B2 w6 r 31 (.bool s.not) s.v := hb5.moved ((Mv.refl _ w5).same s6)
      clear m5 hb5 s6 c0 c1
      refine W.cond (b := true) rfl (fun _ => W.skip (N.to ?_)) (fun h => by cases h)
      obtain ⟨x, hx⟩ : ∃ x, s.l[i]? = some x := ⟨_, List.getElem?_eq_getElem hlt⟩
      have hx32 := hall x (List.mem_of_getElem? hx)
      have htk : ((s.l.take (i + 1)).any fun n => inN n a_) = (((s.l.take i).any fun n => inN n a_) || inN x a_) := by rw [List.take_add_one, hx]; simp
      obtain ⟨acc, hacc⟩ : ∃ b, b = (acc0 || (s.l.take i).any fun n => inN n a_) := ⟨_, rfl⟩
      rw [← hacc]
      have hnext : (acc0 || (s.l.take (i + 1)).any fun n => inN n a_) = (acc || inN x a_) := by rw [htk, hacc, Bool.or_assoc]
      refine W.cutS (fun w' g => (Mv (fun _ => False) w w' ∧ B2 w' r 31 (.bool s.not) s.v) ∧ g = [(1, .int .u32 a_), (2, .pointer (some ⟨r, 0, none⟩)), (5, .bool (acc || inN x a_)), (6, .int .i64 i)]) ?_ ?_
      · refine W.block (W.list ?_)
        obtain ⟨b, o, c', hv', hcell⟩ := (h.moved m6).at ncs_len (by decide) hx
        rw [hv] at hv'
        injection hv' with ea _ ec
        subst ea ec
        have i0 : (0 : Int) ≤ (i : Int) := by omega
        have i1 : (i : Int) < (s.l.length : Int) := by omega
        cases acc with
        | true =>
          apply Ls.runK LO [1, 2, 5, 6] 11
          · repeat' (first | rfl | with_reducible assumption | assumption | constructor)
          intro w10 f10 s10 hf10
          replace hf10 : f10 = [(1, _), (2, _), (5, _), (6, _)] := hf10
          subst hf10
          exact Ls.nil (N.inb (N.cut ⟨⟨m6.same s10, hb6.moved ((Mv.refl _ w6).same s10)⟩, rfl⟩ (sub_keys rfl)))
        | false =>
          obtain ⟨c0, c1⟩ := hb6.cls
          rw [hv] at c1
          apply Ls.runK LO [1, 2, 6, 22, 27, 28] 8
          · repeat' (first | rfl | with_reducible assumption | assumption | constructor)
          intro w10 f10 s10 hf10
          replace hf10 : f10 = [(1, _), (2, _), (6, _), (22, _), (27, _), (28, _)] := hf10
          subst hf10
          have m10 := m6.same s10
          refine Ls.call LO rfl rfl rfl rfl rfl (vs := [.agg (ncs x).toArray, .int .u32 a_]) rfl (inr_walk x a_ w10 hx32.2 (by omega)) ?_
          rintro _ w11 ⟨rfl, m11⟩
          rw [inR_eq x a_ hx32.1 hx32.2 (hU x (List.mem_of_getElem? hx)) ha]
          refine ⟨_, rfl, ?_⟩
          apply Ls.runK LO [1, 2, 5, 6] 2
          · repeat' (first | rfl | with_reducible assumption | assumption | constructor)
          intro w12 f12 s12 hf12
          replace hf12 : f12 = [(1, _), (2, _), (5, _), (6, _)] := hf12
          subst hf12
          exact Ls.nil (N.inb (N.cut ⟨⟨(m10.trans m11).same s12, ((hb6.moved ((Mv.refl _ w6).same s10)).moved m11).moved ((Mv.refl _ w11).same s12)⟩, rfl⟩ (sub_keys rfl)))
      · rintro w7 _ ⟨⟨m7, hb7⟩, rfl⟩
        have k5 : Kn (IntKind.i64.wrap ((i : Int) + 1)) ((i + 1 : Nat) : Int) := .of (IntWalk.i64_in _ (by omega))
        apply W.readN LO mixed [1, 2, 5, 6] (by kernel_rfl)
        · repeat' (first | rfl | with_reducible assumption | assumption | constructor)
        intro w8 f8 s8 hf8
        replace hf8 : f8 = [(1, _), (2, _), (5, _), (6, _)] := hf8
        subst hf8
        exact N.round (k - 1) _ (by omega) ⟨i + 1, by omega, m7.same s8, hb7.moved ((Mv.refl _ w7).same s8), by rw [hnext]⟩ (sub_keys rfl)
    · have k1 : Kn (decide ((i : Int) < (s.l.length : Int))) false := .no (by omega)
      refine W.seq ?_
      apply W.readS LO mixed [2, 5, 18] (by kernel_rfl)
      · repeat' (first | rfl | with_reducible assumption | assumption | constructor)
      intro w6 f6 s6 hf6
      replace hf6 : f6 = [(2, _), (5, _), (18, _)] := hf6
      subst hf6
      refine W.cond (b := false) rfl (fun h => by cases h) (fun _ => W.exit ?_)
      rw [List.take_of_length_le (by omega)]
      exact N.thenE (N.thenE (N.out (N.cut ⟨⟨m5.same s6, hb5.moved ((Mv.refl _ w5).same s6)⟩, rfl⟩ (sub_keys rfl))))
  rintro w5 _ ⟨⟨m5, hb5⟩, rfl⟩
  obtain ⟨c0, c1⟩ := hb5.cls
  obtain ⟨b1, hb1⟩ : ∃ b1, b1 = (acc0 || s.l.any fun n => inN n a_) := ⟨_, rfl⟩
  rw [← hb1]
  have k2 : Kn (b1 == s.not) (b1 == s.not) := .rfl
  apply W.readS LO mixed [4] (by kernel_rfl)
  · repeat' (first | rfl | with_reducible assumption | assumption | constructor)
  intro w6 f6 s6 hf6
  replace hf6 : f6 = [(4, _)] := hf6
  subst hf6
  refine W.ret (post LO (rs := [.tmp 4]) rfl (vs := [.bool (!(b1 == s.not))]) (.tmp rfl .nil) ⟨?_, m5.same s6⟩)
  have e : s.has a_ = !(b1 == s.not) := by unfold SetV.has; rw [hck, ← hacc0, hb1]; rfl
  rw [e]
  rfl
end Go.Proofs.Ytbbafhpnlmmjjaa
