/- What is proved: whether an address is in a set, a port in a set of ports. Conditions: those that stand in each theorem. -/
import Derived.Test.YtbbafhpnlmmjjaaGrpNet
namespace Go.Proofs.Ytbbafhpnlmmjjaa
set_option linter.unusedVariables false
set_option linter.unusedSimpArgs false
set_option linter.unusedSectionVars false
open Go.RowKit Fw
set_option maxRecDepth 100000 in
set_option maxHeartbeats 4000000 in
theorem nhas_walk (s : SetV) (a_ : Int) (w : World) (h : NetsAt w s) (hl : s.l.length ≤ 1000000000) : Calls Try.prog 22 #[.agg s.cs.toArray, .int .u32 a_] w fun e w' => e = .returned (.bool (s.has a_)) ∧ Mv (fun _ => False) w w' := by
  refine calls_W (n := 33) (vs := [.agg s.cs.toArray, .int .u32 a_]) Try.func22 rfl rfl rfl ?_
  refine W.seq (W.list ?_)
  obtain ⟨hv1, hv2⟩ := h.one
  refine Ls.box rfl rfl rfl rfl rfl (vs := s.cs) rfl ?_
  have hb1 : B2 (w.alloc (.cells s.cs.toArray 31)) w.heap.size 31 (.bool s.not) s.v := heap_alloc_new w (.cells s.cs.toArray 31)
  have m1 : Mv (fun _ => False) w (w.alloc (.cells s.cs.toArray 31)) := (Mv.refl _ w).alloc _
  generalize w.alloc (.cells s.cs.toArray 31) = w1 at hb1 m1
  obtain ⟨r, hr⟩ : ∃ r, r = w.heap.size := ⟨_, rfl⟩
  rw [← hr] at hb1
  rw [← hr]
  apply Ls.runK LO [1, 2] 1
  · repeat' (first | rfl | with_reducible assumption | assumption | constructor)
  intro w2 f2 s2 hf2
  replace hf2 : f2 = [(1, _), (2, _)] := hf2
  subst hf2
  refine Ls.nil (N.to ?_)
  have hb2 : B2 w2 r 31 (.bool s.not) s.v := by unfold B2; rw [s2.heap]; exact hb1
  have m2 := m1.same s2
  clear m1 s2 hb1
  obtain ⟨a, c, hv⟩ := h.len
  refine W.cutS (fun w' g => (Mv (fun _ => False) w w' ∧ B2 w' r 31 (.bool s.not) s.v ∧ g = [(1, .int .u32 a_), (2, .pointer (some ⟨r, 0, none⟩))]) ∧ s.check = true) ?_ ?_
  · have hcells := hb2.cells
    refine W.seq (W.list ?_)
    apply Ls.runK LO [1, 2, 8] 1
    · repeat' (first | rfl | with_reducible assumption | assumption | constructor)
    intro w3 f3 s3 hf3
    replace hf3 : f3 = [(1, _), (2, _), (8, _)] := hf3
    subst hf3
    have m3 := m2.same s3
    refine Ls.call LO rfl rfl rfl rfl rfl (vs := [.agg s.cs.toArray]) rfl (ncheck_walk s w3 (h.moved m3) hl) ?_
    rintro _ w4 ⟨rfl, m4⟩
    refine ⟨_, rfl, ?_⟩
    apply Ls.runK LO [1, 2, 10] 1
    · repeat' (first | rfl | with_reducible assumption | assumption | constructor)
    intro w5 f5 s5 hf5
    replace hf5 : f5 = [(1, _), (2, _), (10, _)] := hf5
    subst hf5
    have hb5 : B2 w5 r 31 (.bool s.not) s.v := ((hb2.moved ((Mv.refl _ w2).same s3)).moved m4).moved ((Mv.refl _ w4).same s5)
    have m5 := (m3.trans m4).same s5
    refine Ls.nil (N.to ?_)
    cases hck : s.check with
    | false =>
      refine W.cond (b := true) rfl (fun _ => ?_) (fun h => by cases h)
      apply W.readS LO mixed [4] (by kernel_rfl)
      · repeat' (first | rfl | with_reducible assumption | assumption | constructor)
      intro w6 f6 s6 hf6
      replace hf6 : f6 = [(4, _)] := hf6
      subst hf6
      have e : s.has a_ = false := by unfold SetV.has; rw [hck]; rfl
      rw [e]
      exact W.ret (N.thenR (post (fn := Try.f22) (R := fun e w' => e = .returned (.bool false) ∧ Mv (fun _ => False) w w') LO (rs := [.tmp 4]) rfl (vs := [.bool false]) (.tmp rfl .nil) ⟨rfl, m5.same s6⟩))
    | true =>
      refine W.cond (b := false) rfl (fun h => by cases h) (fun _ => W.skip ?_)
      exact N.cut ⟨⟨m5, hb5, rfl⟩, rfl⟩ (sub_keys rfl)
  clear hb2 m2
  rintro w3 _ ⟨⟨m3, hb3, rfl⟩, hck⟩
  have hall : ∀ x ∈ s.l, 0 ≤ x.2 ∧ x.2 ≤ 32 := fun x hx => by
    unfold SetV.check at hck
    rw [Bool.and_eq_true] at hck
    have := List.all_eq_true.1 hck.2 x hx
    unfold okN at this
    simpa using this
  obtain ⟨acc0, hacc0⟩ : ∃ b, b = s.l.isEmpty := ⟨_, rfl⟩
  have k1 : Kn ((s.l.length : Int) == 0) acc0 := .of (by
    rw [hacc0]
    cases s.l with
    | nil => rfl
    | cons y t => rw [beq_eq_false_iff_ne.2 (by simp only [List.length_cons]; omega)]; rfl)
  obtain ⟨c0, c1⟩ := hb3.cls
  rw [hv] at c1
  apply W.readS LO mixed [1, 2, 5] (by kernel_rfl)
  · repeat' (first | rfl | with_reducible assumption | assumption | constructor)
  intro w4 f4 s4 hf4
  replace hf4 : f4 = [(1, _), (2, _), (5, _)] := hf4
  subst hf4
  have m4 := m3.same s4
  have hb4 : B2 w4 r 31 (.bool s.not) s.v := hb3.moved ((Mv.refl _ w3).same s4)
  clear c0 c1 hb3 s4 m3 k1
  refine W.cutS (fun w' g => (Mv (fun _ => False) w w' ∧ B2 w' r 31 (.bool s.not) s.v) ∧ g = [(2, .pointer (some ⟨r, 0, none⟩)), (5, .bool (acc0 || s.l.any fun n => inN n a_))]) ?_ ?_
  · obtain ⟨c0, c1⟩ := hb4.cls
    rw [hv] at c1
    apply W.readS LO mixed [1, 2, 5, 16, 17, 18] (by kernel_rfl)
    · repeat' (first | rfl | with_reducible assumption | assumption | constructor)
    intro w5 f5 s5 hf5
    replace hf5 : f5 = [(1, _), (2, _), (5, _), (16, _), (17, _), (18, _)] := hf5
    subst hf5
    have m5 := m4.same s5
    have hb5 : B2 w5 r 31 (.bool s.not) s.v := hb4.moved ((Mv.refl _ w4).same s5)
    clear c0 c1 hb4 m4 s5
    refine W.block (W.loop (fun k w' g => ∃ i : Nat, k + i = s.l.length ∧ Mv (fun _ => False) w w' ∧ B2 w' r 31 (.bool s.not) s.v ∧ g = [(1, .int .u32 a_), (2, .pointer (some ⟨r, 0, none⟩)), (5, .bool (acc0 || (s.l.take i).any fun n => inN n a_)), (16, .slice a s.l.length c), (17, .int .i64 s.l.length), (18, .int .i64 i)]) s.l.length [(1, .int .u32 a_), (2, .pointer (some ⟨r, 0, none⟩)), (5, .bool acc0), (16, .slice a s.l.length c), (17, .int .i64 s.l.length), (18, .int .i64 0)] ⟨0, rfl, m5, hb5, by simp⟩ (sub_keys rfl) ?_)
    clear m5 hb5
    rintro k w5 _ ⟨i, hk, m5, hb5, rfl⟩
    by_cases hlt : i < s.l.length
    · have k1 : Kn (decide ((i : Int) < (s.l.length : Int))) true := .yes (by omega)
      apply W.readS LO mixed [1, 2, 5, 16, 17, 18, 19] (by kernel_rfl)
      · repeat' (first | rfl | with_reducible assumption | assumption | constructor)
      intro w6 f6 s6 hf6
      replace hf6 : f6 = [(1, _), (2, _), (5, _), (16, _), (17, _), (18, _), (19, _)] := hf6
      subst hf6
      have m6 := m5.same s6
      have hb6 : B2 w6 r 31 (.bool s.not) s.v := hb5.moved ((Mv.refl _ w5).same s6)
      clear m5 hb5 s6
      refine W.seq (W.cond (b := true) rfl (fun _ => W.skip (N.to ?_)) (fun h => by cases h))
      obtain ⟨x, hx⟩ : ∃ x, s.l[i]? = some x := ⟨_, List.getElem?_eq_getElem hlt⟩
      have hx32 := hall x (List.mem_of_getElem? hx)
      have htk : ((s.l.take (i + 1)).any fun n => inN n a_) = (((s.l.take i).any fun n => inN n a_) || inN x a_) := by rw [List.take_add_one, hx]; simp
      obtain ⟨acc, hacc⟩ : ∃ b, b = (acc0 || (s.l.take i).any fun n => inN n a_) := ⟨_, rfl⟩
      rw [← hacc]
      have hnext : (acc0 || (s.l.take (i + 1)).any fun n => inN n a_) = (acc || inN x a_) := by rw [htk, hacc, Bool.or_assoc]
      refine W.cutS (fun w' g => (Mv (fun _ => False) w w' ∧ B2 w' r 31 (.bool s.not) s.v) ∧ g = [(1, .int .u32 a_), (2, .pointer (some ⟨r, 0, none⟩)), (5, .bool (acc || inN x a_)), (16, .slice a s.l.length c), (17, .int .i64 s.l.length), (18, .int .i64 i)]) ?_ ?_
      · refine W.block ?_
        obtain ⟨b, o, c', hv', hcell⟩ := (h.moved m6).at ncs_len (by decide) hx
        rw [hv] at hv'
        injection hv' with ea _ ec
        subst ea ec
        have i0 : (0 : Int) ≤ (i : Int) := by omega
        have i1 : (i : Int) < (s.l.length : Int) := by omega
        refine W.seq (W.list ?_)
        apply Ls.runK LO [1, 2, 5, 16, 17, 18, 21] 2
        · repeat' (first | rfl | with_reducible assumption | assumption | constructor)
        intro w7 f7 s7 hf7
        replace hf7 : f7 = [(1, _), (2, _), (5, _), (16, _), (17, _), (18, _), (21, _)] := hf7
        subst hf7
        have m7 := m6.same s7
        have hb7 : B2 w7 r 31 (.bool s.not) s.v := hb6.moved ((Mv.refl _ w6).same s7)
        clear hcell m6 hb6 s7
        refine Ls.alloc LO rfl rfl rfl rfl (zs := [.int .u32 0, .int .i64 0]) rfl ?_
        have hb8 := heap_alloc_new w7 (.cells [Value.int .u32 0, .int .i64 0].toArray 48)
        have m8 : Mv (fun _ => False) w7 (w7.alloc (.cells [Value.int .u32 0, .int .i64 0].toArray 48)) := (Mv.refl _ w7).alloc _
        generalize w7.alloc (.cells [Value.int .u32 0, .int .i64 0].toArray 48) = w8 at hb8 m8
        obtain ⟨q, hq⟩ : ∃ q, q = w7.heap.size := ⟨_, rfl⟩
        rw [← hq] at hb8
        rw [← hq]
        refine Ls.store LO rfl rfl rfl rfl rfl (vs := ncs x) rfl rfl rfl hb8 rfl ?_
        intro w9 hb9 m9 _
        have hb9 : B2 w9 q 48 (.int .u32 x.1) (.int .i64 x.2) := hb9
        have m79 : Mv (fun _ => False) w7 w9 := m8.cut m9 fun k hk e => by omega
        have m9 := m7.trans m79
        have hbr := hb7.moved m79
        refine Ls.nil (N.to ?_)
        clear hb8 m8 m7 hq m79 hb7
        refine W.list ?_
        cases acc with
        | true =>
          apply Ls.runK LO [1, 2, 5, 16, 17, 18] 7
          · repeat' (first | rfl | with_reducible assumption | assumption | constructor)
          intro w10 f10 s10 hf10
          replace hf10 : f10 = [(1, _), (2, _), (5, _), (16, _), (17, _), (18, _)] := hf10
          subst hf10
          exact Ls.nil (N.inb (N.cut ⟨⟨m9.same s10, hbr.moved ((Mv.refl _ w9).same s10)⟩, rfl⟩ (sub_keys rfl)))
        | false =>
          have hcx := hb9.cells
          apply Ls.runK LO [1, 2, 16, 17, 18, 23, 24, 25] 4
          · repeat' (first | rfl | with_reducible assumption | assumption | constructor)
          intro w10 f10 s10 hf10
          replace hf10 : f10 = [(1, _), (2, _), (16, _), (17, _), (18, _), (23, _), (24, _), (25, _)] := hf10
          subst hf10
          have m10 := m9.same s10
          refine Ls.call LO rfl rfl rfl rfl rfl (vs := [.agg (ncs x).toArray, .int .u32 a_]) rfl (has_walk x a_ w10 hx32.1 hx32.2) ?_
          rintro _ w11 ⟨rfl, m11⟩
          refine ⟨_, rfl, ?_⟩
          apply Ls.runK LO [1, 2, 5, 16, 17, 18] 2
          · repeat' (first | rfl | with_reducible assumption | assumption | constructor)
          intro w12 f12 s12 hf12
          replace hf12 : f12 = [(1, _), (2, _), (5, _), (16, _), (17, _), (18, _)] := hf12
          subst hf12
          exact Ls.nil (N.inb (N.cut ⟨⟨(m10.trans m11).same s12, ((hbr.moved ((Mv.refl _ w9).same s10)).moved m11).moved ((Mv.refl _ w11).same s12)⟩, rfl⟩ (sub_keys rfl)))
      · rintro w7 _ ⟨⟨m7, hb7⟩, rfl⟩
        have k5 : Kn (IntKind.i64.wrap ((i : Int) + 1)) ((i + 1 : Nat) : Int) := .of (IntWalk.i64_in _ (by omega))
        apply W.readN LO mixed [1, 2, 5, 16, 17, 18] (by kernel_rfl)
        · repeat' (first | rfl | with_reducible assumption | assumption | constructor)
        intro w8 f8 s8 hf8
        replace hf8 : f8 = [(1, _), (2, _), (5, _), (16, _), (17, _), (18, _)] := hf8
        subst hf8
        exact N.round (k - 1) _ (by omega) ⟨i + 1, by omega, m7.same s8, hb7.moved ((Mv.refl _ w7).same s8), by rw [hnext]⟩ (sub_keys rfl)
    · have k1 : Kn (decide ((i : Int) < (s.l.length : Int))) false := .no (by omega)
      apply W.readS LO mixed [2, 5, 19] (by kernel_rfl)
      · repeat' (first | rfl | with_reducible assumption | assumption | constructor)
      intro w6 f6 s6 hf6
      replace hf6 : f6 = [(2, _), (5, _), (19, _)] := hf6
      subst hf6
      refine W.seq (W.cond (b := false) rfl (fun h => by cases h) (fun _ => W.exit ?_))
      rw [List.take_of_length_le (by omega)]
      exact N.thenE (N.thenE (N.out (N.cut ⟨⟨m5.same s6, hb5.moved ((Mv.refl _ w5).same s6)⟩, rfl⟩ (sub_keys rfl))))
  rintro w5 _ ⟨⟨m5, hb5⟩, rfl⟩
  obtain ⟨c0, c1⟩ := hb5.cls
  obtain ⟨b1, hb1⟩ : ∃ b1, b1 = (acc0 || s.l.any fun n => inN n a_) := ⟨_, rfl⟩
  rw [← hb1]
  have k2 : Kn (b1 == s.not) (b1 == s.not) := .rfl
  apply W.readS LO mixed [4] (by kernel_rfl)
  · repeat' (first | rfl | with_reducible assumption | assumption | constructor)
  intro w6 f6 s6 hf6
  replace hf6 : f6 = [(4, _)] := hf6
  subst hf6
  refine W.ret (post LO (rs := [.tmp 4]) rfl (vs := [.bool (!(b1 == s.not))]) (.tmp rfl .nil) ⟨?_, m5.same s6⟩)
  have e : s.has a_ = !(b1 == s.not) := by unfold SetV.has; rw [hck, ← hacc0, hb1]; rfl
  rw [e]
  rfl
end Go.Proofs.Ytbbafhpnlmmjjaa
