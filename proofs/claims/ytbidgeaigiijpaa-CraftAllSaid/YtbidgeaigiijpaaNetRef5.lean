/- What is proved: the reference's checks of heads. Conditions: those that stand in each theorem. -/
import Derived.Test.YtbidgeaigiijpaaNetRef4
namespace Go.Proofs.Ytbidgeaigiijpaa
set_option linter.unusedVariables false
set_option linter.unusedSimpArgs false
set_option linter.unusedSectionVars false
open Go.RowKit Fw Nt
set_option maxRecDepth 100000 in
set_option maxHeartbeats 4000000 in
theorem rcheck3_walk (h : IpV) (w : World) : Calls Try.prog 64 #[.agg h.cs.toArray] w fun e w' => e = .returned (.bool h.chk) ∧ Mv (fun _ => False) w w' := by
  refine calls_W (n := 70) (vs := [.agg h.cs.toArray]) Try.func64 rfl rfl rfl ?_
  refine W.seq (W.list ?_)
  refine Ls.box rfl rfl rfl rfl rfl (vs := h.cs) rfl ?_
  have hb1 : BX (w.alloc (.cells h.cs.toArray 28)) w.heap.size 28 h.cs := heap_alloc_new w (.cells h.cs.toArray 28)
  have m1 : Mv (fun _ => False) w (w.alloc (.cells h.cs.toArray 28)) := (Mv.refl _ w).alloc _
  generalize w.alloc (.cells h.cs.toArray 28) = w1 at hb1 m1
  obtain ⟨p, hp⟩ : ∃ p, p = w.heap.size := ⟨_, rfl⟩
  rw [← hp] at hb1
  rw [← hp]
  apply Ls.runK LO [1] 1
  · repeat' (first | rfl | with_reducible assumption | assumption | constructor)
  intro w2 f2 s2 hf2
  replace hf2 : f2 = [(1, _)] := hf2
  subst hf2
  refine Ls.nil (N.to ?_)
  have m2 := m1.same s2
  have hb2 := hb1.same s2
  clear m1 hb1 s2
  refine W.seq (W.list ?_)
  obtain ⟨c1, hc1⟩ : ∃ b : Bool, b = decide (0 ≤ h.tos) := ⟨_, rfl⟩
  refine Ls.meet 4 (fun w' g => Same w2 w' ∧ g = [(1, .pointer (some ⟨p, 0, none⟩)), (6, .bool (c1))]) ?_ ?_
  · have hb3 := hb2.same (⟨rfl, rfl, rfl, rfl⟩ : Same w2 w2)
    have d : Cl w2 ⟨p, 0 + 0, none⟩ (.int .i64 h.tos) := hb3.cl rfl
    have k : Kn (decide (0 ≤ h.tos)) c1 := .of hc1.symm
    apply Ls.runK LO [1, 6] 4
    · repeat' (first | rfl | with_reducible assumption | assumption | constructor)
    intro w4 f4 s4 hf4
    replace hf4 : f4 = [(1, _), (6, _)] := hf4
    subst hf4
    exact Ls.nil (N.cut ⟨s4, rfl⟩ (sub_keys rfl))
  rintro w3 _ ⟨s3, rfl⟩
  obtain ⟨c2, hc2⟩ : ∃ b : Bool, b = decide (h.tos ≤ 255) := ⟨_, rfl⟩
  refine Ls.meet 5 (fun w' g => Same w2 w' ∧ g = [(1, .pointer (some ⟨p, 0, none⟩)), (11, .bool (c1 && c2))]) ?_ ?_
  · cases c1 with
    | false =>
      apply Ls.runK LO [1, 11] 5
      · repeat' (first | rfl | with_reducible assumption | assumption | constructor)
      intro w4 f4 s4 hf4
      replace hf4 : f4 = [(1, _), (11, _)] := hf4
      subst hf4
      exact Ls.nil (N.cut ⟨s3.trans s4, rfl⟩ (sub_keys rfl))
    | true =>
      have hb3 := hb2.same s3
      have d : Cl w3 ⟨p, 0 + 0, none⟩ (.int .i64 h.tos) := hb3.cl rfl
      have k : Kn (decide (h.tos ≤ 255)) c2 := .of hc2.symm
      apply Ls.runK LO [1, 11] 5
      · repeat' (first | rfl | with_reducible assumption | assumption | constructor)
      intro w4 f4 s4 hf4
      replace hf4 : f4 = [(1, _), (11, _)] := hf4
      subst hf4
      exact Ls.nil (N.cut ⟨s3.trans s4, rfl⟩ (sub_keys rfl))
  clear s3
  rintro w3 _ ⟨s3, rfl⟩
  obtain ⟨d2, hd2⟩ : ∃ b : Bool, b = (c1 && c2) := ⟨_, rfl⟩
  rw [← hd2]
  obtain ⟨c3, hc3⟩ : ∃ b : Bool, b = decide (0 ≤ h.ttl) := ⟨_, rfl⟩
  refine Ls.meet 5 (fun w' g => Same w2 w' ∧ g = [(1, .pointer (some ⟨p, 0, none⟩)), (16, .bool (d2 && c3))]) ?_ ?_
  · cases d2 with
    | false =>
      apply Ls.runK LO [1, 16] 5
      · repeat' (first | rfl | with_reducible assumption | assumption | constructor)
      intro w4 f4 s4 hf4
      replace hf4 : f4 = [(1, _), (16, _)] := hf4
      subst hf4
      exact Ls.nil (N.cut ⟨s3.trans s4, rfl⟩ (sub_keys rfl))
    | true =>
      have hb3 := hb2.same s3
      have d : Cl w3 ⟨p, 0 + 5, none⟩ (.int .i64 h.ttl) := hb3.cl rfl
      have k : Kn (decide (0 ≤ h.ttl)) c3 := .of hc3.symm
      apply Ls.runK LO [1, 16] 5
      · repeat' (first | rfl | with_reducible assumption | assumption | constructor)
      intro w4 f4 s4 hf4
      replace hf4 : f4 = [(1, _), (16, _)] := hf4
      subst hf4
      exact Ls.nil (N.cut ⟨s3.trans s4, rfl⟩ (sub_keys rfl))
  clear s3
  rintro w3 _ ⟨s3, rfl⟩
  obtain ⟨d3, hd3⟩ : ∃ b : Bool, b = (d2 && c3) := ⟨_, rfl⟩
  rw [← hd3]
  obtain ⟨c4, hc4⟩ : ∃ b : Bool, b = decide (h.ttl ≤ 255) := ⟨_, rfl⟩
  refine Ls.meet 5 (fun w' g => Same w2 w' ∧ g = [(1, .pointer (some ⟨p, 0, none⟩)), (21, .bool (d3 && c4))]) ?_ ?_
  · cases d3 with
    | false =>
      apply Ls.runK LO [1, 21] 5
      · repeat' (first | rfl | with_reducible assumption | assumption | constructor)
      intro w4 f4 s4 hf4
      replace hf4 : f4 = [(1, _), (21, _)] := hf4
      subst hf4
      exact Ls.nil (N.cut ⟨s3.trans s4, rfl⟩ (sub_keys rfl))
    | true =>
      have hb3 := hb2.same s3
      have d : Cl w3 ⟨p, 0 + 5, none⟩ (.int .i64 h.ttl) := hb3.cl rfl
      have k : Kn (decide (h.ttl ≤ 255)) c4 := .of hc4.symm
      apply Ls.runK LO [1, 21] 5
      · repeat' (first | rfl | with_reducible assumption | assumption | constructor)
      intro w4 f4 s4 hf4
      replace hf4 : f4 = [(1, _), (21, _)] := hf4
      subst hf4
      exact Ls.nil (N.cut ⟨s3.trans s4, rfl⟩ (sub_keys rfl))
  clear s3
  rintro w3 _ ⟨s3, rfl⟩
  obtain ⟨d4, hd4⟩ : ∃ b : Bool, b = (d3 && c4) := ⟨_, rfl⟩
  rw [← hd4]
  obtain ⟨c5, hc5⟩ : ∃ b : Bool, b = decide (0 ≤ h.proto) := ⟨_, rfl⟩
  refine Ls.meet 5 (fun w' g => Same w2 w' ∧ g = [(1, .pointer (some ⟨p, 0, none⟩)), (26, .bool (d4 && c5))]) ?_ ?_
  · cases d4 with
    | false =>
      apply Ls.runK LO [1, 26] 5
      · repeat' (first | rfl | with_reducible assumption | assumption | constructor)
      intro w4 f4 s4 hf4
      replace hf4 : f4 = [(1, _), (26, _)] := hf4
      subst hf4
      exact Ls.nil (N.cut ⟨s3.trans s4, rfl⟩ (sub_keys rfl))
    | true =>
      have hb3 := hb2.same s3
      have d : Cl w3 ⟨p, 0 + 6, none⟩ (.int .i64 h.proto) := hb3.cl rfl
      have k : Kn (decide (0 ≤ h.proto)) c5 := .of hc5.symm
      apply Ls.runK LO [1, 26] 5
      · repeat' (first | rfl | with_reducible assumption | assumption | constructor)
      intro w4 f4 s4 hf4
      replace hf4 : f4 = [(1, _), (26, _)] := hf4
      subst hf4
      exact Ls.nil (N.cut ⟨s3.trans s4, rfl⟩ (sub_keys rfl))
  clear s3
  rintro w3 _ ⟨s3, rfl⟩
  obtain ⟨d5, hd5⟩ : ∃ b : Bool, b = (d4 && c5) := ⟨_, rfl⟩
  rw [← hd5]
  obtain ⟨c6, hc6⟩ : ∃ b : Bool, b = decide (h.proto ≤ 255) := ⟨_, rfl⟩
  refine Ls.meet 5 (fun w' g => Same w2 w' ∧ g = [(1, .pointer (some ⟨p, 0, none⟩)), (31, .bool (d5 && c6))]) ?_ ?_
  · cases d5 with
    | false =>
      apply Ls.runK LO [1, 31] 5
      · repeat' (first | rfl | with_reducible assumption | assumption | constructor)
      intro w4 f4 s4 hf4
      replace hf4 : f4 = [(1, _), (31, _)] := hf4
      subst hf4
      exact Ls.nil (N.cut ⟨s3.trans s4, rfl⟩ (sub_keys rfl))
    | true =>
      have hb3 := hb2.same s3
      have d : Cl w3 ⟨p, 0 + 6, none⟩ (.int .i64 h.proto) := hb3.cl rfl
      have k : Kn (decide (h.proto ≤ 255)) c6 := .of hc6.symm
      apply Ls.runK LO [1, 31] 5
      · repeat' (first | rfl | with_reducible assumption | assumption | constructor)
      intro w4 f4 s4 hf4
      replace hf4 : f4 = [(1, _), (31, _)] := hf4
      subst hf4
      exact Ls.nil (N.cut ⟨s3.trans s4, rfl⟩ (sub_keys rfl))
  clear s3
  rintro w3 _ ⟨s3, rfl⟩
  obtain ⟨d6, hd6⟩ : ∃ b : Bool, b = (d5 && c6) := ⟨_, rfl⟩
  rw [← hd6]
  obtain ⟨c7, hc7⟩ : ∃ b : Bool, b = decide (0 ≤ h.id) := ⟨_, rfl⟩
  refine Ls.meet 5 (fun w' g => Same w2 w' ∧ g = [(1, .pointer (some ⟨p, 0, none⟩)), (36, .bool (d6 && c7))]) ?_ ?_
  · cases d6 with
    | false =>
      apply Ls.runK LO [1, 36] 5
      · repeat' (first | rfl | with_reducible assumption | assumption | constructor)
      intro w4 f4 s4 hf4
      replace hf4 : f4 = [(1, _), (36, _)] := hf4
      subst hf4
      exact Ls.nil (N.cut ⟨s3.trans s4, rfl⟩ (sub_keys rfl))
    | true =>
      have hb3 := hb2.same s3
      have d : Cl w3 ⟨p, 0 + 1, none⟩ (.int .i64 h.id) := hb3.cl rfl
      have k : Kn (decide (0 ≤ h.id)) c7 := .of hc7.symm
      apply Ls.runK LO [1, 36] 5
      · repeat' (first | rfl | with_reducible assumption | assumption | constructor)
      intro w4 f4 s4 hf4
      replace hf4 : f4 = [(1, _), (36, _)] := hf4
      subst hf4
      exact Ls.nil (N.cut ⟨s3.trans s4, rfl⟩ (sub_keys rfl))
  clear s3
  rintro w3 _ ⟨s3, rfl⟩
  obtain ⟨d7, hd7⟩ : ∃ b : Bool, b = (d6 && c7) := ⟨_, rfl⟩
  rw [← hd7]
  obtain ⟨c8, hc8⟩ : ∃ b : Bool, b = decide (h.id ≤ 65535) := ⟨_, rfl⟩
  refine Ls.meet 5 (fun w' g => Same w2 w' ∧ g = [(1, .pointer (some ⟨p, 0, none⟩)), (41, .bool (d7 && c8))]) ?_ ?_
  · cases d7 with
    | false =>
      apply Ls.runK LO [1, 41] 5
      · repeat' (first | rfl | with_reducible assumption | assumption | constructor)
      intro w4 f4 s4 hf4
      replace hf4 : f4 = [(1, _), (41, _)] := hf4
      subst hf4
      exact Ls.nil (N.cut ⟨s3.trans s4, rfl⟩ (sub_keys rfl))
    | true =>
      have hb3 := hb2.same s3
      have d : Cl w3 ⟨p, 0 + 1, none⟩ (.int .i64 h.id) := hb3.cl rfl
      have k : Kn (decide (h.id ≤ 65535)) c8 := .of hc8.symm
      apply Ls.runK LO [1, 41] 5
      · repeat' (first | rfl | with_reducible assumption | assumption | constructor)
      intro w4 f4 s4 hf4
      replace hf4 : f4 = [(1, _), (41, _)] := hf4
      subst hf4
      exact Ls.nil (N.cut ⟨s3.trans s4, rfl⟩ (sub_keys rfl))
  clear s3
  rintro w3 _ ⟨s3, rfl⟩
  obtain ⟨d8, hd8⟩ : ∃ b : Bool, b = (d7 && c8) := ⟨_, rfl⟩
  rw [← hd8]
  obtain ⟨c9, hc9⟩ : ∃ b : Bool, b = decide (0 ≤ h.off) := ⟨_, rfl⟩
  refine Ls.meet 5 (fun w' g => Same w2 w' ∧ g = [(1, .pointer (some ⟨p, 0, none⟩)), (46, .bool (d8 && c9))]) ?_ ?_
  · cases d8 with
    | false =>
      apply Ls.runK LO [1, 46] 5
      · repeat' (first | rfl | with_reducible assumption | assumption | constructor)
      intro w4 f4 s4 hf4
      replace hf4 : f4 = [(1, _), (46, _)] := hf4
      subst hf4
      exact Ls.nil (N.cut ⟨s3.trans s4, rfl⟩ (sub_keys rfl))
    | true =>
      have hb3 := hb2.same s3
      have d : Cl w3 ⟨p, 0 + 4, none⟩ (.int .i64 h.off) := hb3.cl rfl
      have k : Kn (decide (0 ≤ h.off)) c9 := .of hc9.symm
      apply Ls.runK LO [1, 46] 5
      · repeat' (first | rfl | with_reducible assumption | assumption | constructor)
      intro w4 f4 s4 hf4
      replace hf4 : f4 = [(1, _), (46, _)] := hf4
      subst hf4
      exact Ls.nil (N.cut ⟨s3.trans s4, rfl⟩ (sub_keys rfl))
  clear s3
  rintro w3 _ ⟨s3, rfl⟩
  obtain ⟨d9, hd9⟩ : ∃ b : Bool, b = (d8 && c9) := ⟨_, rfl⟩
  rw [← hd9]
  obtain ⟨c10, hc10⟩ : ∃ b : Bool, b = decide (h.off ≤ 65528) := ⟨_, rfl⟩
  refine Ls.meet 5 (fun w' g => Same w2 w' ∧ g = [(1, .pointer (some ⟨p, 0, none⟩)), (51, .bool (d9 && c10))]) ?_ ?_
  · cases d9 with
    | false =>
      apply Ls.runK LO [1, 51] 5
      · repeat' (first | rfl | with_reducible assumption | assumption | constructor)
      intro w4 f4 s4 hf4
      replace hf4 : f4 = [(1, _), (51, _)] := hf4
      subst hf4
      exact Ls.nil (N.cut ⟨s3.trans s4, rfl⟩ (sub_keys rfl))
    | true =>
      have hb3 := hb2.same s3
      have d : Cl w3 ⟨p, 0 + 4, none⟩ (.int .i64 h.off) := hb3.cl rfl
      have k : Kn (decide (h.off ≤ 65528)) c10 := .of hc10.symm
      apply Ls.runK LO [1, 51] 5
      · repeat' (first | rfl | with_reducible assumption | assumption | constructor)
      intro w4 f4 s4 hf4
      replace hf4 : f4 = [(1, _), (51, _)] := hf4
      subst hf4
      exact Ls.nil (N.cut ⟨s3.trans s4, rfl⟩ (sub_keys rfl))
  clear s3
  rintro w3 _ ⟨s3, rfl⟩
  obtain ⟨d10, hd10⟩ : ∃ b : Bool, b = (d9 && c10) := ⟨_, rfl⟩
  rw [← hd10]
  obtain ⟨c11, hc11⟩ : ∃ b : Bool, b = (h.off.tmod 8 == 0) := ⟨_, rfl⟩
  refine Ls.meet 6 (fun w' g => Same w2 w' ∧ g = [(1, .pointer (some ⟨p, 0, none⟩)), (57, .bool (d10 && c11))]) ?_ ?_
  · cases d10 with
    | false =>
      apply Ls.runK LO [1, 57] 6
      · repeat' (first | rfl | with_reducible assumption | assumption | constructor)
      intro w4 f4 s4 hf4
      replace hf4 : f4 = [(1, _), (57, _)] := hf4
      subst hf4
      exact Ls.nil (N.cut ⟨s3.trans s4, rfl⟩ (sub_keys rfl))
    | true =>
      have hb3 := hb2.same s3
      have d : Cl w3 ⟨p, 0 + 4, none⟩ (.int .i64 h.off) := hb3.cl rfl
      have n8 : (8 : Int) ≠ 0 := by decide
      have k : Kn (h.off.tmod 8 == 0) c11 := .of hc11.symm
      apply Ls.runK LO [1, 57] 6
      · repeat' (first | rfl | with_reducible assumption | assumption | constructor)
      intro w4 f4 s4 hf4
      replace hf4 : f4 = [(1, _), (57, _)] := hf4
      subst hf4
      exact Ls.nil (N.cut ⟨s3.trans s4, rfl⟩ (sub_keys rfl))
  clear s3
  rintro w3 _ ⟨s3, rfl⟩
  obtain ⟨d11, hd11⟩ : ∃ b : Bool, b = (d10 && c11) := ⟨_, rfl⟩
  rw [← hd11]
  obtain ⟨c12, hc12⟩ : ∃ b : Bool, b = decide ((h.o.size : Int) ≤ 40) := ⟨_, rfl⟩
  refine Ls.meet 6 (fun w' g => Same w2 w' ∧ g = [(1, .pointer (some ⟨p, 0, none⟩)), (63, .bool (d11 && c12))]) ?_ ?_
  · cases d11 with
    | false =>
      apply Ls.runK LO [1, 63] 6
      · repeat' (first | rfl | with_reducible assumption | assumption | constructor)
      intro w4 f4 s4 hf4
      replace hf4 : f4 = [(1, _), (63, _)] := hf4
      subst hf4
      exact Ls.nil (N.cut ⟨s3.trans s4, rfl⟩ (sub_keys rfl))
    | true =>
      have hb3 := hb2.same s3
      have d : Cl w3 ⟨p, 0 + 9, none⟩ (.string h.o) := hb3.cl rfl
      have k : Kn (decide ((h.o.size : Int) ≤ 40)) c12 := .of hc12.symm
      apply Ls.runK LO [1, 63] 6
      · repeat' (first | rfl | with_reducible assumption | assumption | constructor)
      intro w4 f4 s4 hf4
      replace hf4 : f4 = [(1, _), (63, _)] := hf4
      subst hf4
      exact Ls.nil (N.cut ⟨s3.trans s4, rfl⟩ (sub_keys rfl))
  clear s3
  rintro w3 _ ⟨s3, rfl⟩
  obtain ⟨d12, hd12⟩ : ∃ b : Bool, b = (d11 && c12) := ⟨_, rfl⟩
  rw [← hd12]
  obtain ⟨c13, hc13⟩ : ∃ b : Bool, b = ((h.o.size : Int).tmod 4 == 0) := ⟨_, rfl⟩
  refine Ls.meet 7 (fun w' g => Same w2 w' ∧ g = [(2, .bool (d12 && c13))]) ?_ ?_
  · cases d12 with
    | false =>
      apply Ls.runK LO [2] 7
      · repeat' (first | rfl | with_reducible assumption | assumption | constructor)
      intro w4 f4 s4 hf4
      replace hf4 : f4 = [(2, _)] := hf4
      subst hf4
      exact Ls.nil (N.cut ⟨s3.trans s4, rfl⟩ (sub_keys rfl))
    | true =>
      have hb3 := hb2.same s3
      have d : Cl w3 ⟨p, 0 + 9, none⟩ (.string h.o) := hb3.cl rfl
      have n4 : (4 : Int) ≠ 0 := by decide
      have k : Kn ((h.o.size : Int).tmod 4 == 0) c13 := .of hc13.symm
      apply Ls.runK LO [2] 7
      · repeat' (first | rfl | with_reducible assumption | assumption | constructor)
      intro w4 f4 s4 hf4
      replace hf4 : f4 = [(2, _)] := hf4
      subst hf4
      exact Ls.nil (N.cut ⟨s3.trans s4, rfl⟩ (sub_keys rfl))
  clear s3
  rintro w3 _ ⟨s3, rfl⟩
  obtain ⟨d13, hd13⟩ : ∃ b : Bool, b = (d12 && c13) := ⟨_, rfl⟩
  rw [← hd13]
  refine Ls.nil (N.to ?_)
  have e : d13 = h.chk := by
    rw [hd13, hd12, hd11, hd10, hd9, hd8, hd7, hd6, hd5, hd4, hd3, hd2, hc1, hc2, hc3, hc4, hc5, hc6, hc7, hc8, hc9, hc10, hc11, hc12, hc13]
    unfold IpV.chk chkI
    rw [Bool.eq_iff_iff]
    simp only [Bool.and_eq_true, decide_eq_true_eq, beq_iff_eq]
    rw [Int.tmod_eq_emod_of_nonneg (show (0 : Int) ≤ (h.o.size : Int) by omega)]
    constructor
    · rintro ⟨⟨⟨⟨⟨⟨⟨⟨⟨⟨⟨⟨a1, a2⟩, a3⟩, a4⟩, a5⟩, a6⟩, a7⟩, a8⟩, a9⟩, a10⟩, a11⟩, a12⟩, a13⟩
      rw [Int.tmod_eq_emod_of_nonneg a9] at a11
      omega
    · rintro ⟨b1, b2, b3, b4, b5, b6, b7, b8, b9, b10, b11, b12, b13⟩
      rw [Int.tmod_eq_emod_of_nonneg b9]
      omega
  rw [← e]
  exact W.ret (post LO (rs := [.tmp 2]) rfl (vs := [.bool d13]) (.tmp rfl .nil) ⟨rfl, m2.same s3⟩)
set_option maxRecDepth 100000 in
set_option maxHeartbeats 4000000 in
theorem rcheck4_walk (h : SegV) (w : World) : Calls Try.prog 67 #[.agg h.cs.toArray] w fun e w' => e = .returned (.bool h.chk) ∧ Mv (fun _ => False) w w' := by
  refine calls_W (n := 54) (vs := [.agg h.cs.toArray]) Try.func67 rfl rfl rfl ?_
  refine W.seq (W.list ?_)
  refine Ls.box rfl rfl rfl rfl rfl (vs := h.cs) rfl ?_
  have hb1 : BX (w.alloc (.cells h.cs.toArray 26)) w.heap.size 26 h.cs := heap_alloc_new w (.cells h.cs.toArray 26)
  have m1 : Mv (fun _ => False) w (w.alloc (.cells h.cs.toArray 26)) := (Mv.refl _ w).alloc _
  generalize w.alloc (.cells h.cs.toArray 26) = w1 at hb1 m1
  obtain ⟨p, hp⟩ : ∃ p, p = w.heap.size := ⟨_, rfl⟩
  rw [← hp] at hb1
  rw [← hp]
  apply Ls.runK LO [1] 1
  · repeat' (first | rfl | with_reducible assumption | assumption | constructor)
  intro w2 f2 s2 hf2
  replace hf2 : f2 = [(1, _)] := hf2
  subst hf2
  refine Ls.nil (N.to ?_)
  have m2 := m1.same s2
  have hb2 := hb1.same s2
  clear m1 hb1 s2
  refine W.seq (W.list ?_)
  obtain ⟨c1, hc1⟩ : ∃ b : Bool, b = decide (0 ≤ h.sp) := ⟨_, rfl⟩
  refine Ls.meet 4 (fun w' g => Same w2 w' ∧ g = [(1, .pointer (some ⟨p, 0, none⟩)), (6, .bool (c1))]) ?_ ?_
  · have hb3 := hb2.same (⟨rfl, rfl, rfl, rfl⟩ : Same w2 w2)
    have d : Cl w2 ⟨p, 0 + 0, none⟩ (.int .i64 h.sp) := hb3.cl rfl
    have k : Kn (decide (0 ≤ h.sp)) c1 := .of hc1.symm
    apply Ls.runK LO [1, 6] 4
    · repeat' (first | rfl | with_reducible assumption | assumption | constructor)
    intro w4 f4 s4 hf4
    replace hf4 : f4 = [(1, _), (6, _)] := hf4
    subst hf4
    exact Ls.nil (N.cut ⟨s4, rfl⟩ (sub_keys rfl))
  rintro w3 _ ⟨s3, rfl⟩
  obtain ⟨c2, hc2⟩ : ∃ b : Bool, b = decide (h.sp ≤ 65535) := ⟨_, rfl⟩
  refine Ls.meet 5 (fun w' g => Same w2 w' ∧ g = [(1, .pointer (some ⟨p, 0, none⟩)), (11, .bool (c1 && c2))]) ?_ ?_
  · cases c1 with
    | false =>
      apply Ls.runK LO [1, 11] 5
      · repeat' (first | rfl | with_reducible assumption | assumption | constructor)
      intro w4 f4 s4 hf4
      replace hf4 : f4 = [(1, _), (11, _)] := hf4
      subst hf4
      exact Ls.nil (N.cut ⟨s3.trans s4, rfl⟩ (sub_keys rfl))
    | true =>
      have hb3 := hb2.same s3
      have d : Cl w3 ⟨p, 0 + 0, none⟩ (.int .i64 h.sp) := hb3.cl rfl
      have k : Kn (decide (h.sp ≤ 65535)) c2 := .of hc2.symm
      apply Ls.runK LO [1, 11] 5
      · repeat' (first | rfl | with_reducible assumption | assumption | constructor)
      intro w4 f4 s4 hf4
      replace hf4 : f4 = [(1, _), (11, _)] := hf4
      subst hf4
      exact Ls.nil (N.cut ⟨s3.trans s4, rfl⟩ (sub_keys rfl))
  clear s3
  rintro w3 _ ⟨s3, rfl⟩
  obtain ⟨d2, hd2⟩ : ∃ b : Bool, b = (c1 && c2) := ⟨_, rfl⟩
  rw [← hd2]
  obtain ⟨c3, hc3⟩ : ∃ b : Bool, b = decide (0 ≤ h.dp) := ⟨_, rfl⟩
  refine Ls.meet 5 (fun w' g => Same w2 w' ∧ g = [(1, .pointer (some ⟨p, 0, none⟩)), (16, .bool (d2 && c3))]) ?_ ?_
  · cases d2 with
    | false =>
      apply Ls.runK LO [1, 16] 5
      · repeat' (first | rfl | with_reducible assumption | assumption | constructor)
      intro w4 f4 s4 hf4
      replace hf4 : f4 = [(1, _), (16, _)] := hf4
      subst hf4
      exact Ls.nil (N.cut ⟨s3.trans s4, rfl⟩ (sub_keys rfl))
    | true =>
      have hb3 := hb2.same s3
      have d : Cl w3 ⟨p, 0 + 1, none⟩ (.int .i64 h.dp) := hb3.cl rfl
      have k : Kn (decide (0 ≤ h.dp)) c3 := .of hc3.symm
      apply Ls.runK LO [1, 16] 5
      · repeat' (first | rfl | with_reducible assumption | assumption | constructor)
      intro w4 f4 s4 hf4
      replace hf4 : f4 = [(1, _), (16, _)] := hf4
      subst hf4
      exact Ls.nil (N.cut ⟨s3.trans s4, rfl⟩ (sub_keys rfl))
  clear s3
  rintro w3 _ ⟨s3, rfl⟩
  obtain ⟨d3, hd3⟩ : ∃ b : Bool, b = (d2 && c3) := ⟨_, rfl⟩
  rw [← hd3]
  obtain ⟨c4, hc4⟩ : ∃ b : Bool, b = decide (h.dp ≤ 65535) := ⟨_, rfl⟩
  refine Ls.meet 5 (fun w' g => Same w2 w' ∧ g = [(1, .pointer (some ⟨p, 0, none⟩)), (21, .bool (d3 && c4))]) ?_ ?_
  · cases d3 with
    | false =>
      apply Ls.runK LO [1, 21] 5
      · repeat' (first | rfl | with_reducible assumption | assumption | constructor)
      intro w4 f4 s4 hf4
      replace hf4 : f4 = [(1, _), (21, _)] := hf4
      subst hf4
      exact Ls.nil (N.cut ⟨s3.trans s4, rfl⟩ (sub_keys rfl))
    | true =>
      have hb3 := hb2.same s3
      have d : Cl w3 ⟨p, 0 + 1, none⟩ (.int .i64 h.dp) := hb3.cl rfl
      have k : Kn (decide (h.dp ≤ 65535)) c4 := .of hc4.symm
      apply Ls.runK LO [1, 21] 5
      · repeat' (first | rfl | with_reducible assumption | assumption | constructor)
      intro w4 f4 s4 hf4
      replace hf4 : f4 = [(1, _), (21, _)] := hf4
      subst hf4
      exact Ls.nil (N.cut ⟨s3.trans s4, rfl⟩ (sub_keys rfl))
  clear s3
  rintro w3 _ ⟨s3, rfl⟩
  obtain ⟨d4, hd4⟩ : ∃ b : Bool, b = (d3 && c4) := ⟨_, rfl⟩
  rw [← hd4]
  obtain ⟨c5, hc5⟩ : ∃ b : Bool, b = decide (0 ≤ h.win) := ⟨_, rfl⟩
  refine Ls.meet 5 (fun w' g => Same w2 w' ∧ g = [(1, .pointer (some ⟨p, 0, none⟩)), (26, .bool (d4 && c5))]) ?_ ?_
  · cases d4 with
    | false =>
      apply Ls.runK LO [1, 26] 5
      · repeat' (first | rfl | with_reducible assumption | assumption | constructor)
      intro w4 f4 s4 hf4
      replace hf4 : f4 = [(1, _), (26, _)] := hf4
      subst hf4
      exact Ls.nil (N.cut ⟨s3.trans s4, rfl⟩ (sub_keys rfl))
    | true =>
      have hb3 := hb2.same s3
      have d : Cl w3 ⟨p, 0 + 5, none⟩ (.int .i64 h.win) := hb3.cl rfl
      have k : Kn (decide (0 ≤ h.win)) c5 := .of hc5.symm
      apply Ls.runK LO [1, 26] 5
      · repeat' (first | rfl | with_reducible assumption | assumption | constructor)
      intro w4 f4 s4 hf4
      replace hf4 : f4 = [(1, _), (26, _)] := hf4
      subst hf4
      exact Ls.nil (N.cut ⟨s3.trans s4, rfl⟩ (sub_keys rfl))
  clear s3
  rintro w3 _ ⟨s3, rfl⟩
  obtain ⟨d5, hd5⟩ : ∃ b : Bool, b = (d4 && c5) := ⟨_, rfl⟩
  rw [← hd5]
  obtain ⟨c6, hc6⟩ : ∃ b : Bool, b = decide (h.win ≤ 65535) := ⟨_, rfl⟩
  refine Ls.meet 5 (fun w' g => Same w2 w' ∧ g = [(1, .pointer (some ⟨p, 0, none⟩)), (31, .bool (d5 && c6))]) ?_ ?_
  · cases d5 with
    | false =>
      apply Ls.runK LO [1, 31] 5
      · repeat' (first | rfl | with_reducible assumption | assumption | constructor)
      intro w4 f4 s4 hf4
      replace hf4 : f4 = [(1, _), (31, _)] := hf4
      subst hf4
      exact Ls.nil (N.cut ⟨s3.trans s4, rfl⟩ (sub_keys rfl))
    | true =>
      have hb3 := hb2.same s3
      have d : Cl w3 ⟨p, 0 + 5, none⟩ (.int .i64 h.win) := hb3.cl rfl
      have k : Kn (decide (h.win ≤ 65535)) c6 := .of hc6.symm
      apply Ls.runK LO [1, 31] 5
      · repeat' (first | rfl | with_reducible assumption | assumption | constructor)
      intro w4 f4 s4 hf4
      replace hf4 : f4 = [(1, _), (31, _)] := hf4
      subst hf4
      exact Ls.nil (N.cut ⟨s3.trans s4, rfl⟩ (sub_keys rfl))
  clear s3
  rintro w3 _ ⟨s3, rfl⟩
  obtain ⟨d6, hd6⟩ : ∃ b : Bool, b = (d5 && c6) := ⟨_, rfl⟩
  rw [← hd6]
  obtain ⟨c7, hc7⟩ : ∃ b : Bool, b = decide (0 ≤ h.flags) := ⟨_, rfl⟩
  refine Ls.meet 5 (fun w' g => Same w2 w' ∧ g = [(1, .pointer (some ⟨p, 0, none⟩)), (36, .bool (d6 && c7))]) ?_ ?_
  · cases d6 with
    | false =>
      apply Ls.runK LO [1, 36] 5
      · repeat' (first | rfl | with_reducible assumption | assumption | constructor)
      intro w4 f4 s4 hf4
      replace hf4 : f4 = [(1, _), (36, _)] := hf4
      subst hf4
      exact Ls.nil (N.cut ⟨s3.trans s4, rfl⟩ (sub_keys rfl))
    | true =>
      have hb3 := hb2.same s3
      have d : Cl w3 ⟨p, 0 + 4, none⟩ (.int .i64 h.flags) := hb3.cl rfl
      have k : Kn (decide (0 ≤ h.flags)) c7 := .of hc7.symm
      apply Ls.runK LO [1, 36] 5
      · repeat' (first | rfl | with_reducible assumption | assumption | constructor)
      intro w4 f4 s4 hf4
      replace hf4 : f4 = [(1, _), (36, _)] := hf4
      subst hf4
      exact Ls.nil (N.cut ⟨s3.trans s4, rfl⟩ (sub_keys rfl))
  clear s3
  rintro w3 _ ⟨s3, rfl⟩
  obtain ⟨d7, hd7⟩ : ∃ b : Bool, b = (d6 && c7) := ⟨_, rfl⟩
  rw [← hd7]
  obtain ⟨c8, hc8⟩ : ∃ b : Bool, b = decide (h.flags ≤ 63) := ⟨_, rfl⟩
  refine Ls.meet 5 (fun w' g => Same w2 w' ∧ g = [(1, .pointer (some ⟨p, 0, none⟩)), (41, .bool (d7 && c8))]) ?_ ?_
  · cases d7 with
    | false =>
      apply Ls.runK LO [1, 41] 5
      · repeat' (first | rfl | with_reducible assumption | assumption | constructor)
      intro w4 f4 s4 hf4
      replace hf4 : f4 = [(1, _), (41, _)] := hf4
      subst hf4
      exact Ls.nil (N.cut ⟨s3.trans s4, rfl⟩ (sub_keys rfl))
    | true =>
      have hb3 := hb2.same s3
      have d : Cl w3 ⟨p, 0 + 4, none⟩ (.int .i64 h.flags) := hb3.cl rfl
      have k : Kn (decide (h.flags ≤ 63)) c8 := .of hc8.symm
      apply Ls.runK LO [1, 41] 5
      · repeat' (first | rfl | with_reducible assumption | assumption | constructor)
      intro w4 f4 s4 hf4
      replace hf4 : f4 = [(1, _), (41, _)] := hf4
      subst hf4
      exact Ls.nil (N.cut ⟨s3.trans s4, rfl⟩ (sub_keys rfl))
  clear s3
  rintro w3 _ ⟨s3, rfl⟩
  obtain ⟨d8, hd8⟩ : ∃ b : Bool, b = (d7 && c8) := ⟨_, rfl⟩
  rw [← hd8]
  obtain ⟨c9, hc9⟩ : ∃ b : Bool, b = decide ((h.o.size : Int) ≤ 40) := ⟨_, rfl⟩
  refine Ls.meet 6 (fun w' g => Same w2 w' ∧ g = [(1, .pointer (some ⟨p, 0, none⟩)), (47, .bool (d8 && c9))]) ?_ ?_
  · cases d8 with
    | false =>
      apply Ls.runK LO [1, 47] 6
      · repeat' (first | rfl | with_reducible assumption | assumption | constructor)
      intro w4 f4 s4 hf4
      replace hf4 : f4 = [(1, _), (47, _)] := hf4
      subst hf4
      exact Ls.nil (N.cut ⟨s3.trans s4, rfl⟩ (sub_keys rfl))
    | true =>
      have hb3 := hb2.same s3
      have d : Cl w3 ⟨p, 0 + 6, none⟩ (.string h.o) := hb3.cl rfl
      have k : Kn (decide ((h.o.size : Int) ≤ 40)) c9 := .of hc9.symm
      apply Ls.runK LO [1, 47] 6
      · repeat' (first | rfl | with_reducible assumption | assumption | constructor)
      intro w4 f4 s4 hf4
      replace hf4 : f4 = [(1, _), (47, _)] := hf4
      subst hf4
      exact Ls.nil (N.cut ⟨s3.trans s4, rfl⟩ (sub_keys rfl))
  clear s3
  rintro w3 _ ⟨s3, rfl⟩
  obtain ⟨d9, hd9⟩ : ∃ b : Bool, b = (d8 && c9) := ⟨_, rfl⟩
  rw [← hd9]
  obtain ⟨c10, hc10⟩ : ∃ b : Bool, b = ((h.o.size : Int).tmod 4 == 0) := ⟨_, rfl⟩
  refine Ls.meet 7 (fun w' g => Same w2 w' ∧ g = [(2, .bool (d9 && c10))]) ?_ ?_
  · cases d9 with
    | false =>
      apply Ls.runK LO [2] 7
      · repeat' (first | rfl | with_reducible assumption | assumption | constructor)
      intro w4 f4 s4 hf4
      replace hf4 : f4 = [(2, _)] := hf4
      subst hf4
      exact Ls.nil (N.cut ⟨s3.trans s4, rfl⟩ (sub_keys rfl))
    | true =>
      have hb3 := hb2.same s3
      have d : Cl w3 ⟨p, 0 + 6, none⟩ (.string h.o) := hb3.cl rfl
      have n4 : (4 : Int) ≠ 0 := by decide
      have k : Kn ((h.o.size : Int).tmod 4 == 0) c10 := .of hc10.symm
      apply Ls.runK LO [2] 7
      · repeat' (first | rfl | with_reducible assumption | assumption | constructor)
      intro w4 f4 s4 hf4
      replace hf4 : f4 = [(2, _)] := hf4
      subst hf4
      exact Ls.nil (N.cut ⟨s3.trans s4, rfl⟩ (sub_keys rfl))
  clear s3
  rintro w3 _ ⟨s3, rfl⟩
  obtain ⟨d10, hd10⟩ : ∃ b : Bool, b = (d9 && c10) := ⟨_, rfl⟩
  rw [← hd10]
  refine Ls.nil (N.to ?_)
  have e : d10 = h.chk := by
    rw [hd10, hd9, hd8, hd7, hd6, hd5, hd4, hd3, hd2, hc1, hc2, hc3, hc4, hc5, hc6, hc7, hc8, hc9, hc10]
    unfold SegV.chk chkT
    rw [Bool.eq_iff_iff]
    simp only [Bool.and_eq_true, decide_eq_true_eq, beq_iff_eq]
    rw [Int.tmod_eq_emod_of_nonneg (show (0 : Int) ≤ (h.o.size : Int) by omega)]
    constructor
    · rintro ⟨⟨⟨⟨⟨⟨⟨⟨⟨a1, a2⟩, a3⟩, a4⟩, a5⟩, a6⟩, a7⟩, a8⟩, a9⟩, a10⟩
      omega
    · rintro ⟨b1, b2, b3, b4, b5, b6, b7, b8, b9, b10⟩
      omega
  rw [← e]
  exact W.ret (post LO (rs := [.tmp 2]) rfl (vs := [.bool d10]) (.tmp rfl .nil) ⟨rfl, m2.same s3⟩)
end Go.Proofs.Ytbidgeaigiijpaa
