/- What is proved: heads of segments: whether one may be, how long it is, what is summed ahead. Conditions: those that stand in each theorem. -/
import Derived.Test.YtbidgeaigiijpaaNetIp2
namespace Go.Proofs.Ytbidgeaigiijpaa
set_option linter.unusedVariables false
set_option linter.unusedSimpArgs false
set_option linter.unusedSectionVars false
open Go.RowKit Fw Nt
structure SegV where
  sp : Int
  dp : Int
  seq : Int
  ack : Int
  flags : Int
  win : Int
  o : ByteArray
def SegV.cs (h : SegV) : List Value := [.int .i64 h.sp, .int .i64 h.dp, .int .u32 h.seq, .int .u32 h.ack, .int .i64 h.flags, .int .i64 h.win, .string h.o]
/-- A head, and where it goes. -/
def SegV.hd (h : SegV) (a b : Int) : List Value := [.int .i64 h.sp, .int .i64 h.dp, .int .u32 h.seq, .int .u32 h.ack, .int .i64 h.flags, .int .i64 h.win, .string h.o, .int .u32 a, .int .u32 b]
structure SegV.Ok (h : SegV) : Prop where
  seq : 0 ≤ h.seq ∧ h.seq ≤ 4294967295
  ack : 0 ≤ h.ack ∧ h.ack ≤ 4294967295
  o : h.o.size ≤ 1000000000000000
def SegV.chk (h : SegV) : Bool := chkT h.sp h.dp h.flags h.win h.o
set_option maxRecDepth 100000 in
theorem tin_says (v m : Int) (w : World) : Calls Try.prog 40 #[.int .i64 v, .int .i64 m] w (Says w (.bool (inB v m))) := by
  refine calls_W (n := 12) (vs := [.int .i64 v, .int .i64 m]) Try.func40 rfl rfl rfl ?_
  apply W.readS LO mixed [0, 1] (by kernel_rfl)
  · repeat' (first | rfl | with_reducible assumption | assumption | constructor)
  intro w1 f1 s1 hf1
  replace hf1 : f1 = [(0, _), (1, _)] := hf1
  subst hf1
  by_cases h0 : 0 ≤ v
  · have k1 : Kn (decide (0 ≤ v)) true := .yes h0
    have k2 : Kn (decide (v ≤ m)) (decide (v ≤ m)) := .rfl
    have e : inB v m = decide (v ≤ m) := by unfold inB; rw [decide_eq_true h0, Bool.true_and]
    apply W.readS LO mixed [4] (by kernel_rfl)
    · repeat' (first | rfl | with_reducible assumption | assumption | constructor)
    intro w2 f2 s2 hf2
    replace hf2 : f2 = [(4, _)] := hf2
    subst hf2
    rw [e]
    exact W.ret (post LO (rs := [.tmp 4]) rfl (vs := [.bool (decide (v ≤ m))]) (.tmp rfl .nil) ⟨rfl, s1.trans s2⟩)
  · have k1 : Kn (decide (0 ≤ v)) false := .no h0
    have e : inB v m = false := by unfold inB; rw [decide_eq_false h0, Bool.false_and]
    apply W.readS LO mixed [4] (by kernel_rfl)
    · repeat' (first | rfl | with_reducible assumption | assumption | constructor)
    intro w2 f2 s2 hf2
    replace hf2 : f2 = [(4, _)] := hf2
    subst hf2
    rw [e]
    exact W.ret (post LO (rs := [.tmp 4]) rfl (vs := [.bool false]) (.tmp rfl .nil) ⟨rfl, s1.trans s2⟩)
set_option maxRecDepth 100000 in
set_option maxHeartbeats 4000000 in
theorem tcheck_walk (h : SegV) (w : World) : Calls Try.prog 19 #[.agg h.cs.toArray] w fun e w' => e = .returned (.bool h.chk) ∧ Mv (fun _ => False) w w' := by
  refine calls_W (n := 34) (vs := [.agg h.cs.toArray]) Try.func19 rfl rfl rfl ?_
  refine W.seq (W.list ?_)
  refine Ls.box rfl rfl rfl rfl rfl (vs := h.cs) rfl ?_
  have hb1 : BX (w.alloc (.cells h.cs.toArray 26)) w.heap.size 26 h.cs := heap_alloc_new w (.cells h.cs.toArray 26)
  have m1 : Mv (fun _ => False) w (w.alloc (.cells h.cs.toArray 26)) := (Mv.refl _ w).alloc _
  generalize w.alloc (.cells h.cs.toArray 26) = w1 at hb1 m1
  obtain ⟨p, hp⟩ : ∃ p, p = w.heap.size := ⟨_, rfl⟩
  rw [← hp] at hb1
  rw [← hp]
  apply Ls.runK LO [1] 1
  · repeat' (first | rfl | with_reducible assumption | assumption | constructor)
  intro w2 f2 s2 hf2
  replace hf2 : f2 = [(1, _)] := hf2
  subst hf2
  refine Ls.nil (N.to ?_)
  have m2 := m1.same s2
  have hb2 := hb1.same s2
  clear m1 hb1 s2
  refine W.seq (W.list ?_)
  obtain ⟨c1, hc1⟩ : ∃ b : Bool, b = inB h.sp 65535 := ⟨_, rfl⟩
  refine Ls.meet 4 (fun w' g => Same w2 w' ∧ g = [(1, .pointer (some ⟨p, 0, none⟩)), (6, .bool (c1))]) ?_ ?_
  · have hb3 := hb2.same (⟨rfl, rfl, rfl, rfl⟩ : Same w2 w2)
    have d : Cl w2 ⟨p, 0 + 0, none⟩ (.int .i64 h.sp) := hb3.cl rfl
    have q := quiet_of (w := w2) fun w' s' => tin_says h.sp 65535 w'
    rw [← hc1] at q
    apply Ls.runK LO [1, 6] 4
    · repeat' (first | rfl | with_reducible assumption | assumption | constructor)
    intro w4 f4 s4 hf4
    replace hf4 : f4 = [(1, _), (6, _)] := hf4
    subst hf4
    exact Ls.nil (N.cut ⟨s4, rfl⟩ (sub_keys rfl))
  rintro w3 _ ⟨s3, rfl⟩
  obtain ⟨c2, hc2⟩ : ∃ b : Bool, b = inB h.dp 65535 := ⟨_, rfl⟩
  refine Ls.meet 5 (fun w' g => Same w2 w' ∧ g = [(1, .pointer (some ⟨p, 0, none⟩)), (11, .bool (c1 && c2))]) ?_ ?_
  · cases c1 with
    | false =>
      apply Ls.runK LO [1, 11] 5
      · repeat' (first | rfl | with_reducible assumption | assumption | constructor)
      intro w4 f4 s4 hf4
      replace hf4 : f4 = [(1, _), (11, _)] := hf4
      subst hf4
      exact Ls.nil (N.cut ⟨s3.trans s4, rfl⟩ (sub_keys rfl))
    | true =>
      have hb3 := hb2.same s3
      have d : Cl w3 ⟨p, 0 + 1, none⟩ (.int .i64 h.dp) := hb3.cl rfl
      have q := quiet_of (w := w3) fun w' s' => tin_says h.dp 65535 w'
      rw [← hc2] at q
      apply Ls.runK LO [1, 11] 5
      · repeat' (first | rfl | with_reducible assumption | assumption | constructor)
      intro w4 f4 s4 hf4
      replace hf4 : f4 = [(1, _), (11, _)] := hf4
      subst hf4
      exact Ls.nil (N.cut ⟨s3.trans s4, rfl⟩ (sub_keys rfl))
  clear s3
  rintro w3 _ ⟨s3, rfl⟩
  obtain ⟨d2, hd2⟩ : ∃ b : Bool, b = (c1 && c2) := ⟨_, rfl⟩
  rw [← hd2]
  obtain ⟨c3, hc3⟩ : ∃ b : Bool, b = inB h.win 65535 := ⟨_, rfl⟩
  refine Ls.meet 5 (fun w' g => Same w2 w' ∧ g = [(1, .pointer (some ⟨p, 0, none⟩)), (16, .bool (d2 && c3))]) ?_ ?_
  · cases d2 with
    | false =>
      apply Ls.runK LO [1, 16] 5
      · repeat' (first | rfl | with_reducible assumption | assumption | constructor)
      intro w4 f4 s4 hf4
      replace hf4 : f4 = [(1, _), (16, _)] := hf4
      subst hf4
      exact Ls.nil (N.cut ⟨s3.trans s4, rfl⟩ (sub_keys rfl))
    | true =>
      have hb3 := hb2.same s3
      have d : Cl w3 ⟨p, 0 + 5, none⟩ (.int .i64 h.win) := hb3.cl rfl
      have q := quiet_of (w := w3) fun w' s' => tin_says h.win 65535 w'
      rw [← hc3] at q
      apply Ls.runK LO [1, 16] 5
      · repeat' (first | rfl | with_reducible assumption | assumption | constructor)
      intro w4 f4 s4 hf4
      replace hf4 : f4 = [(1, _), (16, _)] := hf4
      subst hf4
      exact Ls.nil (N.cut ⟨s3.trans s4, rfl⟩ (sub_keys rfl))
  clear s3
  rintro w3 _ ⟨s3, rfl⟩
  obtain ⟨d3, hd3⟩ : ∃ b : Bool, b = (d2 && c3) := ⟨_, rfl⟩
  rw [← hd3]
  obtain ⟨c4, hc4⟩ : ∃ b : Bool, b = inB h.flags 63 := ⟨_, rfl⟩
  refine Ls.meet 5 (fun w' g => Same w2 w' ∧ g = [(1, .pointer (some ⟨p, 0, none⟩)), (21, .bool (d3 && c4))]) ?_ ?_
  · cases d3 with
    | false =>
      apply Ls.runK LO [1, 21] 5
      · repeat' (first | rfl | with_reducible assumption | assumption | constructor)
      intro w4 f4 s4 hf4
      replace hf4 : f4 = [(1, _), (21, _)] := hf4
      subst hf4
      exact Ls.nil (N.cut ⟨s3.trans s4, rfl⟩ (sub_keys rfl))
    | true =>
      have hb3 := hb2.same s3
      have d : Cl w3 ⟨p, 0 + 4, none⟩ (.int .i64 h.flags) := hb3.cl rfl
      have q := quiet_of (w := w3) fun w' s' => tin_says h.flags 63 w'
      rw [← hc4] at q
      apply Ls.runK LO [1, 21] 5
      · repeat' (first | rfl | with_reducible assumption | assumption | constructor)
      intro w4 f4 s4 hf4
      replace hf4 : f4 = [(1, _), (21, _)] := hf4
      subst hf4
      exact Ls.nil (N.cut ⟨s3.trans s4, rfl⟩ (sub_keys rfl))
  clear s3
  rintro w3 _ ⟨s3, rfl⟩
  obtain ⟨d4, hd4⟩ : ∃ b : Bool, b = (d3 && c4) := ⟨_, rfl⟩
  rw [← hd4]
  obtain ⟨c5, hc5⟩ : ∃ b : Bool, b = decide ((h.o.size : Int) ≤ 40) := ⟨_, rfl⟩
  refine Ls.meet 6 (fun w' g => Same w2 w' ∧ g = [(1, .pointer (some ⟨p, 0, none⟩)), (27, .bool (d4 && c5))]) ?_ ?_
  · cases d4 with
    | false =>
      apply Ls.runK LO [1, 27] 6
      · repeat' (first | rfl | with_reducible assumption | assumption | constructor)
      intro w4 f4 s4 hf4
      replace hf4 : f4 = [(1, _), (27, _)] := hf4
      subst hf4
      exact Ls.nil (N.cut ⟨s3.trans s4, rfl⟩ (sub_keys rfl))
    | true =>
      have hb3 := hb2.same s3
      have d : Cl w3 ⟨p, 0 + 6, none⟩ (.string h.o) := hb3.cl rfl
      have k : Kn (decide ((h.o.size : Int) ≤ 40)) c5 := .of hc5.symm
      apply Ls.runK LO [1, 27] 6
      · repeat' (first | rfl | with_reducible assumption | assumption | constructor)
      intro w4 f4 s4 hf4
      replace hf4 : f4 = [(1, _), (27, _)] := hf4
      subst hf4
      exact Ls.nil (N.cut ⟨s3.trans s4, rfl⟩ (sub_keys rfl))
  clear s3
  rintro w3 _ ⟨s3, rfl⟩
  obtain ⟨d5, hd5⟩ : ∃ b : Bool, b = (d4 && c5) := ⟨_, rfl⟩
  rw [← hd5]
  obtain ⟨c6, hc6⟩ : ∃ b : Bool, b = ((h.o.size : Int).tmod 4 == 0) := ⟨_, rfl⟩
  refine Ls.meet 7 (fun w' g => Same w2 w' ∧ g = [(2, .bool (d5 && c6))]) ?_ ?_
  · cases d5 with
    | false =>
      apply Ls.runK LO [2] 7
      · repeat' (first | rfl | with_reducible assumption | assumption | constructor)
      intro w4 f4 s4 hf4
      replace hf4 : f4 = [(2, _)] := hf4
      subst hf4
      exact Ls.nil (N.cut ⟨s3.trans s4, rfl⟩ (sub_keys rfl))
    | true =>
      have hb3 := hb2.same s3
      have d : Cl w3 ⟨p, 0 + 6, none⟩ (.string h.o) := hb3.cl rfl
      have n4 : (4 : Int) ≠ 0 := by decide
      have k : Kn ((h.o.size : Int).tmod 4 == 0) c6 := .of hc6.symm
      apply Ls.runK LO [2] 7
      · repeat' (first | rfl | with_reducible assumption | assumption | constructor)
      intro w4 f4 s4 hf4
      replace hf4 : f4 = [(2, _)] := hf4
      subst hf4
      exact Ls.nil (N.cut ⟨s3.trans s4, rfl⟩ (sub_keys rfl))
  clear s3
  rintro w3 _ ⟨s3, rfl⟩
  obtain ⟨d6, hd6⟩ : ∃ b : Bool, b = (d5 && c6) := ⟨_, rfl⟩
  rw [← hd6]
  refine Ls.nil (N.to ?_)
  have e : d6 = h.chk := by
    rw [hd6, hd5, hd4, hd3, hd2, hc1, hc2, hc3, hc4, hc5, hc6]
    unfold SegV.chk inB chkT
    rw [Bool.eq_iff_iff]
    simp only [Bool.and_eq_true, decide_eq_true_eq, beq_iff_eq]
    rw [Int.tmod_eq_emod_of_nonneg (show (0 : Int) ≤ (h.o.size : Int) by omega)]
    constructor
    · rintro ⟨⟨⟨⟨⟨a1, a2⟩, a3⟩, a4⟩, a5⟩, a6⟩
      omega
    · rintro ⟨b1, b2, b3, b4, b5, b6, b7, b8, b9, b10⟩
      omega
  rw [← e]
  exact W.ret (post LO (rs := [.tmp 2]) rfl (vs := [.bool d6]) (.tmp rfl .nil) ⟨rfl, m2.same s3⟩)
set_option maxRecDepth 100000 in
set_option maxHeartbeats 4000000 in
theorem tsize_walk (h : SegV) (a b : Int) (w : World) (ho : h.o.size ≤ 1000000000000000) : Calls Try.prog 63 #[.agg (h.hd a b).toArray] w (fun e w' => e = .returned (.int .i64 ((20 + h.o.size : Nat) : Int)) ∧ Mv (fun _ => False) w w') := by
  refine calls_W (n := 8) (vs := [.agg (h.hd a b).toArray]) Try.func63 rfl rfl rfl ?_
  refine W.seq (W.list ?_)
  refine Ls.box rfl rfl rfl rfl rfl (vs := h.hd a b) rfl ?_
  have hb1 : BX (w.alloc (.cells (h.hd a b).toArray 73)) w.heap.size 73 (h.hd a b) := heap_alloc_new w (.cells (h.hd a b).toArray 73)
  have m1 : Mv (fun _ => False) w (w.alloc (.cells (h.hd a b).toArray 73)) := (Mv.refl _ w).alloc _
  generalize w.alloc (.cells (h.hd a b).toArray 73) = w1 at hb1 m1
  obtain ⟨p, hp⟩ : ∃ p, p = w.heap.size := ⟨_, rfl⟩
  rw [← hp] at hb1
  rw [← hp]
  apply Ls.runK LO [1] 1
  · repeat' (first | rfl | with_reducible assumption | assumption | constructor)
  intro w2 f2 s2 hf2
  replace hf2 : f2 = [(1, _)] := hf2
  subst hf2
  refine Ls.nil (N.to ?_)
  have m2 := m1.same s2
  have hb2 := hb1.same s2
  clear m1 hb1 s2
  have d : Cl w2 ⟨p, 0 + 0 + 6, none⟩ (.string h.o) := hb2.cl rfl
  have k : Kn (IntKind.i64.wrap (20 + (h.o.size : Int))) ((20 + h.o.size : Nat) : Int) := .of (by rw [show 20 + (h.o.size : Int) = ((20 + h.o.size : Nat) : Int) by omega]; exact IntWalk.i64_in _ (by omega))
  apply W.readS LO mixed [2] (by kernel_rfl)
  · repeat' (first | rfl | with_reducible assumption | assumption | constructor)
  intro w3 f3 s3 hf3
  replace hf3 : f3 = [(2, _)] := hf3
  subst hf3
  exact W.ret (post LO (rs := [.tmp 2]) rfl (vs := [.int .i64 ((20 + h.o.size : Nat) : Int)]) (.tmp rfl .nil) ⟨rfl, m2.same s3⟩)
set_option maxRecDepth 100000 in
set_option maxHeartbeats 4000000 in
theorem pseudo_walk (h : SegV) (a b : Int) (n : Int) (w : World) (ha : 0 ≤ a ∧ a ≤ 4294967295) (hb : 0 ≤ b ∧ b ≤ 4294967295) : Calls Try.prog 62 #[.agg (h.hd a b).toArray, .int .i64 n] w (fun e w' => e = .returned (.string (pseudoT a b 6 n)) ∧ Mv (fun _ => False) w w') := by
  refine calls_W (n := 20) (vs := [.agg (h.hd a b).toArray, .int .i64 n]) Try.func62 rfl rfl rfl ?_
  refine W.seq (W.list ?_)
  refine Ls.box rfl rfl rfl rfl rfl (vs := h.hd a b) rfl ?_
  have hb1 : BX (w.alloc (.cells (h.hd a b).toArray 73)) w.heap.size 73 (h.hd a b) := heap_alloc_new w (.cells (h.hd a b).toArray 73)
  have m1 : Mv (fun _ => False) w (w.alloc (.cells (h.hd a b).toArray 73)) := (Mv.refl _ w).alloc _
  generalize w.alloc (.cells (h.hd a b).toArray 73) = w1 at hb1 m1
  obtain ⟨p, hp⟩ : ∃ p, p = w.heap.size := ⟨_, rfl⟩
  rw [← hp] at hb1
  rw [← hp]
  apply Ls.runK LO [1, 2] 1
  · repeat' (first | rfl | with_reducible assumption | assumption | constructor)
  intro w2 f2 s2 hf2
  replace hf2 : f2 = [(1, _), (2, _)] := hf2
  subst hf2
  refine Ls.nil (N.to ?_)
  have m2 := m1.same s2
  have hb2 := hb1.same s2
  clear m1 hb1 s2
  have F1 : ∀ w', Mv (fun _ => False) w2 w' → Cl w' ⟨p, 0 + 7, none⟩ (.int .u32 a) := fun w' m => (hb2.moved m fun e => e).cl rfl
  have F2 : ∀ w', Mv (fun _ => False) w2 w' → Cl w' ⟨p, 0 + 8, none⟩ (.int .u32 b) := fun w' m => (hb2.moved m fun e => e).cl rfl
  have k1 : Kn (IntKind.i64.wrap a) a := i64k (by omega)
  have k2 : Kn (IntKind.i64.wrap b) b := i64k (by omega)
  refine W.seq (W.held mixed (fun w' => Mv (fun _ => False) w2 w') [] 16 rfl (fun w' s => (Mv.refl _ w2).same s) ?_)
  intro x0 s0
  have m0 : Mv (fun _ => False) w2 x0 := (Mv.refl _ w2).same s0
  apply H.takesK LO true [7, 11, 17] [0, 1, 2, 4, 5, 6, 12] (k := 9) rfl (by kernel_rfl)
  · repeat' (first | rfl | with_reducible assumption | assumption | (intro w' hw'; replace hw' := hw' rfl; have h0' := F1 w' hw'; have h1' := F2 w' hw') | constructor)
  intro g_ hg_
  replace hg_ : g_ = [(7, _), (11, _), (17, _)] := hg_
  subst hg_
  refine H.only (i := 3) rfl (by kernel_rfl) ?_
  refine Ls.call LO rfl rfl rfl rfl rfl (vs := [.int .i64 a, .int .i64 4]) rfl (big_walk a 4 x0 (by decide)) ?_
  rintro _ x1 ⟨rfl, n1⟩
  have n1 := m0.trans n1
  refine ⟨_, rfl, Ls.nil (N.goOn (fun _ => n1) ?_)⟩
  refine H.only (i := 7) rfl (by kernel_rfl) ?_
  refine Ls.call LO rfl rfl rfl rfl rfl (vs := [.int .i64 b, .int .i64 4]) rfl (big_walk b 4 x1 (by decide)) ?_
  rintro _ x2 ⟨rfl, n2⟩
  have n2 := n1.trans n2
  refine ⟨_, rfl, Ls.nil (N.goOn (fun _ => n2) ?_)⟩
  have c1 : (⟨#[0]⟩ : ByteArray).size ≤ 1 := by decide
  have z1 := sz2 (szb a 4) (szb b 4) (by decide)
  have y1 := szap (szb a 4) (szb b 4)
  have z2 := sz2 y1 c1 (by decide)
  have y2 := szap y1 c1
  apply H.takesK LO false [14, 17] [8, 9] (k := 5) rfl (by kernel_rfl)
  · repeat' (first | rfl | with_reducible assumption | assumption | (intro w' hw'; replace hw' := True.intro) | constructor)
  intro g_ hg_
  replace hg_ : g_ = [(14, _), (17, _)] := hg_
  subst hg_
  refine H.only (i := 10) rfl (by kernel_rfl) ?_
  refine Ls.call LO rfl rfl rfl rfl rfl (vs := [.int .i64 6, .int .i64 1]) rfl (big_walk 6 1 x2 (by decide)) ?_
  rintro _ x3 ⟨rfl, n3⟩
  have n3 := n2.trans n3
  refine ⟨_, rfl, Ls.nil (N.goOn (fun _ => n3) ?_)⟩
  have z3 := sz2 y2 (szb 6 1) (by decide)
  have y3 := szap y2 (szb 6 1)
  apply H.takesK LO false [16, 17] [11] (k := 3) rfl (by kernel_rfl)
  · repeat' (first | rfl | with_reducible assumption | assumption | (intro w' hw'; replace hw' := True.intro) | constructor)
  intro g_ hg_
  replace hg_ : g_ = [(16, _), (17, _)] := hg_
  subst hg_
  refine H.only (i := 13) rfl (by kernel_rfl) ?_
  refine Ls.call LO rfl rfl rfl rfl rfl (vs := [.int .i64 n, .int .i64 2]) rfl (big_walk n 2 x3 (by decide)) ?_
  rintro _ x4 ⟨rfl, n4'⟩
  have n4' := n3.trans n4'
  refine ⟨_, rfl, Ls.nil (N.goOn (fun _ => n4') ?_)⟩
  have z4 := sz2 y3 (szb n 2) (by decide)
  apply H.takesK LO false [4] [14, 15] (k := 0) rfl (by kernel_rfl)
  · repeat' (first | rfl | with_reducible assumption | assumption | (intro w' hw'; replace hw' := True.intro) | constructor)
  intro g_ hg_
  replace hg_ : g_ = [(4, _)] := hg_
  subst hg_
  refine H.done (by kernel_rfl) (N.to ?_)
  exact W.ret (post LO (rs := [.tmp 4]) rfl (vs := [.string (pseudoT a b 6 n)]) (.tmp rfl .nil) ⟨rfl, m2.trans n4'⟩)
end Go.Proofs.Ytbidgeaigiijpaa
