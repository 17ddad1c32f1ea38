/- What is proved: heads of datagrams: whether one may be, how it is cut, how long it is. Conditions: those that stand in each theorem. -/
import Derived.Test.YtbidgeaigiijpaaNetEth
namespace Go.Proofs.Ytbidgeaigiijpaa
set_option linter.unusedVariables false
set_option linter.unusedSimpArgs false
set_option linter.unusedSectionVars false
open Go.RowKit Fw Nt
theorem u8k {x : Int} (h : 0 ≤ x ∧ x ≤ 255) : Kn (IntKind.u8.wrap x) x := .of (by rw [IntKind.wrap_u8]; omega)
theorem bnek {a b : Int} : Kn (a != b) (decide (a ≠ b)) := .of (by by_cases h : a = b <;> simp [h])
theorem beqk {a b : Int} : Kn (a == b) (decide (a = b)) := .of (by by_cases h : a = b <;> simp [h])
structure IpV where
  tos : Int
  id : Int
  more : Bool
  keep : Bool
  off : Int
  ttl : Int
  proto : Int
  src : Int
  dst : Int
  o : ByteArray
def IpV.cs (h : IpV) : List Value := [.int .i64 h.tos, .int .i64 h.id, .bool h.more, .bool h.keep, .int .i64 h.off, .int .i64 h.ttl, .int .i64 h.proto, .int .u32 h.src, .int .u32 h.dst, .string h.o]
/-- Its numbers are those of their types. -/
structure IpV.Ok (h : IpV) : Prop where
  src : 0 ≤ h.src ∧ h.src ≤ 4294967295
  dst : 0 ≤ h.dst ∧ h.dst ≤ 4294967295
  o : h.o.size ≤ 1000000000000000
def inB (v m : Int) : Bool := decide (0 ≤ v) && decide (v ≤ m)
def IpV.chk (h : IpV) : Bool := chkI h.tos h.id h.off h.ttl h.proto h.o
set_option maxRecDepth 100000 in
theorem in_says (v m : Int) (w : World) : Calls Try.prog 39 #[.int .i64 v, .int .i64 m] w (Says w (.bool (inB v m))) := by
  refine calls_W (n := 12) (vs := [.int .i64 v, .int .i64 m]) Try.func39 rfl rfl rfl ?_
  apply W.readS LO mixed [0, 1] (by kernel_rfl)
  · repeat' (first | rfl | with_reducible assumption | assumption | constructor)
  intro w1 f1 s1 hf1
  replace hf1 : f1 = [(0, _), (1, _)] := hf1
  subst hf1
  by_cases h0 : 0 ≤ v
  · have k1 : Kn (decide (0 ≤ v)) true := .yes h0
    have k2 : Kn (decide (v ≤ m)) (decide (v ≤ m)) := .rfl
    have e : inB v m = decide (v ≤ m) := by unfold inB; rw [decide_eq_true h0, Bool.true_and]
    apply W.readS LO mixed [4] (by kernel_rfl)
    · repeat' (first | rfl | with_reducible assumption | assumption | constructor)
    intro w2 f2 s2 hf2
    replace hf2 : f2 = [(4, _)] := hf2
    subst hf2
    rw [e]
    exact W.ret (post LO (rs := [.tmp 4]) rfl (vs := [.bool (decide (v ≤ m))]) (.tmp rfl .nil) ⟨rfl, s1.trans s2⟩)
  · have k1 : Kn (decide (0 ≤ v)) false := .no h0
    have e : inB v m = false := by unfold inB; rw [decide_eq_false h0, Bool.false_and]
    apply W.readS LO mixed [4] (by kernel_rfl)
    · repeat' (first | rfl | with_reducible assumption | assumption | constructor)
    intro w2 f2 s2 hf2
    replace hf2 : f2 = [(4, _)] := hf2
    subst hf2
    rw [e]
    exact W.ret (post LO (rs := [.tmp 4]) rfl (vs := [.bool false]) (.tmp rfl .nil) ⟨rfl, s1.trans s2⟩)
set_option maxRecDepth 100000 in
set_option maxHeartbeats 4000000 in
theorem icheck_walk (h : IpV) (w : World) : Calls Try.prog 18 #[.agg h.cs.toArray] w fun e w' => e = .returned (.bool h.chk) ∧ Mv (fun _ => False) w w' := by
  refine calls_W (n := 45) (vs := [.agg h.cs.toArray]) Try.func18 rfl rfl rfl ?_
  refine W.seq (W.list ?_)
  refine Ls.box rfl rfl rfl rfl rfl (vs := h.cs) rfl ?_
  have hb1 : BX (w.alloc (.cells h.cs.toArray 28)) w.heap.size 28 h.cs := heap_alloc_new w (.cells h.cs.toArray 28)
  have m1 : Mv (fun _ => False) w (w.alloc (.cells h.cs.toArray 28)) := (Mv.refl _ w).alloc _
  generalize w.alloc (.cells h.cs.toArray 28) = w1 at hb1 m1
  obtain ⟨p, hp⟩ : ∃ p, p = w.heap.size := ⟨_, rfl⟩
  rw [← hp] at hb1
  rw [← hp]
  apply Ls.runK LO [1] 1
  · repeat' (first | rfl | with_reducible assumption | assumption | constructor)
  intro w2 f2 s2 hf2
  replace hf2 : f2 = [(1, _)] := hf2
  subst hf2
  refine Ls.nil (N.to ?_)
  have m2 := m1.same s2
  have hb2 := hb1.same s2
  clear m1 hb1 s2
  refine W.seq (W.list ?_)
  obtain ⟨c1, hc1⟩ : ∃ b : Bool, b = inB h.tos 255 := ⟨_, rfl⟩
  refine Ls.meet 4 (fun w' g => Same w2 w' ∧ g = [(1, .pointer (some ⟨p, 0, none⟩)), (6, .bool (c1))]) ?_ ?_
  · have hb3 := hb2.same (⟨rfl, rfl, rfl, rfl⟩ : Same w2 w2)
    have d : Cl w2 ⟨p, 0 + 0, none⟩ (.int .i64 h.tos) := hb3.cl rfl
    have q := quiet_of (w := w2) fun w' s' => in_says h.tos 255 w'
    rw [← hc1] at q
    apply Ls.runK LO [1, 6] 4
    · repeat' (first | rfl | with_reducible assumption | assumption | constructor)
    intro w4 f4 s4 hf4
    replace hf4 : f4 = [(1, _), (6, _)] := hf4
    subst hf4
    exact Ls.nil (N.cut ⟨s4, rfl⟩ (sub_keys rfl))
  rintro w3 _ ⟨s3, rfl⟩
  obtain ⟨c2, hc2⟩ : ∃ b : Bool, b = inB h.ttl 255 := ⟨_, rfl⟩
  refine Ls.meet 5 (fun w' g => Same w2 w' ∧ g = [(1, .pointer (some ⟨p, 0, none⟩)), (11, .bool (c1 && c2))]) ?_ ?_
  · cases c1 with
    | false =>
      apply Ls.runK LO [1, 11] 5
      · repeat' (first | rfl | with_reducible assumption | assumption | constructor)
      intro w4 f4 s4 hf4
      replace hf4 : f4 = [(1, _), (11, _)] := hf4
      subst hf4
      exact Ls.nil (N.cut ⟨s3.trans s4, rfl⟩ (sub_keys rfl))
    | true =>
      have hb3 := hb2.same s3
      have d : Cl w3 ⟨p, 0 + 5, none⟩ (.int .i64 h.ttl) := hb3.cl rfl
      have q := quiet_of (w := w3) fun w' s' => in_says h.ttl 255 w'
      rw [← hc2] at q
      apply Ls.runK LO [1, 11] 5
      · repeat' (first | rfl | with_reducible assumption | assumption | constructor)
      intro w4 f4 s4 hf4
      replace hf4 : f4 = [(1, _), (11, _)] := hf4
      subst hf4
      exact Ls.nil (N.cut ⟨s3.trans s4, rfl⟩ (sub_keys rfl))
  clear s3
  rintro w3 _ ⟨s3, rfl⟩
  obtain ⟨d2, hd2⟩ : ∃ b : Bool, b = (c1 && c2) := ⟨_, rfl⟩
  rw [← hd2]
  obtain ⟨c3, hc3⟩ : ∃ b : Bool, b = inB h.proto 255 := ⟨_, rfl⟩
  refine Ls.meet 5 (fun w' g => Same w2 w' ∧ g = [(1, .pointer (some ⟨p, 0, none⟩)), (16, .bool (d2 && c3))]) ?_ ?_
  · cases d2 with
    | false =>
      apply Ls.runK LO [1, 16] 5
      · repeat' (first | rfl | with_reducible assumption | assumption | constructor)
      intro w4 f4 s4 hf4
      replace hf4 : f4 = [(1, _), (16, _)] := hf4
      subst hf4
      exact Ls.nil (N.cut ⟨s3.trans s4, rfl⟩ (sub_keys rfl))
    | true =>
      have hb3 := hb2.same s3
      have d : Cl w3 ⟨p, 0 + 6, none⟩ (.int .i64 h.proto) := hb3.cl rfl
      have q := quiet_of (w := w3) fun w' s' => in_says h.proto 255 w'
      rw [← hc3] at q
      apply Ls.runK LO [1, 16] 5
      · repeat' (first | rfl | with_reducible assumption | assumption | constructor)
      intro w4 f4 s4 hf4
      replace hf4 : f4 = [(1, _), (16, _)] := hf4
      subst hf4
      exact Ls.nil (N.cut ⟨s3.trans s4, rfl⟩ (sub_keys rfl))
  clear s3
  rintro w3 _ ⟨s3, rfl⟩
  obtain ⟨d3, hd3⟩ : ∃ b : Bool, b = (d2 && c3) := ⟨_, rfl⟩
  rw [← hd3]
  obtain ⟨c4, hc4⟩ : ∃ b : Bool, b = inB h.id 65535 := ⟨_, rfl⟩
  refine Ls.meet 5 (fun w' g => Same w2 w' ∧ g = [(1, .pointer (some ⟨p, 0, none⟩)), (21, .bool (d3 && c4))]) ?_ ?_
  · cases d3 with
    | false =>
      apply Ls.runK LO [1, 21] 5
      · repeat' (first | rfl | with_reducible assumption | assumption | constructor)
      intro w4 f4 s4 hf4
      replace hf4 : f4 = [(1, _), (21, _)] := hf4
      subst hf4
      exact Ls.nil (N.cut ⟨s3.trans s4, rfl⟩ (sub_keys rfl))
    | true =>
      have hb3 := hb2.same s3
      have d : Cl w3 ⟨p, 0 + 1, none⟩ (.int .i64 h.id) := hb3.cl rfl
      have q := quiet_of (w := w3) fun w' s' => in_says h.id 65535 w'
      rw [← hc4] at q
      apply Ls.runK LO [1, 21] 5
      · repeat' (first | rfl | with_reducible assumption | assumption | constructor)
      intro w4 f4 s4 hf4
      replace hf4 : f4 = [(1, _), (21, _)] := hf4
      subst hf4
      exact Ls.nil (N.cut ⟨s3.trans s4, rfl⟩ (sub_keys rfl))
  clear s3
  rintro w3 _ ⟨s3, rfl⟩
  obtain ⟨d4, hd4⟩ : ∃ b : Bool, b = (d3 && c4) := ⟨_, rfl⟩
  rw [← hd4]
  obtain ⟨c5, hc5⟩ : ∃ b : Bool, b = inB h.off 65528 := ⟨_, rfl⟩
  refine Ls.meet 5 (fun w' g => Same w2 w' ∧ g = [(1, .pointer (some ⟨p, 0, none⟩)), (26, .bool (d4 && c5))]) ?_ ?_
  · cases d4 with
    | false =>
      apply Ls.runK LO [1, 26] 5
      · repeat' (first | rfl | with_reducible assumption | assumption | constructor)
      intro w4 f4 s4 hf4
      replace hf4 : f4 = [(1, _), (26, _)] := hf4
      subst hf4
      exact Ls.nil (N.cut ⟨s3.trans s4, rfl⟩ (sub_keys rfl))
    | true =>
      have hb3 := hb2.same s3
      have d : Cl w3 ⟨p, 0 + 4, none⟩ (.int .i64 h.off) := hb3.cl rfl
      have q := quiet_of (w := w3) fun w' s' => in_says h.off 65528 w'
      rw [← hc5] at q
      apply Ls.runK LO [1, 26] 5
      · repeat' (first | rfl | with_reducible assumption | assumption | constructor)
      intro w4 f4 s4 hf4
      replace hf4 : f4 = [(1, _), (26, _)] := hf4
      subst hf4
      exact Ls.nil (N.cut ⟨s3.trans s4, rfl⟩ (sub_keys rfl))
  clear s3
  rintro w3 _ ⟨s3, rfl⟩
  obtain ⟨d5, hd5⟩ : ∃ b : Bool, b = (d4 && c5) := ⟨_, rfl⟩
  rw [← hd5]
  obtain ⟨c6, hc6⟩ : ∃ b : Bool, b = (h.off.tmod 8 == 0) := ⟨_, rfl⟩
  refine Ls.meet 6 (fun w' g => Same w2 w' ∧ g = [(1, .pointer (some ⟨p, 0, none⟩)), (32, .bool (d5 && c6))]) ?_ ?_
  · cases d5 with
    | false =>
      apply Ls.runK LO [1, 32] 6
      · repeat' (first | rfl | with_reducible assumption | assumption | constructor)
      intro w4 f4 s4 hf4
      replace hf4 : f4 = [(1, _), (32, _)] := hf4
      subst hf4
      exact Ls.nil (N.cut ⟨s3.trans s4, rfl⟩ (sub_keys rfl))
    | true =>
      have hb3 := hb2.same s3
      have d : Cl w3 ⟨p, 0 + 4, none⟩ (.int .i64 h.off) := hb3.cl rfl
      have n8 : (8 : Int) ≠ 0 := by decide
      have k : Kn (h.off.tmod 8 == 0) c6 := .of hc6.symm
      apply Ls.runK LO [1, 32] 6
      · repeat' (first | rfl | with_reducible assumption | assumption | constructor)
      intro w4 f4 s4 hf4
      replace hf4 : f4 = [(1, _), (32, _)] := hf4
      subst hf4
      exact Ls.nil (N.cut ⟨s3.trans s4, rfl⟩ (sub_keys rfl))
  clear s3
  rintro w3 _ ⟨s3, rfl⟩
  obtain ⟨d6, hd6⟩ : ∃ b : Bool, b = (d5 && c6) := ⟨_, rfl⟩
  rw [← hd6]
  obtain ⟨c7, hc7⟩ : ∃ b : Bool, b = decide ((h.o.size : Int) ≤ 40) := ⟨_, rfl⟩
  refine Ls.meet 6 (fun w' g => Same w2 w' ∧ g = [(1, .pointer (some ⟨p, 0, none⟩)), (38, .bool (d6 && c7))]) ?_ ?_
  · cases d6 with
    | false =>
      apply Ls.runK LO [1, 38] 6
      · repeat' (first | rfl | with_reducible assumption | assumption | constructor)
      intro w4 f4 s4 hf4
      replace hf4 : f4 = [(1, _), (38, _)] := hf4
      subst hf4
      exact Ls.nil (N.cut ⟨s3.trans s4, rfl⟩ (sub_keys rfl))
    | true =>
      have hb3 := hb2.same s3
      have d : Cl w3 ⟨p, 0 + 9, none⟩ (.string h.o) := hb3.cl rfl
      have k : Kn (decide ((h.o.size : Int) ≤ 40)) c7 := .of hc7.symm
      apply Ls.runK LO [1, 38] 6
      · repeat' (first | rfl | with_reducible assumption | assumption | constructor)
      intro w4 f4 s4 hf4
      replace hf4 : f4 = [(1, _), (38, _)] := hf4
      subst hf4
      exact Ls.nil (N.cut ⟨s3.trans s4, rfl⟩ (sub_keys rfl))
  clear s3
  rintro w3 _ ⟨s3, rfl⟩
  obtain ⟨d7, hd7⟩ : ∃ b : Bool, b = (d6 && c7) := ⟨_, rfl⟩
  rw [← hd7]
  obtain ⟨c8, hc8⟩ : ∃ b : Bool, b = ((h.o.size : Int).tmod 4 == 0) := ⟨_, rfl⟩
  refine Ls.meet 7 (fun w' g => Same w2 w' ∧ g = [(2, .bool (d7 && c8))]) ?_ ?_
  · cases d7 with
    | false =>
      apply Ls.runK LO [2] 7
      · repeat' (first | rfl | with_reducible assumption | assumption | constructor)
      intro w4 f4 s4 hf4
      replace hf4 : f4 = [(2, _)] := hf4
      subst hf4
      exact Ls.nil (N.cut ⟨s3.trans s4, rfl⟩ (sub_keys rfl))
    | true =>
      have hb3 := hb2.same s3
      have d : Cl w3 ⟨p, 0 + 9, none⟩ (.string h.o) := hb3.cl rfl
      have n4 : (4 : Int) ≠ 0 := by decide
      have k : Kn ((h.o.size : Int).tmod 4 == 0) c8 := .of hc8.symm
      apply Ls.runK LO [2] 7
      · repeat' (first | rfl | with_reducible assumption | assumption | constructor)
      intro w4 f4 s4 hf4
      replace hf4 : f4 = [(2, _)] := hf4
      subst hf4
      exact Ls.nil (N.cut ⟨s3.trans s4, rfl⟩ (sub_keys rfl))
  clear s3
  rintro w3 _ ⟨s3, rfl⟩
  obtain ⟨d8, hd8⟩ : ∃ b : Bool, b = (d7 && c8) := ⟨_, rfl⟩
  rw [← hd8]
  refine Ls.nil (N.to ?_)
  have e : d8 = h.chk := by
    rw [hd8, hd7, hd6, hd5, hd4, hd3, hd2, hc1, hc2, hc3, hc4, hc5, hc6, hc7, hc8]
    unfold IpV.chk inB chkI
    rw [Bool.eq_iff_iff]
    simp only [Bool.and_eq_true, decide_eq_true_eq, beq_iff_eq]
    rw [Int.tmod_eq_emod_of_nonneg (show (0 : Int) ≤ (h.o.size : Int) by omega)]
    constructor
    · rintro ⟨⟨⟨⟨⟨⟨⟨a1, a2⟩, a3⟩, a4⟩, a5⟩, a6⟩, a7⟩, a8⟩
      rw [Int.tmod_eq_emod_of_nonneg a5.1] at a6
      omega
    · rintro ⟨b1, b2, b3, b4, b5, b6, b7, b8, b9, b10, b11, b12, b13⟩
      rw [Int.tmod_eq_emod_of_nonneg b9]
      omega
  rw [← e]
  exact W.ret (post LO (rs := [.tmp 2]) rfl (vs := [.bool d8]) (.tmp rfl .nil) ⟨rfl, m2.same s3⟩)
set_option maxRecDepth 100000 in
set_option maxHeartbeats 4000000 in
theorem cutting_walk (h : IpV) (w : World) (h0 : 0 ≤ h.off) (h1 : h.off ≤ 65528) : Calls Try.prog 53 #[.agg h.cs.toArray] w fun e w' => e = .returned (.int .i64 (cutI h.more h.keep h.off)) ∧ Mv (fun _ => False) w w' := by
  refine calls_W (n := 16) (vs := [.agg h.cs.toArray]) Try.func53 rfl rfl rfl ?_
  refine W.seq (W.list ?_)
  refine Ls.box rfl rfl rfl rfl rfl (vs := h.cs) rfl ?_
  have hb1 : BX (w.alloc (.cells h.cs.toArray 28)) w.heap.size 28 h.cs := heap_alloc_new w (.cells h.cs.toArray 28)
  have m1 : Mv (fun _ => False) w (w.alloc (.cells h.cs.toArray 28)) := (Mv.refl _ w).alloc _
  generalize w.alloc (.cells h.cs.toArray 28) = w1 at hb1 m1
  obtain ⟨p, hp⟩ : ∃ p, p = w.heap.size := ⟨_, rfl⟩
  rw [← hp] at hb1
  rw [← hp]
  apply Ls.runK LO [1] 1
  · repeat' (first | rfl | with_reducible assumption | assumption | constructor)
  intro w2 f2 s2 hf2
  replace hf2 : f2 = [(1, _)] := hf2
  subst hf2
  refine Ls.nil (N.to ?_)
  have m2 := m1.same s2
  have hb2 := hb1.same s2
  clear m1 hb1 s2
  have n8 : (8 : Int) ≠ 0 := by decide
  have d1 : Cl w2 ⟨p, 0 + 4, none⟩ (.int .i64 h.off) := hb2.cl rfl
  obtain ⟨x, hx⟩ : ∃ x, x = h.off / 8 := ⟨_, rfl⟩
  have hx0 : 0 ≤ x := by omega
  have hx1 : x ≤ 8191 := by omega
  have k1 : Kn (IntKind.i64.wrap (h.off.tdiv 8)) x := .of (by rw [Int.tdiv_eq_ediv_of_nonneg h0, ← hx]; exact IntWalk.i64_in _ (by omega))
  apply W.readS LO mixed [1, 3] (by kernel_rfl)
  · repeat' (first | rfl | with_reducible assumption | assumption | constructor)
  intro w3 f3 s3 hf3
  replace hf3 : f3 = [(1, _), (3, _)] := hf3
  subst hf3
  have hb3 := hb2.same s3
  have m3 := m2.same s3
  clear m2 hb2 s3 d1 k1
  obtain ⟨a, ha⟩ : ∃ a, a = x + (if h.keep = true then 16384 else 0) := ⟨_, rfl⟩
  refine W.cutS (fun w' g => Same w3 w' ∧ g = [(1, .pointer (some ⟨p, 0, none⟩)), (3, .int .i64 a)]) ?_ ?_
  · have d1 : Cl w3 ⟨p, 0 + 3, none⟩ (.bool h.keep) := hb3.cl rfl
    cases hk : h.keep with
    | true =>
      rw [hk] at d1
      apply W.readS LO mixed [1, 3, 8] (by kernel_rfl)
      · repeat' (first | rfl | with_reducible assumption | assumption | constructor)
      intro w4 f4 s4 hf4
      replace hf4 : f4 = [(1, _), (3, _), (8, _)] := hf4
      subst hf4
      refine W.cond (b := true) rfl (fun _ => ?_) (fun h => by cases h)
      have k2 : Kn (bits .or .i64 x 16384) a := .of (by rw [cut_16384 x hx0 hx1, ha, hk]; rfl)
      apply W.readN LO mixed [1, 3] (by kernel_rfl)
      · repeat' (first | rfl | with_reducible assumption | assumption | constructor)
      intro w5 f5 s5 hf5
      replace hf5 : f5 = [(1, _), (3, _)] := hf5
      subst hf5
      exact N.cut ⟨s4.trans s5, rfl⟩ (sub_keys rfl)
    | false =>
      rw [hk] at d1
      apply W.readS LO mixed [1, 3, 8] (by kernel_rfl)
      · repeat' (first | rfl | with_reducible assumption | assumption | constructor)
      intro w4 f4 s4 hf4
      replace hf4 : f4 = [(1, _), (3, _), (8, _)] := hf4
      subst hf4
      refine W.cond (b := false) rfl (fun h => by cases h) (fun _ => W.skip ?_)
      have e : a = x := by rw [ha, hk]; simp
      rw [e]
      exact N.cut ⟨s4, rfl⟩ (sub_keys rfl)
  rintro w4 _ ⟨s4, rfl⟩
  have hb4 := hb3.same s4
  have m4 := m3.same s4
  have hcut : cutI h.more h.keep h.off = a + (if h.more = true then 8192 else 0) := by unfold cutI; rw [ha, ← hx]
  refine W.cutS (fun w' g => Same w4 w' ∧ g = [(3, .int .i64 (cutI h.more h.keep h.off))]) ?_ ?_
  · have d1 : Cl w4 ⟨p, 0 + 2, none⟩ (.bool h.more) := hb4.cl rfl
    cases hm : h.more with
    | true =>
      rw [hm] at d1 hcut
      apply W.readS LO mixed [3, 12] (by kernel_rfl)
      · repeat' (first | rfl | with_reducible assumption | assumption | constructor)
      intro w5 f5 s5 hf5
      replace hf5 : f5 = [(3, _), (12, _)] := hf5
      subst hf5
      refine W.cond (b := true) rfl (fun _ => ?_) (fun h => by cases h)
      have k2 : Kn (bits .or .i64 a 8192) (cutI true h.keep h.off) := .of (by
        rw [hcut, if_pos rfl, ha]
        cases h.keep with
        | true => rw [if_pos rfl, cut_both x hx0 hx1]
        | false => rw [if_neg (by decide), Int.add_zero, cut_8192 x hx0 hx1])
      apply W.readN LO mixed [3] (by kernel_rfl)
      · repeat' (first | rfl | with_reducible assumption | assumption | constructor)
      intro w6 f6 s6 hf6
      replace hf6 : f6 = [(3, _)] := hf6
      subst hf6
      exact N.cut ⟨s5.trans s6, rfl⟩ (sub_keys rfl)
    | false =>
      rw [hm] at d1 hcut
      apply W.readS LO mixed [3, 12] (by kernel_rfl)
      · repeat' (first | rfl | with_reducible assumption | assumption | constructor)
      intro w5 f5 s5 hf5
      replace hf5 : f5 = [(3, _), (12, _)] := hf5
      subst hf5
      refine W.cond (b := false) rfl (fun h => by cases h) (fun _ => W.skip ?_)
      rw [hcut, if_neg (by decide), Int.add_zero]
      exact N.cut ⟨s5, rfl⟩ (sub_keys rfl)
  rintro w5 _ ⟨s5, rfl⟩
  apply W.readS LO mixed [2] (by kernel_rfl)
  · repeat' (first | rfl | with_reducible assumption | assumption | constructor)
  intro w6 f6 s6 hf6
  replace hf6 : f6 = [(2, _)] := hf6
  subst hf6
  exact W.ret (post LO (rs := [.tmp 2]) rfl (vs := [.int .i64 (cutI h.more h.keep h.off)]) (.tmp rfl .nil) ⟨rfl, (m4.same s5).same s6⟩)
theorem and15 {x : Int} (h0 : 0 ≤ x) (h1 : x ≤ 255) : bits .and .i64 x 15 = x % 16 := bits_mask .i64 63 (by decide) wraps64 4 (by decide) x h0 (by omega)
set_option maxRecDepth 100000 in
theorem size_says (s : ByteArray) (w : World) (h : 0 < s.size) : Calls Try.prog 35 #[.string s] w (Says w (.int .i64 (lenI s))) := by
  refine calls_W (n := 8) (vs := [.string s]) Try.func35 rfl rfl rfl ?_
  apply W.readS LO mixed [0] (by kernel_rfl)
  · repeat' (first | rfl | with_reducible assumption | assumption | constructor)
  intro w1 f1 s1 hf1
  replace hf1 : f1 = [(0, _)] := hf1
  subst hf1
  have hb := bt_range s 0
  have i0 : (0 : Int) ≤ 0 := by decide
  have i1 : (0 : Int) < (s.size : Int) := by omega
  have k1 : Kn (IntKind.i64.wrap (bt s 0)) (bt s 0) := i64k (by omega)
  have k2 : Kn (bits .and .i64 (bt s 0) 15) (bt s 0 % 16) := .of (and15 hb.1 hb.2)
  have k3 : Kn (IntKind.i64.wrap (4 * (bt s 0 % 16))) ((lenI s : Nat) : Int) := .of (by rw [lenI_int]; exact IntWalk.i64_in _ (by omega))
  apply W.readS LO mixed [2] (by kernel_rfl)
  · repeat' (first | rfl | with_reducible assumption | assumption | constructor)
  intro w2 f2 s2 hf2
  replace hf2 : f2 = [(2, _)] := hf2
  subst hf2
  exact W.ret (post LO (rs := [.tmp 2]) rfl (vs := [.int .i64 (lenI s)]) (.tmp rfl .nil) ⟨rfl, s1.trans s2⟩)
set_option maxRecDepth 100000 in
theorem all_walk (s : ByteArray) (w : World) (h : 4 ≤ s.size) : Calls Try.prog 36 #[.string s] w fun e w' => e = .returned (.int .i64 (allI s)) ∧ Mv (fun _ => False) w w' := by
  refine calls_W (n := 6) (vs := [.string s]) Try.func36 rfl rfl rfl ?_
  apply W.readS LO mixed [0] (by kernel_rfl)
  · repeat' (first | rfl | with_reducible assumption | assumption | constructor)
  intro w1 f1 s1 hf1
  replace hf1 : f1 = [(0, _)] := hf1
  subst hf1
  refine W.seq (W.list ?_)
  have b0 : (0 : Int) ≤ 2 := by decide
  have b1 : (2 : Int) ≤ 4 := by decide
  have b2 : (4 : Int) ≤ (s.size : Int) := by omega
  apply Ls.runK LO [4] 2
  · repeat' (first | rfl | with_reducible assumption | assumption | constructor)
  intro w2 f2 s2 hf2
  replace hf2 : f2 = [(4, _)] := hf2
  subst hf2
  refine Ls.call LO rfl rfl rfl rfl rfl (vs := [.string (s.extract 2 4)]) rfl (num_walk (s.extract 2 4) w2 (by simp; omega)) ?_
  rintro _ w3 ⟨rfl, m3⟩
  refine ⟨_, rfl, ?_⟩
  apply Ls.runK LO [2] 1
  · repeat' (first | rfl | with_reducible assumption | assumption | constructor)
  intro w4 f4 s4 hf4
  replace hf4 : f4 = [(2, _)] := hf4
  subst hf4
  exact Ls.nil (N.to (W.ret (post LO (rs := [.tmp 2]) rfl (vs := [.int .i64 (allI s)]) (.tmp rfl .nil) ⟨rfl, ((((Mv.refl _ w).same s1).same s2).trans m3).same s4⟩)))
end Go.Proofs.Ytbidgeaigiijpaa
