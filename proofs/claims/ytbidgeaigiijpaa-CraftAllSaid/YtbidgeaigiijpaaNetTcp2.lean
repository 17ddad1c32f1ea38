/- What is proved: what Put of segments makes. Conditions: those that stand in each theorem. -/
import Derived.Test.YtbidgeaigiijpaaNetTcp1
namespace Go.Proofs.Ytbidgeaigiijpaa
set_option linter.unusedVariables false
set_option linter.unusedSimpArgs false
set_option linter.unusedSectionVars false
open Go.RowKit Fw Nt
def SegV.put (h : SegV) (a b : Int) (body : ByteArray) : ByteArray × Int := putT a b h.sp h.dp h.seq h.ack h.flags h.win h.o body
theorem shl4 {x y : Int} (h : x * 16 = y) (hr : -9223372036854775808 ≤ y ∧ y ≤ 9223372036854775807) : Kn (IntKind.i64.wrap (x * 2 ^ (min (4 : Int).toNat IntKind.i64.bits))) y := .of (by
  rw [show (2 : Int) ^ (min (4 : Int).toNat IntKind.i64.bits) = 16 from rfl, h]; exact IntWalk.i64_in _ (by omega))
set_option maxRecDepth 100000 in
set_option maxHeartbeats 8000000 in
theorem tput_walk (h : SegV) (a b : Int) (body : ByteArray) (w : World) (ok : h.Ok) (ha : 0 ≤ a ∧ a ≤ 4294967295) (hb : 0 ≤ b ∧ b ≤ 4294967295) (hbody : body.size ≤ 1000000000000000) : Calls Try.prog 38 #[.int .u32 a, .int .u32 b, .agg h.cs.toArray, .string body] w fun e w' => e = .returned (.tuple #[.string (h.put a b body).1, .int .i64 (h.put a b body).2]) ∧ Mv (fun _ => False) w w' := by
  obtain ⟨iS, hiS, hzS, hsS, _⟩ := info_str
  have oko := ok.o
  refine calls_W (n := 85) (vs := [.int .u32 a, .int .u32 b, .agg h.cs.toArray, .string body]) Try.func38 rfl rfl rfl ?_
  refine W.seq (W.list ?_)
  refine Ls.box rfl rfl rfl rfl rfl (vs := h.cs) rfl ?_
  have hb1 : BX (w.alloc (.cells h.cs.toArray 26)) w.heap.size 26 h.cs := heap_alloc_new w (.cells h.cs.toArray 26)
  have m1 : Mv (fun _ => False) w (w.alloc (.cells h.cs.toArray 26)) := (Mv.refl _ w).alloc _
  generalize w.alloc (.cells h.cs.toArray 26) = w1 at hb1 m1
  obtain ⟨p, hp⟩ : ∃ p, p = w.heap.size := ⟨_, rfl⟩
  rw [← hp] at hb1
  rw [← hp]
  apply Ls.runK LO [0, 1, 3, 6] 2
  · repeat' (first | rfl | with_reducible assumption | assumption | constructor)
  intro w2 f2 s2 hf2
  replace hf2 : f2 = [(0, _), (1, _), (3, _), (6, _)] := hf2
  subst hf2
  refine Ls.nil (N.to ?_)
  have m2 := m1.same s2
  have hb2 := hb1.same s2
  clear m1 hb1 s2
  have fin : ∀ (r : ByteArray × Int) w' f, r = h.put a b body → Mv (fun _ => False) w w' → fget f 8 = some (.string r.1) → fget f 9 = some (.int .i64 r.2) → N 85 f w' (bodyPost Try.prog Try.f38 fun e w' => e = .returned (.tuple #[.string (h.put a b body).1, .int .i64 (h.put a b body).2]) ∧ Mv (fun _ => False) w w') .ret := fun r w' f e m h4 h5 => by
    rw [← e]
    exact post LO (rs := [.tmp 8, .tmp 9]) rfl (vs := [.string r.1, .int .i64 r.2]) (.tmp h4 (.tmp h5 .nil)) ⟨rfl, m⟩
  -- the head, and where it goes
  refine W.seq (W.list ?_)
  have hc2 : CellsAt w2 p 0 7 h.cs := hb2.cells
  apply Ls.runK LO [3, 6, 17] 4
  · repeat' (first | rfl | with_reducible assumption | assumption | constructor)
  intro w3 f3 s3 hf3
  replace hf3 : f3 = [(3, _), (6, _), (17, _)] := hf3
  subst hf3
  refine Ls.alloc LO rfl rfl rfl rfl (zs := (SegV.mk 0 0 0 0 0 0 ⟨#[]⟩).hd 0 0) rfl ?_
  have hq3 : BX (w3.alloc (.cells ((SegV.mk 0 0 0 0 0 0 ⟨#[]⟩).hd 0 0).toArray 73)) w3.heap.size 73 ((SegV.mk 0 0 0 0 0 0 ⟨#[]⟩).hd 0 0) := heap_alloc_new w3 (.cells ((SegV.mk 0 0 0 0 0 0 ⟨#[]⟩).hd 0 0).toArray 73)
  have m4 : Mv (fun _ => False) w3 (w3.alloc (.cells ((SegV.mk 0 0 0 0 0 0 ⟨#[]⟩).hd 0 0).toArray 73)) := (Mv.refl _ w3).alloc _
  generalize w3.alloc (.cells ((SegV.mk 0 0 0 0 0 0 ⟨#[]⟩).hd 0 0).toArray 73) = w4 at hq3 m4
  obtain ⟨q, hq⟩ : ∃ q, q = w3.heap.size := ⟨_, rfl⟩
  rw [← hq] at hq3
  rw [← hq]
  refine Ls.store LO rfl rfl rfl rfl rfl (vs := h.hd a b) rfl rfl rfl hq3 rfl ?_
  intro w5 hq5 m5 _
  have hq5 : BX w5 q 73 (h.hd a b) := hq5
  have hp3 := hb2.same s3
  have m5' : Mv (fun _ => False) w3 w5 := m4.cut m5 fun k hk e => by omega
  have hp5 := hp3.moved m5' fun e => e
  have m5'' : Mv (fun _ => False) w w5 := (m2.same s3).trans m5'
  refine Ls.nil (N.to ?_)
  clear m2 hb2 hc2 s3 hq3 m4 hq m5 hp3 m5'
  -- how long it is
  refine W.seq (W.list ?_)
  have hc5 : CellsAt w5 q 0 9 (h.hd a b) := hq5.cells
  apply Ls.runK LO [3, 6, 10, 18] 1
  · repeat' (first | rfl | with_reducible assumption | assumption | constructor)
  intro w6 f6 s6 hf6
  replace hf6 : f6 = [(3, _), (6, _), (10, _), (18, _)] := hf6
  subst hf6
  refine Ls.call LO rfl rfl rfl rfl rfl (vs := [.agg (h.hd a b).toArray]) rfl (tsize_walk h a b w6 oko) ?_
  rintro _ w7 ⟨rfl, m7⟩
  refine ⟨_, rfl, ?_⟩
  obtain ⟨N_, hN⟩ : ∃ N_ : Nat, N_ = 20 + h.o.size := ⟨_, rfl⟩
  rw [← hN]
  obtain ⟨M_, hM⟩ : ∃ M_ : Nat, M_ = 20 + h.o.size + body.size := ⟨_, rfl⟩
  have kM : Kn (IntKind.i64.wrap ((N_ : Int) + (body.size : Int))) (M_ : Int) := .of (by rw [show (N_ : Int) + (body.size : Int) = (M_ : Int) by omega]; exact IntWalk.i64_in _ (by omega))
  apply Ls.runK LO [3, 6, 10, 11] 4
  · repeat' (first | rfl | with_reducible assumption | assumption | constructor)
  intro w8 f8 s8 hf8
  replace hf8 : f8 = [(3, _), (6, _), (10, _), (11, _)] := hf8
  subst hf8
  refine Ls.nil (N.to ?_)
  have m8 := ((m5''.same s6).trans m7).same s8
  have hp8 := ((hp5.same s6).moved m7 fun e => e).same s8
  have hq8 := ((hq5.same s6).moved m7 fun e => e).same s8
  clear m5'' hp5 hq5 hc5 s6 m7 s8 kM
  refine W.cutS (fun w' g => (Mv (fun _ => False) w w' ∧ BX w' q 73 (h.hd a b) ∧ g = [(3, .string body), (10, .pointer (some ⟨q, 0, none⟩)), (11, .int .i64 M_)]) ∧ h.chk = true ∧ M_ ≤ 2000) ?_ ?_
  · refine W.block ?_
    refine W.seq (W.list ?_)
    have hc : CellsAt w8 p 0 7 h.cs := hp8.cells
    apply Ls.runK LO [3, 10, 11, 24] 1
    · repeat' (first | rfl | with_reducible assumption | assumption | constructor)
    intro w3 f3 s3 hf3
    replace hf3 : f3 = [(3, _), (10, _), (11, _), (24, _)] := hf3
    subst hf3
    refine Ls.call LO rfl rfl rfl rfl rfl (vs := [.agg h.cs.toArray]) rfl (tcheck_walk h w3) ?_
    rintro _ w4 ⟨rfl, m4⟩
    refine ⟨_, rfl, ?_⟩
    have hb4 := (hq8.same s3).moved m4 fun e => e
    have m4 := (m8.same s3).trans m4
    apply Ls.runK LO [3, 10, 11, 23] 2
    · repeat' (first | rfl | with_reducible assumption | assumption | constructor)
    intro w5 f5 s5 hf5
    replace hf5 : f5 = [(3, _), (10, _), (11, _), (23, _)] := hf5
    subst hf5
    refine Ls.nil (N.to ?_)
    have m5 := m4.same s5
    have hb5 := hb4.same s5
    cases hck : h.chk with
    | false =>
      have e : ((⟨#[]⟩ : ByteArray), (1 : Int)) = h.put a b body := by unfold SegV.put putT; unfold SegV.chk at hck; rw [hck]; rfl
      refine W.cond (b := true) rfl (fun _ => ?_) (fun h => by cases h)
      apply W.readS LO mixed [8, 9] (by kernel_rfl)
      · repeat' (first | rfl | with_reducible assumption | assumption | constructor)
      intro w6 f6 s6 hf6
      replace hf6 : f6 = [(8, _), (9, _)] := hf6
      subst hf6
      exact W.ret (N.inbR (N.thenR (fin _ _ _ e (m5.same s6) rfl rfl)))
    | true =>
      refine W.cond (b := false) rfl (fun h => by cases h) (fun _ => ?_)
      by_cases h2 : 2000 < M_
      · have k2 : Kn (decide (2000 < (M_ : Int))) true := .yes (by omega)
        have e : ((⟨#[]⟩ : ByteArray), (5 : Int)) = h.put a b body := by unfold SegV.put putT; unfold SegV.chk at hck; rw [hck, if_pos rfl, if_pos (by omega)]
        apply W.readS LO mixed [27] (by kernel_rfl)
        · repeat' (first | rfl | with_reducible assumption | assumption | constructor)
        intro w6 f6 s6 hf6
        replace hf6 : f6 = [(27, _)] := hf6
        subst hf6
        refine W.cond (b := true) rfl (fun _ => ?_) (fun h => by cases h)
        apply W.readS LO mixed [8, 9] (by kernel_rfl)
        · repeat' (first | rfl | with_reducible assumption | assumption | constructor)
        intro w7 f7 s7 hf7
        replace hf7 : f7 = [(8, _), (9, _)] := hf7
        subst hf7
        exact W.ret (N.inbR (N.thenR (fin _ _ _ e ((m5.same s6).same s7) rfl rfl)))
      · have k2 : Kn (decide (2000 < (M_ : Int))) false := .no (by omega)
        apply W.readS LO mixed [3, 10, 11, 27] (by kernel_rfl)
        · repeat' (first | rfl | with_reducible assumption | assumption | constructor)
        intro w6 f6 s6 hf6
        replace hf6 : f6 = [(3, _), (10, _), (11, _), (27, _)] := hf6
        subst hf6
        refine W.cond (b := false) rfl (fun h => by cases h) (fun _ => W.skip ?_)
        exact N.inb (N.cut ⟨⟨m5.same s6, hb5.same s6, rfl⟩, rfl, by omega⟩ (sub_keys rfl))
  clear m8 hp8 hq8
  rintro w4 _ ⟨⟨m4, hb4, rfl⟩, hck, hbs⟩
  have hck' := hck
  unfold SegV.chk at hck'
  obtain ⟨g1, g2, g3, g4, g5, g6, g7, g8, g9, g10⟩ := chkT_all hck'
  -- the front
  have F0 : ∀ w', Mv (fun _ => False) w4 w' → Cl w' ⟨q, 0 + 0 + 0, none⟩ (.int .i64 h.sp) := fun w' m => (hb4.moved m fun e => e).cl rfl
  have F1 : ∀ w', Mv (fun _ => False) w4 w' → Cl w' ⟨q, 0 + 0 + 1, none⟩ (.int .i64 h.dp) := fun w' m => (hb4.moved m fun e => e).cl rfl
  have F2 : ∀ w', Mv (fun _ => False) w4 w' → Cl w' ⟨q, 0 + 0 + 2, none⟩ (.int .u32 h.seq) := fun w' m => (hb4.moved m fun e => e).cl rfl
  have F3 : ∀ w', Mv (fun _ => False) w4 w' → Cl w' ⟨q, 0 + 0 + 3, none⟩ (.int .u32 h.ack) := fun w' m => (hb4.moved m fun e => e).cl rfl
  have F4 : ∀ w', Mv (fun _ => False) w4 w' → Cl w' ⟨q, 0 + 0 + 4, none⟩ (.int .i64 h.flags) := fun w' m => (hb4.moved m fun e => e).cl rfl
  have F5 : ∀ w', Mv (fun _ => False) w4 w' → Cl w' ⟨q, 0 + 0 + 5, none⟩ (.int .i64 h.win) := fun w' m => (hb4.moved m fun e => e).cl rfl
  have FA : ∀ w', Mv (fun _ => False) w4 w' → CellsAt w' q 0 9 (h.hd a b) := fun w' m => (hb4.moved m fun e => e).cells
  have n4 : (4 : Int) ≠ 0 := by decide
  have p4 : (0 : Int) ≤ 4 := by decide
  obtain ⟨v4, hv4⟩ : ∃ v4 : Int, v4 = (((20 + h.o.size) / 4 * 16 : Nat) : Int) := ⟨_, rfl⟩
  have ks : Kn (IntKind.i64.wrap h.seq) h.seq := i64k (by have := ok.seq; omega)
  have kk : Kn (IntKind.i64.wrap h.ack) h.ack := i64k (by have := ok.ack; omega)
  have k1 : Kn (IntKind.i64.wrap (((20 + h.o.size : Nat) : Int).tdiv 4)) ((N_ / 4 : Nat) : Int) := .of (by rw [Int.tdiv_eq_ediv_of_nonneg (by omega), show ((20 + h.o.size : Nat) : Int) / 4 = ((N_ / 4 : Nat) : Int) by omega]; exact IntWalk.i64_in _ (by omega))
  have k2 : Kn (IntKind.i64.wrap (((N_ / 4 : Nat) : Int) * 2 ^ (min (4 : Int).toNat IntKind.i64.bits))) v4 := shl4 (by rw [hv4, hN]; omega) (by omega)
  refine W.seq (W.held mixed (fun w' => Mv (fun _ => False) w4 w') [] 38 rfl (fun w' s => (Mv.refl _ w4).same s) ?_)
  intro x0 s0
  have m0 : Mv (fun _ => False) w4 x0 := (Mv.refl _ w4).same s0
  apply H.takesK LO true [3, 10, 11, 32, 36, 42, 48, 51, 59, 64] [0, 1, 2, 4, 5, 6, 9, 10, 11, 12, 15, 16, 17, 18, 21, 27, 28, 29, 32, 33, 34] (k := 17) rfl (by kernel_rfl)
  · repeat' (first | rfl | with_reducible assumption | assumption | (intro w' hw'; replace hw' := hw' rfl; have h0' := F0 w' hw'; have h1' := F1 w' hw'; have h2' := F2 w' hw'; have h3' := F3 w' hw'; have h4' := F4 w' hw'; have h5' := F5 w' hw'; have h6' := FA w' hw') | constructor)
  intro g_ hg_
  replace hg_ : g_ = [(3, _), (10, _), (11, _), (32, _), (36, _), (42, _), (48, _), (51, _), (59, _), (64, _)] := hg_
  subst hg_
  refine H.only (i := 3) rfl (by kernel_rfl) ?_
  refine Ls.call LO rfl rfl rfl rfl rfl (vs := [.int .i64 h.sp, .int .i64 2]) rfl (big_walk h.sp 2 x0 (by decide)) ?_
  rintro _ x1 ⟨rfl, n1⟩
  have n1 := m0.trans n1
  refine ⟨_, rfl, Ls.nil (N.goOn (fun _ => n1) ?_)⟩
  refine H.only (i := 7) rfl (by kernel_rfl) ?_
  refine Ls.call LO rfl rfl rfl rfl rfl (vs := [.int .i64 h.dp, .int .i64 2]) rfl (big_walk h.dp 2 x1 (by decide)) ?_
  rintro _ x2 ⟨rfl, n2⟩
  have n2 := n1.trans n2
  refine ⟨_, rfl, Ls.nil (N.goOn (fun _ => n2) ?_)⟩
  have z1 := sz2 (szb h.sp 2) (szb h.dp 2) (by decide)
  have y1 := szap (szb h.sp 2) (szb h.dp 2)
  apply H.takesK LO false [3, 10, 11, 38, 42, 48, 51, 59, 64] [8] (k := 14) rfl (by kernel_rfl)
  · repeat' (first | rfl | with_reducible assumption | assumption | (intro w' hw'; replace hw' := True.intro) | constructor)
  intro g_ hg_
  replace hg_ : g_ = [(3, _), (10, _), (11, _), (38, _), (42, _), (48, _), (51, _), (59, _), (64, _)] := hg_
  subst hg_
  refine H.only (i := 13) rfl (by kernel_rfl) ?_
  refine Ls.call LO rfl rfl rfl rfl rfl (vs := [.int .i64 h.seq, .int .i64 4]) rfl (big_walk h.seq 4 x2 (by decide)) ?_
  rintro _ x3 ⟨rfl, n3⟩
  have n3 := n2.trans n3
  refine ⟨_, rfl, Ls.nil (N.goOn (fun _ => n3) ?_)⟩
  have z2 := sz2 y1 (szb h.seq 4) (by decide)
  have y2 := szap y1 (szb h.seq 4)
  apply H.takesK LO false [3, 10, 11, 44, 48, 51, 59, 64] [14] (k := 12) rfl (by kernel_rfl)
  · repeat' (first | rfl | with_reducible assumption | assumption | (intro w' hw'; replace hw' := True.intro) | constructor)
  intro g_ hg_
  replace hg_ : g_ = [(3, _), (10, _), (11, _), (44, _), (48, _), (51, _), (59, _), (64, _)] := hg_
  subst hg_
  refine H.only (i := 19) rfl (by kernel_rfl) ?_
  refine Ls.call LO rfl rfl rfl rfl rfl (vs := [.int .i64 h.ack, .int .i64 4]) rfl (big_walk h.ack 4 x3 (by decide)) ?_
  rintro _ x4 ⟨rfl, n4'⟩
  have n4' := n3.trans n4'
  refine ⟨_, rfl, Ls.nil (N.goOn (fun _ => n4') ?_)⟩
  have z3 := sz2 y2 (szb h.ack 4) (by decide)
  have y3 := szap y2 (szb h.ack 4)
  apply H.takesK LO false [3, 10, 11, 50, 51, 59, 64] [20] (k := 10) rfl (by kernel_rfl)
  · repeat' (first | rfl | with_reducible assumption | assumption | (intro w' hw'; replace hw' := True.intro) | constructor)
  intro g_ hg_
  replace hg_ : g_ = [(3, _), (10, _), (11, _), (50, _), (51, _), (59, _), (64, _)] := hg_
  subst hg_
  refine H.only (i := 22) rfl (by kernel_rfl) ?_
  refine Ls.call LO rfl rfl rfl rfl rfl (vs := [.agg (h.hd a b).toArray]) rfl (tsize_walk h a b x4 oko) ?_
  rintro _ x5 ⟨rfl, n5⟩
  have n5 := n4'.trans n5
  refine ⟨_, rfl, Ls.nil (N.goOn (fun _ => n5) ?_)⟩
  apply H.takesK LO false [3, 10, 11, 50, 54, 59, 64] [23, 24] (k := 7) rfl (by kernel_rfl)
  · repeat' (first | rfl | with_reducible assumption | assumption | (intro w' hw'; replace hw' := True.intro) | constructor)
  intro g_ hg_
  replace hg_ : g_ = [(3, _), (10, _), (11, _), (50, _), (54, _), (59, _), (64, _)] := hg_
  subst hg_
  refine H.only (i := 25) rfl (by kernel_rfl) ?_
  refine Ls.call LO rfl rfl rfl rfl rfl (vs := [.int .i64 v4, .int .i64 1]) rfl (big_walk v4 1 x5 (by decide)) ?_
  rintro _ x6 ⟨rfl, n6⟩
  have n6 := n5.trans n6
  refine ⟨_, rfl, Ls.nil (N.goOn (fun _ => n6) ?_)⟩
  have z4 := sz2 y3 (szb v4 1) (by decide)
  have y4 := szap y3 (szb v4 1)
  apply H.takesK LO false [3, 10, 11, 56, 59, 64] [26] (k := 5) rfl (by kernel_rfl)
  · repeat' (first | rfl | with_reducible assumption | assumption | (intro w' hw'; replace hw' := True.intro) | constructor)
  intro g_ hg_
  replace hg_ : g_ = [(3, _), (10, _), (11, _), (56, _), (59, _), (64, _)] := hg_
  subst hg_
  refine H.only (i := 30) rfl (by kernel_rfl) ?_
  refine Ls.call LO rfl rfl rfl rfl rfl (vs := [.int .i64 h.flags, .int .i64 1]) rfl (big_walk h.flags 1 x6 (by decide)) ?_
  rintro _ x7 ⟨rfl, n7⟩
  have n7 := n6.trans n7
  refine ⟨_, rfl, Ls.nil (N.goOn (fun _ => n7) ?_)⟩
  have z5 := sz2 y4 (szb h.flags 1) (by decide)
  have y5 := szap y4 (szb h.flags 1)
  apply H.takesK LO false [3, 10, 11, 61, 64] [31] (k := 3) rfl (by kernel_rfl)
  · repeat' (first | rfl | with_reducible assumption | assumption | (intro w' hw'; replace hw' := True.intro) | constructor)
  intro g_ hg_
  replace hg_ : g_ = [(3, _), (10, _), (11, _), (61, _), (64, _)] := hg_
  subst hg_
  refine H.only (i := 35) rfl (by kernel_rfl) ?_
  refine Ls.call LO rfl rfl rfl rfl rfl (vs := [.int .i64 h.win, .int .i64 2]) rfl (big_walk h.win 2 x7 (by decide)) ?_
  rintro _ x8 ⟨rfl, n8⟩
  have n8 := n7.trans n8
  refine ⟨_, rfl, Ls.nil (N.goOn (fun _ => n8) ?_)⟩
  have z6 := sz2 y5 (szb h.win 2) (by decide)
  apply H.takesK LO false [3, 10, 11, 12] [36, 37] (k := 0) rfl (by kernel_rfl)
  · repeat' (first | rfl | with_reducible assumption | assumption | (intro w' hw'; replace hw' := True.intro) | constructor)
  intro g_ hg_
  replace hg_ : g_ = [(3, _), (10, _), (11, _), (12, _)] := hg_
  subst hg_
  have y6 := szap y5 (szb h.win 2)
  refine H.done (by kernel_rfl) (N.to ?_)
  have hfr : bigS h.sp 2 ++ bigS h.dp 2 ++ bigS h.seq 4 ++ bigS h.ack 4 ++ bigS v4 1 ++ bigS h.flags 1 ++ bigS h.win 2 = frontT h.sp h.dp h.seq h.ack h.flags h.win h.o.size := by rw [hv4]; rfl
  rw [hfr] at y6
  rw [hfr]
  have m5 := m4.trans n8
  have hb5 := hb4.moved n8 fun e => e
  clear F0 F1 F2 F3 F4 F5 FA ks kk k1 k2 m0 n1 n2 n3 n4' n5 n6 n7 n8 s0 z1 z2 z3 z4 z5 z6 y1 y2 y3 y4 y5 hv4 m4 hb4 hfr
  -- the back
  have d6 : Cl x8 ⟨q, 0 + 0 + 6, none⟩ (.string h.o) := hb5.cl rfl
  have c2 : (⟨#[0, 0]⟩ : ByteArray).size ≤ 2 := by decide
  have z1 := sz2 c2 g9 (by decide)
  have y1 := szap c2 g9
  have hbo : body.size ≤ 2000 := by omega
  have z2 := sz2 y1 hbo (by decide)
  have y2 := szap y1 hbo
  apply W.readS LO mixed [10, 11, 12, 13] (by kernel_rfl)
  · repeat' (first | rfl | with_reducible assumption | assumption | constructor)
  intro u0 e0 r0 he0
  replace he0 : e0 = [(10, _), (11, _), (12, _), (13, _)] := he0
  subst he0
  have m6 := m5.same r0
  have hb6 := hb5.same r0
  clear d6 z1 y1 z2 m5 hb5
  -- all of it
  obtain ⟨A, hA⟩ : ∃ A, A = frontT h.sp h.dp h.seq h.ack h.flags h.win h.o.size := ⟨_, rfl⟩
  obtain ⟨B, hB⟩ : ∃ B, B = (⟨#[0, 0]⟩ : ByteArray) ++ h.o ++ body := ⟨_, rfl⟩
  rw [← hA] at y6
  rw [← hB] at y2
  rw [← hA, ← hB]
  refine W.seq (W.list ?_)
  have hc6 : CellsAt u0 q 0 9 (h.hd a b) := hb6.cells
  apply Ls.runK LO [12, 13, 73, 74, 75] 3
  · repeat' (first | rfl | with_reducible assumption | assumption | constructor)
  intro u1 e1 r1 he1
  replace he1 : e1 = [(12, _), (13, _), (73, _), (74, _), (75, _)] := he1
  subst he1
  refine Ls.call LO rfl rfl rfl rfl rfl (vs := [.agg (h.hd a b).toArray, .int .i64 M_]) rfl (pseudo_walk h a b M_ u1 ha hb) ?_
  rintro _ u2 ⟨rfl, l2⟩
  refine ⟨_, rfl, ?_⟩
  obtain ⟨P, hP⟩ : ∃ P, P = pseudoT a b 6 (M_ : Int) := ⟨_, rfl⟩
  have hPs : P.size ≤ 12 := by rw [hP, pseudoT_size]; exact Nat.le_refl _
  rw [← hP]
  apply Ls.runK LO [12, 13, 73, 76, 77, 78] 2
  · repeat' (first | rfl | with_reducible assumption | assumption | constructor)
  intro u3 e3 r3 he3
  replace he3 : e3 = [(12, _), (13, _), (73, _), (76, _), (77, _), (78, _)] := he3
  subst he3
  refine Ls.buildZ [(.string P, [.string P]), (.string A, [.string A]), (.string ⟨#[0, 0]⟩, [.string ⟨#[0, 0]⟩]), (.string B, [.string B])] rfl rfl rfl rfl und_strs hiS hzS hsS rfl rfl rfl rfl rfl rfl (fun p hp => by
    simp only [List.mem_cons, List.not_mem_nil, or_false] at hp
    rcases hp with rfl | rfl | rfl | rfl <;> exact ⟨rfl, rfl⟩) ?_
  have hx4 := heap_alloc_new u3 (.cells [Value.string P, .string A, .string ⟨#[0, 0]⟩, .string B].toArray 9)
  have l4 : Mv (fun _ => False) u3 (u3.alloc (.cells [Value.string P, .string A, .string ⟨#[0, 0]⟩, .string B].toArray 9)) := (Mv.refl _ u3).alloc _
  show Ls Try.prog 85 _ _ _ (u3.alloc (.cells [Value.string P, .string A, .string ⟨#[0, 0]⟩, .string B].toArray 9)) _
  generalize u3.alloc (.cells [Value.string P, .string A, .string ⟨#[0, 0]⟩, .string B].toArray 9) = u4 at hx4 l4
  have hst : StrsAt u4 (.slice (some ⟨u3.heap.size, 0, none⟩) 4 4) [P, A, ⟨#[0, 0]⟩, B] := Rd.new hx4 rfl
  have m7 := (((m6.same r1).trans l2).same r3).trans l4
  have hcl : cat [P, A, ⟨#[0, 0]⟩, B] = P.data.toList ++ (A.data.toList ++ (z2.data.toList ++ B.data.toList)) := cat_sum P A z2 B
  refine Ls.call LO rfl rfl rfl rfl rfl (vs := [.slice (some ⟨u3.heap.size, 0, none⟩) 4 4]) rfl (of_says _ [P, A, ⟨#[0, 0]⟩, B] u4 hst (show 4 ≤ 1000000 by decide) (by rw [hcl]; simp only [List.length_append, list_len, z2_size]; omega)) ?_
  rintro _ u5 ⟨rfl, r5⟩
  refine ⟨_, rfl, ?_⟩
  rw [hcl]
  obtain ⟨S_, hS⟩ : ∃ S_, S_ = sumOf (P.data.toList ++ (A.data.toList ++ (z2.data.toList ++ B.data.toList))) := ⟨_, rfl⟩
  rw [← hS]
  refine Ls.call LO rfl rfl rfl rfl rfl (vs := [.int .i64 S_, .int .i64 2]) rfl (big_walk S_ 2 u5 (by decide)) ?_
  rintro _ u6 ⟨rfl, l6⟩
  refine ⟨_, rfl, ?_⟩
  have m8 := (m7.same r5).trans l6
  have z1 := sz2 y6 (szb S_ 2) (by decide)
  have z2' := sz2 (szap y6 (szb S_ 2)) y2 (by decide)
  apply Ls.runK LO [8, 9] 5
  · repeat' (first | rfl | with_reducible assumption | assumption | constructor)
  intro u7 e7 r7 he7
  replace he7 : e7 = [(8, _), (9, _)] := he7
  subst he7
  refine Ls.nil (N.to (W.ret (fin (A ++ bigS S_ 2 ++ B, 0) _ _ ?_ (m8.same r7) rfl rfl)))
  unfold SegV.put putT
  rw [if_pos hck', if_neg (by omega), hS, hA, hB, hP, hM]
  rfl
end Go.Proofs.Ytbidgeaigiijpaa
