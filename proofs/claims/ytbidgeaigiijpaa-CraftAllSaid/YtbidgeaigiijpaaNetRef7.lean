/- What is proved: what the reference's Put of segments makes. Conditions: those that stand in each theorem. -/
import Derived.Test.YtbidgeaigiijpaaNetRef6
namespace Go.Proofs.Ytbidgeaigiijpaa
set_option linter.unusedVariables false
set_option linter.unusedSimpArgs false
set_option linter.unusedSectionVars false
open Go.RowKit Fw Nt
theorem six_two : (bigS 6 2).data.toList = z1.data.toList ++ (bigS 6 1).data.toList := by decide +kernel
theorem pseudo_list (a b n : Int) (s : ByteArray) : (bigS a 4 ++ bigS b 4 ++ bigS 6 2 ++ bigS n 2 ++ s).data.toList = (pseudoT a b 6 n).data.toList ++ s.data.toList := by
  simp only [pseudoT, app_list, six_two, List.append_assoc]
set_option maxRecDepth 100000 in
set_option maxHeartbeats 4000000 in
theorem rsum4_walk (a b : Int) (s : ByteArray) (w : World) (ha : 0 ≤ a ∧ a ≤ 4294967295) (hb : 0 ≤ b ∧ b ≤ 4294967295) (hs : s.size ≤ 100000) : Calls Try.prog 68 #[.int .u32 a, .int .u32 b, .int .i64 6, .string s] w fun e w' => e = .returned (.int .i64 (sumOf ((pseudoT a b 6 (s.size : Int)).data.toList ++ s.data.toList))) ∧ Mv (fun _ => False) w w' := by
  refine calls_W (n := 26) (vs := [.int .u32 a, .int .u32 b, .int .i64 6, .string s]) Try.func68 rfl rfl rfl ?_
  have ka : Kn (IntKind.i64.wrap a) a := i64k (by omega)
  have kb : Kn (IntKind.i64.wrap b) b := i64k (by omega)
  apply W.readS LO mixed [0, 1, 2, 3] (by kernel_rfl)
  · repeat' (first | rfl | with_reducible assumption | assumption | constructor)
  intro w1 f1 s1 hf1
  replace hf1 : f1 = [(0, _), (1, _), (2, _), (3, _)] := hf1
  subst hf1
  refine W.seq (W.list ?_)
  apply Ls.runK LO [1, 2, 3, 10] 2
  · repeat' (first | rfl | with_reducible assumption | assumption | constructor)
  intro w2 f2 s2 hf2
  replace hf2 : f2 = [(1, _), (2, _), (3, _), (10, _)] := hf2
  subst hf2
  refine Ls.call LO rfl rfl rfl rfl rfl (vs := [.int .i64 a, .int .i64 4]) rfl (rbig_walk a 4 w2 (by decide)) ?_
  rintro _ w3 ⟨rfl, m3⟩
  refine ⟨_, rfl, ?_⟩
  apply Ls.runK LO [2, 3, 11, 13] 2
  · repeat' (first | rfl | with_reducible assumption | assumption | constructor)
  intro w4 f4 s4 hf4
  replace hf4 : f4 = [(2, _), (3, _), (11, _), (13, _)] := hf4
  subst hf4
  refine Ls.call LO rfl rfl rfl rfl rfl (vs := [.int .i64 b, .int .i64 4]) rfl (rbig_walk b 4 w4 (by decide)) ?_
  rintro _ w5 ⟨rfl, m5⟩
  refine ⟨_, rfl, ?_⟩
  have y1 := szap (szb a 4) (szb b 4)
  have y2 := szap y1 (szb 6 2)
  have y3 := szap y2 (szb (s.size : Int) 2)
  have y4 := szap y3 hs
  have z1 := sz2 (szb a 4) (szb b 4) (by decide)
  have z2 := sz2 y1 (szb 6 2) (by decide)
  have z3 := sz2 y2 (szb (s.size : Int) 2) (by decide)
  have z4 := sz2 y3 hs (by decide)
  apply Ls.runK LO [3, 15, 16] 2
  · repeat' (first | rfl | with_reducible assumption | assumption | constructor)
  intro w6 f6 s6 hf6
  replace hf6 : f6 = [(3, _), (15, _), (16, _)] := hf6
  subst hf6
  refine Ls.call LO rfl rfl rfl rfl rfl (vs := [.int .i64 6, .int .i64 2]) rfl (rbig_walk 6 2 w6 (by decide)) ?_
  rintro _ w7 ⟨rfl, m7⟩
  refine ⟨_, rfl, ?_⟩
  apply Ls.runK LO [3, 18, 20] 3
  · repeat' (first | rfl | with_reducible assumption | assumption | constructor)
  intro w8 f8 s8 hf8
  replace hf8 : f8 = [(3, _), (18, _), (20, _)] := hf8
  subst hf8
  refine Ls.call LO rfl rfl rfl rfl rfl (vs := [.int .i64 (s.size : Int), .int .i64 2]) rfl (rbig_walk (s.size : Int) 2 w8 (by decide)) ?_
  rintro _ w9 ⟨rfl, m9⟩
  refine ⟨_, rfl, ?_⟩
  apply Ls.runK LO [24] 3
  · repeat' (first | rfl | with_reducible assumption | assumption | constructor)
  intro w10 f10 s10 hf10
  replace hf10 : f10 = [(24, _)] := hf10
  subst hf10
  have hcl := pseudo_list a b (s.size : Int) s
  obtain ⟨X, hX⟩ : ∃ X, X = bigS a 4 ++ bigS b 4 ++ bigS 6 2 ++ bigS (s.size : Int) 2 ++ s := ⟨_, rfl⟩
  rw [← hX] at y4 hcl
  rw [← hX]
  refine Ls.call LO rfl rfl rfl rfl rfl (vs := [.string X]) rfl (rof_says X w10 (Nat.le_trans y4 (by decide))) ?_
  rintro _ w11 ⟨rfl, s11⟩
  refine ⟨_, rfl, ?_⟩
  rw [hcl]
  obtain ⟨V, hV⟩ : ∃ V, V = sumOf ((pseudoT a b 6 (s.size : Int)).data.toList ++ s.data.toList) := ⟨_, rfl⟩
  rw [← hV]
  apply Ls.runK LO [8] 1
  · repeat' (first | rfl | with_reducible assumption | assumption | constructor)
  intro w12 f12 s12 hf12
  replace hf12 : f12 = [(8, _)] := hf12
  subst hf12
  exact Ls.nil (N.to (W.ret (post LO (rs := [.tmp 8]) rfl (vs := [.int .i64 V]) (.tmp rfl .nil) ⟨rfl, ((((((((((((Mv.refl _ w).same s1).same s2).trans m3).same s4).trans m5).same s6).trans m7).same s8).trans m9).same s10).same s11).same s12⟩)))
set_option maxRecDepth 100000 in
set_option maxHeartbeats 600000 in
theorem rput4_walk (h : SegV) (a b : Int) (body : ByteArray) (w : World) (ok : h.Ok) (ha : 0 ≤ a ∧ a ≤ 4294967295) (hb : 0 ≤ b ∧ b ≤ 4294967295) (hbody : body.size ≤ 1000000000000000) : Calls Try.prog 45 #[.int .u32 a, .int .u32 b, .agg h.cs.toArray, .string body] w fun e w' => e = .returned (.tuple #[.string (h.put a b body).1, .int .i64 (h.put a b body).2]) ∧ Mv (fun _ => False) w w' := by
  have oko := ok.o
  refine calls_W (n := 74) (vs := [.int .u32 a, .int .u32 b, .agg h.cs.toArray, .string body]) Try.func45 rfl rfl rfl ?_
  refine W.seq (W.list ?_)
  refine Ls.box rfl rfl rfl rfl rfl (vs := h.cs) rfl ?_
  have hb1 : BX (w.alloc (.cells h.cs.toArray 26)) w.heap.size 26 h.cs := heap_alloc_new w (.cells h.cs.toArray 26)
  have m1 : Mv (fun _ => False) w (w.alloc (.cells h.cs.toArray 26)) := (Mv.refl _ w).alloc _
  generalize w.alloc (.cells h.cs.toArray 26) = w1 at hb1 m1
  generalize w.heap.size = p at hb1
  apply Ls.runK LO [0, 1, 3, 6] 2
  · repeat' (first | rfl | with_reducible assumption | assumption | constructor)
  intro w2 f2 s2 hf2
  replace hf2 : f2 = [(0, _), (1, _), (3, _), (6, _)] := hf2
  subst hf2
  refine Ls.nil (N.to ?_)
  have m2 := m1.same s2
  have hb2 := hb1.same s2
  clear m1 hb1 s2
  have fin : ∀ (r : ByteArray × Int) w' f, r = h.put a b body → Mv (fun _ => False) w w' → fget f 8 = some (.string r.1) → fget f 9 = some (.int .i64 r.2) → N 74 f w' (bodyPost Try.prog Try.f45 fun e w' => e = .returned (.tuple #[.string (h.put a b body).1, .int .i64 (h.put a b body).2]) ∧ Mv (fun _ => False) w w') .ret := fun r w' f e m h8 h9 => by
    rw [← e]
    exact post LO (rs := [.tmp 8, .tmp 9]) rfl (vs := [.string r.1, .int .i64 r.2]) (.tmp h8 (.tmp h9 .nil)) ⟨rfl, m⟩
  refine W.cutS (fun w' g => (Mv (fun _ => False) w w' ∧ BX w' p 26 h.cs ∧ g = [(0, .int .u32 a), (1, .int .u32 b), (3, .string body), (6, .pointer (some ⟨p, 0, none⟩))]) ∧ h.chk = true ∧ 20 + h.o.size + body.size ≤ 2000) ?_ ?_
  · refine W.block ?_
    refine W.seq (W.list ?_)
    have hc : CellsAt w2 p 0 7 h.cs := hb2.cells
    apply Ls.runK LO [0, 1, 3, 6, 13] 1
    · repeat' (first | rfl | with_reducible assumption | assumption | constructor)
    intro w3 f3 s3 hf3
    replace hf3 : f3 = [(0, _), (1, _), (3, _), (6, _), (13, _)] := hf3
    subst hf3
    refine Ls.call LO rfl rfl rfl rfl rfl (vs := [.agg h.cs.toArray]) rfl (rcheck4_walk h w3) ?_
    rintro _ w4 ⟨rfl, m4⟩
    refine ⟨_, rfl, ?_⟩
    have hb4 := (hb2.same s3).moved m4 fun e => e
    have m4 := (m2.same s3).trans m4
    apply Ls.runK LO [0, 1, 3, 6, 12] 2
    · repeat' (first | rfl | with_reducible assumption | assumption | constructor)
    intro w5 f5 s5 hf5
    replace hf5 : f5 = [(0, _), (1, _), (3, _), (6, _), (12, _)] := hf5
    subst hf5
    refine Ls.nil (N.to ?_)
    have m5 := m4.same s5
    have hb5 := hb4.same s5
    cases hck : h.chk with
    | false =>
      have e : ((⟨#[]⟩ : ByteArray), (1 : Int)) = h.put a b body := by unfold SegV.put putT; unfold SegV.chk at hck; rw [hck]; rfl
      refine W.cond (b := true) rfl (fun _ => ?_) (fun h => by cases h)
      apply W.readS LO mixed [8, 9] (by kernel_rfl)
      · repeat' (first | rfl | with_reducible assumption | assumption | constructor)
      intro w6 f6 s6 hf6
      replace hf6 : f6 = [(8, _), (9, _)] := hf6
      subst hf6
      exact W.ret (N.inbR (N.thenR (fin _ _ _ e (m5.same s6) rfl rfl)))
    | true =>
      refine W.cond (b := false) rfl (fun h => by cases h) (fun _ => ?_)
      have d6 : Cl w5 ⟨p, 0 + 6, none⟩ (.string h.o) := hb5.cl rfl
      have k1 : Kn (IntKind.i64.wrap (1980 - (h.o.size : Int))) (1980 - (h.o.size : Int)) := i64k (by omega)
      by_cases h2 : 2000 < 20 + h.o.size + body.size
      · have k2 : Kn (decide (1980 - (h.o.size : Int) < (body.size : Int))) true := .yes (by omega)
        have e : ((⟨#[]⟩ : ByteArray), (5 : Int)) = h.put a b body := by unfold SegV.put putT; unfold SegV.chk at hck; rw [hck, if_pos rfl, if_pos (by omega)]
        apply W.readS LO mixed [16] (by kernel_rfl)
        · repeat' (first | rfl | with_reducible assumption | assumption | constructor)
        intro w6 f6 s6 hf6
        replace hf6 : f6 = [(16, _)] := hf6
        subst hf6
        refine W.cond (b := true) rfl (fun _ => ?_) (fun h => by cases h)
        apply W.readS LO mixed [8, 9] (by kernel_rfl)
        · repeat' (first | rfl | with_reducible assumption | assumption | constructor)
        intro w7 f7 s7 hf7
        replace hf7 : f7 = [(8, _), (9, _)] := hf7
        subst hf7
        exact W.ret (N.inbR (N.thenR (fin _ _ _ e ((m5.same s6).same s7) rfl rfl)))
      · have k2 : Kn (decide (1980 - (h.o.size : Int) < (body.size : Int))) false := .no (by omega)
        apply W.readS LO mixed [0, 1, 3, 6, 16] (by kernel_rfl)
        · repeat' (first | rfl | with_reducible assumption | assumption | constructor)
        intro w6 f6 s6 hf6
        replace hf6 : f6 = [(0, _), (1, _), (3, _), (6, _), (16, _)] := hf6
        subst hf6
        refine W.cond (b := false) rfl (fun h => by cases h) (fun _ => W.skip ?_)
        exact N.inb (N.cut ⟨⟨m5.same s6, hb5.same s6, rfl⟩, rfl, by omega⟩ (sub_keys rfl))
  clear m2 hb2
  rintro w4 _ ⟨⟨m4, hb4, rfl⟩, hck, hbs⟩
  have hck' := hck
  unfold SegV.chk at hck'
  obtain ⟨g1, g2, g3, g4, g5, g6, g7, g8, g9, g10⟩ := chkT_all hck'
  -- the front
  have F0 : ∀ w', Mv (fun _ => False) w4 w' → Cl w' ⟨p, 0 + 0, none⟩ (.int .i64 h.sp) := fun w' m => (hb4.moved m fun e => e).cl rfl
  have F1 : ∀ w', Mv (fun _ => False) w4 w' → Cl w' ⟨p, 0 + 1, none⟩ (.int .i64 h.dp) := fun w' m => (hb4.moved m fun e => e).cl rfl
  have F2 : ∀ w', Mv (fun _ => False) w4 w' → Cl w' ⟨p, 0 + 2, none⟩ (.int .u32 h.seq) := fun w' m => (hb4.moved m fun e => e).cl rfl
  have F3 : ∀ w', Mv (fun _ => False) w4 w' → Cl w' ⟨p, 0 + 3, none⟩ (.int .u32 h.ack) := fun w' m => (hb4.moved m fun e => e).cl rfl
  have F4 : ∀ w', Mv (fun _ => False) w4 w' → Cl w' ⟨p, 0 + 4, none⟩ (.int .i64 h.flags) := fun w' m => (hb4.moved m fun e => e).cl rfl
  have F5 : ∀ w', Mv (fun _ => False) w4 w' → Cl w' ⟨p, 0 + 5, none⟩ (.int .i64 h.win) := fun w' m => (hb4.moved m fun e => e).cl rfl
  have F6 : ∀ w', Mv (fun _ => False) w4 w' → Cl w' ⟨p, 0 + 6, none⟩ (.string h.o) := fun w' m => (hb4.moved m fun e => e).cl rfl
  have n4 : (4 : Int) ≠ 0 := by decide
  obtain ⟨v4, hv4⟩ : ∃ v4 : Int, v4 = (((20 + h.o.size) / 4 * 16 : Nat) : Int) := ⟨_, rfl⟩
  obtain ⟨N_, hN⟩ : ∃ N_ : Nat, N_ = 20 + h.o.size := ⟨_, rfl⟩
  have ks : Kn (IntKind.i64.wrap h.seq) h.seq := i64k (by have := ok.seq; omega)
  have kk : Kn (IntKind.i64.wrap h.ack) h.ack := i64k (by have := ok.ack; omega)
  have k0 : Kn (IntKind.i64.wrap (20 + (h.o.size : Int))) (N_ : Int) := .of (by rw [show 20 + (h.o.size : Int) = (N_ : Int) by omega]; exact IntWalk.i64_in _ (by omega))
  have k1 : Kn (IntKind.i64.wrap ((N_ : Int).tdiv 4)) ((N_ / 4 : Nat) : Int) := .of (by rw [Int.tdiv_eq_ediv_of_nonneg (by omega), show (N_ : Int) / 4 = ((N_ / 4 : Nat) : Int) by omega]; exact IntWalk.i64_in _ (by omega))
  have k2 : Kn (IntKind.i64.wrap (((N_ / 4 : Nat) : Int) * 16)) v4 := .of (by rw [hv4, show ((N_ / 4 : Nat) : Int) * 16 = (((20 + h.o.size) / 4 * 16 : Nat) : Int) by omega]; exact IntWalk.i64_in _ (by omega))
  refine W.seq (W.held mixed (fun w' => Mv (fun _ => False) w4 w') [] 34 rfl (fun w' s => (Mv.refl _ w4).same s) ?_)
  intro x0 s0
  have m0 : Mv (fun _ => False) w4 x0 := (Mv.refl _ w4).same s0
  apply H.takesK LO true [0, 1, 3, 6, 25, 28, 33, 38, 46, 50, 54] [0, 1, 3, 4, 7, 8, 9, 12, 13, 14, 17, 18, 19, 20, 21, 22, 25, 26, 29, 30] (k := 14) rfl (by kernel_rfl)
  · repeat' (first | rfl | with_reducible assumption | assumption | (intro w' hw'; replace hw' := hw' rfl; have h0' := F0 w' hw'; have h1' := F1 w' hw'; have h2' := F2 w' hw'; have h3' := F3 w' hw'; have h4' := F4 w' hw'; have h5' := F5 w' hw'; have h6' := F6 w' hw') | constructor)
  intro g_ hg_
  replace hg_ : g_ = [(0, _), (1, _), (3, _), (6, _), (25, _), (28, _), (33, _), (38, _), (46, _), (50, _), (54, _)] := hg_
  subst hg_
  refine H.only (i := 2) rfl (by kernel_rfl) ?_
  refine Ls.call LO rfl rfl rfl rfl rfl (vs := [.int .i64 h.sp, .int .i64 2]) rfl (rbig_walk h.sp 2 x0 (by decide)) ?_
  rintro _ x1 ⟨rfl, n1⟩
  have n1 := m0.trans n1
  refine ⟨_, rfl, Ls.nil (N.goOn (fun _ => n1) ?_)⟩
  refine H.only (i := 5) rfl (by kernel_rfl) ?_
  refine Ls.call LO rfl rfl rfl rfl rfl (vs := [.int .i64 h.dp, .int .i64 2]) rfl (rbig_walk h.dp 2 x1 (by decide)) ?_
  rintro _ x2 ⟨rfl, n2⟩
  have n2 := n1.trans n2
  refine ⟨_, rfl, Ls.nil (N.goOn (fun _ => n2) ?_)⟩
  have z1 := sz2 (szb h.sp 2) (szb h.dp 2) (by decide)
  apply H.takesK LO false [0, 1, 3, 6, 30, 33, 38, 46, 50, 54] [6] (k := 11) rfl (by kernel_rfl)
  · repeat' (first | rfl | with_reducible assumption | assumption | (intro w' hw'; replace hw' := True.intro) | constructor)
  intro g_ hg_
  replace hg_ : g_ = [(0, _), (1, _), (3, _), (6, _), (30, _), (33, _), (38, _), (46, _), (50, _), (54, _)] := hg_
  subst hg_
  have y1 := szap (szb h.sp 2) (szb h.dp 2)
  refine H.only (i := 10) rfl (by kernel_rfl) ?_
  refine Ls.call LO rfl rfl rfl rfl rfl (vs := [.int .i64 h.seq, .int .i64 4]) rfl (rbig_walk h.seq 4 x2 (by decide)) ?_
  rintro _ x3 ⟨rfl, n3⟩
  have n3 := n2.trans n3
  refine ⟨_, rfl, Ls.nil (N.goOn (fun _ => n3) ?_)⟩
  have z2 := sz2 y1 (szb h.seq 4) (by decide)
  apply H.takesK LO false [0, 1, 3, 6, 35, 38, 46, 50, 54] [11] (k := 9) rfl (by kernel_rfl)
  · repeat' (first | rfl | with_reducible assumption | assumption | (intro w' hw'; replace hw' := True.intro) | constructor)
  intro g_ hg_
  replace hg_ : g_ = [(0, _), (1, _), (3, _), (6, _), (35, _), (38, _), (46, _), (50, _), (54, _)] := hg_
  subst hg_
  have y2 := szap y1 (szb h.seq 4)
  refine H.only (i := 15) rfl (by kernel_rfl) ?_
  refine Ls.call LO rfl rfl rfl rfl rfl (vs := [.int .i64 h.ack, .int .i64 4]) rfl (rbig_walk h.ack 4 x3 (by decide)) ?_
  rintro _ x4 ⟨rfl, n4'⟩
  have n4' := n3.trans n4'
  refine ⟨_, rfl, Ls.nil (N.goOn (fun _ => n4') ?_)⟩
  have z3 := sz2 y2 (szb h.ack 4) (by decide)
  apply H.takesK LO false [0, 1, 3, 6, 40, 46, 50, 54] [16] (k := 7) rfl (by kernel_rfl)
  · repeat' (first | rfl | with_reducible assumption | assumption | (intro w' hw'; replace hw' := True.intro) | constructor)
  intro g_ hg_
  replace hg_ : g_ = [(0, _), (1, _), (3, _), (6, _), (40, _), (46, _), (50, _), (54, _)] := hg_
  subst hg_
  have y3 := szap y2 (szb h.ack 4)
  refine H.only (i := 23) rfl (by kernel_rfl) ?_
  refine Ls.call LO rfl rfl rfl rfl rfl (vs := [.int .i64 v4, .int .i64 1]) rfl (rbig_walk v4 1 x4 (by decide)) ?_
  rintro _ x5 ⟨rfl, n5⟩
  have n5 := n4'.trans n5
  refine ⟨_, rfl, Ls.nil (N.goOn (fun _ => n5) ?_)⟩
  have z4 := sz2 y3 (szb v4 1) (by decide)
  apply H.takesK LO false [0, 1, 3, 6, 48, 50, 54] [24] (k := 5) rfl (by kernel_rfl)
  · repeat' (first | rfl | with_reducible assumption | assumption | (intro w' hw'; replace hw' := True.intro) | constructor)
  intro g_ hg_
  replace hg_ : g_ = [(0, _), (1, _), (3, _), (6, _), (48, _), (50, _), (54, _)] := hg_
  subst hg_
  have y4 := szap y3 (szb v4 1)
  refine H.only (i := 27) rfl (by kernel_rfl) ?_
  refine Ls.call LO rfl rfl rfl rfl rfl (vs := [.int .i64 h.flags, .int .i64 1]) rfl (rbig_walk h.flags 1 x5 (by decide)) ?_
  rintro _ x6 ⟨rfl, n6⟩
  have n6 := n5.trans n6
  refine ⟨_, rfl, Ls.nil (N.goOn (fun _ => n6) ?_)⟩
  have z5 := sz2 y4 (szb h.flags 1) (by decide)
  apply H.takesK LO false [0, 1, 3, 6, 52, 54] [28] (k := 3) rfl (by kernel_rfl)
  · repeat' (first | rfl | with_reducible assumption | assumption | (intro w' hw'; replace hw' := True.intro) | constructor)
  intro g_ hg_
  replace hg_ : g_ = [(0, _), (1, _), (3, _), (6, _), (52, _), (54, _)] := hg_
  subst hg_
  have y5 := szap y4 (szb h.flags 1)
  refine H.only (i := 31) rfl (by kernel_rfl) ?_
  refine Ls.call LO rfl rfl rfl rfl rfl (vs := [.int .i64 h.win, .int .i64 2]) rfl (rbig_walk h.win 2 x6 (by decide)) ?_
  rintro _ x7 ⟨rfl, n7⟩
  have n7 := n6.trans n7
  refine ⟨_, rfl, Ls.nil (N.goOn (fun _ => n7) ?_)⟩
  have z6 := sz2 y5 (szb h.win 2) (by decide)
  apply H.takesK LO false [0, 1, 3, 6, 10] [32, 33] (k := 0) rfl (by kernel_rfl)
  · repeat' (first | rfl | with_reducible assumption | assumption | (intro w' hw'; replace hw' := True.intro) | constructor)
  intro g_ hg_
  replace hg_ : g_ = [(0, _), (1, _), (3, _), (6, _), (10, _)] := hg_
  subst hg_
  have y6 := szap y5 (szb h.win 2)
  refine H.done (by kernel_rfl) (N.to ?_)
  have hfr : bigS h.sp 2 ++ bigS h.dp 2 ++ bigS h.seq 4 ++ bigS h.ack 4 ++ bigS v4 1 ++ bigS h.flags 1 ++ bigS h.win 2 = frontT h.sp h.dp h.seq h.ack h.flags h.win h.o.size := by rw [hv4]; rfl
  rw [hfr] at y6
  rw [hfr]
  have m5 := m4.trans n7
  have hb5 := hb4.moved n7 fun e => e
  clear F0 F1 F2 F3 F4 F5 F6 ks kk k0 k1 k2 m0 n1 n2 n3 n4' n5 n6 n7 s0 z1 z2 z3 z4 z5 z6 y1 y2 y3 y4 y5 hv4 m4 hb4 hfr
  -- the back
  have d6 : Cl x7 ⟨p, 0 + 6, none⟩ (.string h.o) := hb5.cl rfl
  have c2 : (⟨#[0, 0]⟩ : ByteArray).size ≤ 2 := by decide
  have z1 := sz2 c2 g9 (by decide)
  have y1 := szap c2 g9
  have hbo : body.size ≤ 2000 := by omega
  have z2 := sz2 y1 hbo (by decide)
  have y2 := szap y1 hbo
  apply W.readS LO mixed [0, 1, 10, 11] (by kernel_rfl)
  · repeat' (first | rfl | with_reducible assumption | assumption | constructor)
  intro u0 e0 r0 he0
  replace he0 : e0 = [(0, _), (1, _), (10, _), (11, _)] := he0
  subst he0
  have m6 := m5.same r0
  clear d6 z1 y1 z2 m5 hb5
  -- all of it
  obtain ⟨A, hA⟩ : ∃ A, A = frontT h.sp h.dp h.seq h.ack h.flags h.win h.o.size := ⟨_, rfl⟩
  obtain ⟨B, hB⟩ : ∃ B, B = (⟨#[0, 0]⟩ : ByteArray) ++ h.o ++ body := ⟨_, rfl⟩
  have hAs : A.size = 16 := by rw [hA, frontT_size]
  have hBs : B.size = 2 + h.o.size + body.size := by rw [hB]; exact backT_size h.o body
  rw [← hA] at y6
  rw [← hB] at y2
  rw [← hA, ← hB]
  have z1 := sz2 y6 c2 (by decide)
  have z2' := sz2 (szap y6 c2) y2 (by decide)
  have q2 := szap (szap y6 c2) y2
  refine W.seq (W.list ?_)
  apply Ls.runK LO [11, 62, 63, 64, 68] 7
  · repeat' (first | rfl | with_reducible assumption | assumption | constructor)
  intro u1 e1 r1 he1
  replace he1 : e1 = [(11, _), (62, _), (63, _), (64, _), (68, _)] := he1
  subst he1
  obtain ⟨M_, hM⟩ : ∃ M_ : Nat, M_ = 20 + h.o.size + body.size := ⟨_, rfl⟩
  have hT : (A ++ (⟨#[0, 0]⟩ : ByteArray) ++ B).size = M_ := by
    rw [ByteArray.size_append, ByteArray.size_append, hAs, hBs, hM]
    show 16 + 2 + _ = _
    omega
  have hcl : (A ++ (⟨#[0, 0]⟩ : ByteArray) ++ B).data.toList = A.data.toList ++ (Nt.z2.data.toList ++ B.data.toList) := by rw [app_list, app_list, List.append_assoc]; rfl
  obtain ⟨X, hX⟩ : ∃ X, X = A ++ (⟨#[0, 0]⟩ : ByteArray) ++ B := ⟨_, rfl⟩
  rw [← hX] at q2 hcl hT
  rw [← hX]
  refine Ls.call LO rfl rfl rfl rfl rfl (vs := [.int .u32 a, .int .u32 b, .int .i64 6, .string X]) rfl (rsum4_walk a b X u1 ha hb (Nat.le_trans q2 (by decide))) ?_
  rintro _ u3 ⟨rfl, r3⟩
  refine ⟨_, rfl, ?_⟩
  rw [hT, hcl]
  obtain ⟨S_, hS⟩ : ∃ S_, S_ = sumOf ((pseudoT a b 6 (M_ : Int)).data.toList ++ (A.data.toList ++ (Nt.z2.data.toList ++ B.data.toList))) := ⟨_, rfl⟩
  rw [← hS]
  refine Ls.call LO rfl rfl rfl rfl rfl (vs := [.int .i64 S_, .int .i64 2]) rfl (rbig_walk S_ 2 u3 (by decide)) ?_
  rintro _ u4 ⟨rfl, l4⟩
  refine ⟨_, rfl, ?_⟩
  have m8 := ((m6.same r1).trans r3).trans l4
  have z1 := sz2 y6 (szb S_ 2) (by decide)
  have z2' := sz2 (szap y6 (szb S_ 2)) y2 (by decide)
  apply Ls.runK LO [8, 9] 5
  · repeat' (first | rfl | with_reducible assumption | assumption | constructor)
  intro u5 e5 r5 he5
  replace he5 : e5 = [(8, _), (9, _)] := he5
  subst he5
  refine Ls.nil (N.to (W.ret (fin (A ++ bigS S_ 2 ++ B, 0) _ _ ?_ (m8.same r5) rfl rfl)))
  unfold SegV.put putT
  rw [if_pos hck', if_neg (by omega), hS, hA, hB, hM]
  rfl
end Go.Proofs.Ytbidgeaigiijpaa
