/- What is proved: what the reference's Put of datagrams makes. Conditions: those that stand in each theorem. -/
import Derived.Test.YtbidgeaigiijpaaNetRef5
namespace Go.Proofs.Ytbidgeaigiijpaa
set_option linter.unusedVariables false
set_option linter.unusedSimpArgs false
set_option linter.unusedSectionVars false
open Go.RowKit Fw Nt
set_option maxRecDepth 100000 in
set_option maxHeartbeats 600000 in
theorem rput3_walk (h : IpV) (body : ByteArray) (w : World) (ok : h.Ok) (hbody : body.size ≤ 1000000000000000) : Calls Try.prog 43 #[.agg h.cs.toArray, .string body] w fun e w' => e = .returned (.tuple #[.string (h.put body).1, .int .i64 (h.put body).2]) ∧ Mv (fun _ => False) w w' := by
  refine calls_W (n := 86) (vs := [.agg h.cs.toArray, .string body]) Try.func43 rfl rfl rfl ?_
  refine W.seq (W.list ?_)
  refine Ls.box rfl rfl rfl rfl rfl (vs := h.cs) rfl ?_
  have hb1 : BX (w.alloc (.cells h.cs.toArray 28)) w.heap.size 28 h.cs := heap_alloc_new w (.cells h.cs.toArray 28)
  have m1 : Mv (fun _ => False) w (w.alloc (.cells h.cs.toArray 28)) := (Mv.refl _ w).alloc _
  generalize w.alloc (.cells h.cs.toArray 28) = w1 at hb1 m1
  obtain ⟨p, hp⟩ : ∃ p, p = w.heap.size := ⟨_, rfl⟩
  rw [← hp] at hb1
  rw [← hp]
  apply Ls.runK LO [1, 2] 2
  · repeat' (first | rfl | with_reducible assumption | assumption | constructor)
  intro w2 f2 s2 hf2
  replace hf2 : f2 = [(1, _), (2, _)] := hf2
  subst hf2
  refine Ls.nil (N.to ?_)
  have m2 := m1.same s2
  have hb2 := hb1.same s2
  clear m1 hb1 s2
  have fin : ∀ (r : ByteArray × Int) w' f, r = h.put body → Mv (fun _ => False) w w' → fget f 4 = some (.string r.1) → fget f 5 = some (.int .i64 r.2) → N 86 f w' (bodyPost Try.prog Try.f43 fun e w' => e = .returned (.tuple #[.string (h.put body).1, .int .i64 (h.put body).2]) ∧ Mv (fun _ => False) w w') .ret := fun r w' f e m h4 h5 => by
    rw [← e]
    exact post LO (rs := [.tmp 4, .tmp 5]) rfl (vs := [.string r.1, .int .i64 r.2]) (.tmp h4 (.tmp h5 .nil)) ⟨rfl, m⟩
  refine W.cutS (fun w' g => (Mv (fun _ => False) w w' ∧ BX w' p 28 h.cs ∧ g = [(1, .string body), (2, .pointer (some ⟨p, 0, none⟩))]) ∧ h.chk = true ∧ body.size ≤ 2000) ?_ ?_
  · refine W.block ?_
    refine W.seq (W.list ?_)
    have hc : CellsAt w2 p 0 10 h.cs := hb2.cells
    apply Ls.runK LO [1, 2, 11] 1
    · repeat' (first | rfl | with_reducible assumption | assumption | constructor)
    intro w3 f3 s3 hf3
    replace hf3 : f3 = [(1, _), (2, _), (11, _)] := hf3
    subst hf3
    refine Ls.call LO rfl rfl rfl rfl rfl (vs := [.agg h.cs.toArray]) rfl (rcheck3_walk h w3) ?_
    rintro _ w4 ⟨rfl, m4⟩
    refine ⟨_, rfl, ?_⟩
    have hb4 := (hb2.same s3).moved m4 fun e => e
    have m4 := (m2.same s3).trans m4
    apply Ls.runK LO [1, 2, 10] 2
    · repeat' (first | rfl | with_reducible assumption | assumption | constructor)
    intro w5 f5 s5 hf5
    replace hf5 : f5 = [(1, _), (2, _), (10, _)] := hf5
    subst hf5
    refine Ls.nil (N.to ?_)
    have m5 := m4.same s5
    have hb5 := hb4.same s5
    cases hck : h.chk with
    | false =>
      have e : ((⟨#[]⟩ : ByteArray), (1 : Int)) = h.put body := by unfold IpV.put putI; unfold IpV.chk at hck; rw [hck]; rfl
      refine W.cond (b := true) rfl (fun _ => ?_) (fun h => by cases h)
      apply W.readS LO mixed [4, 5] (by kernel_rfl)
      · repeat' (first | rfl | with_reducible assumption | assumption | constructor)
      intro w6 f6 s6 hf6
      replace hf6 : f6 = [(4, _), (5, _)] := hf6
      subst hf6
      exact W.ret (N.inbR (N.thenR (fin _ _ _ e (m5.same s6) rfl rfl)))
    | true =>
      refine W.cond (b := false) rfl (fun h => by cases h) (fun _ => ?_)
      by_cases h2 : 2000 < body.size
      · have k2 : Kn (decide (2000 < (body.size : Int))) true := .yes (by omega)
        have e : ((⟨#[]⟩ : ByteArray), (5 : Int)) = h.put body := by unfold IpV.put putI; unfold IpV.chk at hck; rw [hck, if_pos rfl, if_pos h2]
        apply W.readS LO mixed [14] (by kernel_rfl)
        · repeat' (first | rfl | with_reducible assumption | assumption | constructor)
        intro w6 f6 s6 hf6
        replace hf6 : f6 = [(14, _)] := hf6
        subst hf6
        refine W.cond (b := true) rfl (fun _ => ?_) (fun h => by cases h)
        apply W.readS LO mixed [4, 5] (by kernel_rfl)
        · repeat' (first | rfl | with_reducible assumption | assumption | constructor)
        intro w7 f7 s7 hf7
        replace hf7 : f7 = [(4, _), (5, _)] := hf7
        subst hf7
        exact W.ret (N.inbR (N.thenR (fin _ _ _ e ((m5.same s6).same s7) rfl rfl)))
      · have k2 : Kn (decide (2000 < (body.size : Int))) false := .no (by omega)
        apply W.readS LO mixed [1, 2, 14] (by kernel_rfl)
        · repeat' (first | rfl | with_reducible assumption | assumption | constructor)
        intro w6 f6 s6 hf6
        replace hf6 : f6 = [(1, _), (2, _), (14, _)] := hf6
        subst hf6
        refine W.cond (b := false) rfl (fun h => by cases h) (fun _ => W.skip ?_)
        exact N.inb (N.cut ⟨⟨m5.same s6, hb5.same s6, rfl⟩, rfl, by omega⟩ (sub_keys rfl))
  clear m2 hb2
  rintro w3 _ ⟨⟨m3, hb3, rfl⟩, hck, hbs⟩
  have hck' := hck
  unfold IpV.chk at hck'
  obtain ⟨g1, g2, g3, g4, g5, g6, g7, g8, g9, g10, g11, g12, g13⟩ := chkI_all hck'
  have d9 : Cl w3 ⟨p, 0 + 9, none⟩ (.string h.o) := hb3.cl rfl
  obtain ⟨N_, hN⟩ : ∃ N_ : Nat, N_ = 20 + h.o.size := ⟨_, rfl⟩
  have k1 : Kn (IntKind.i64.wrap (20 + (h.o.size : Int))) (N_ : Int) := .of (by rw [show 20 + (h.o.size : Int) = (N_ : Int) by omega]; exact IntWalk.i64_in _ (by omega))
  apply W.readS LO mixed [1, 2, 6] (by kernel_rfl)
  · repeat' (first | rfl | with_reducible assumption | assumption | constructor)
  intro w4 f4 s4 hf4
  replace hf4 : f4 = [(1, _), (2, _), (6, _)] := hf4
  subst hf4
  have m4 := m3.same s4
  have hb4 := hb3.same s4
  clear m3 hb3 s4 d9 k1
  have n8 : (8 : Int) ≠ 0 := by decide
  have d4 : Cl w4 ⟨p, 0 + 4, none⟩ (.int .i64 h.off) := hb4.cl rfl
  obtain ⟨x, hx⟩ : ∃ x, x = h.off / 8 := ⟨_, rfl⟩
  have hx0 : 0 ≤ x := by omega
  have hx1 : x ≤ 8191 := by omega
  have k1 : Kn (IntKind.i64.wrap (h.off.tdiv 8)) x := .of (by rw [Int.tdiv_eq_ediv_of_nonneg g9, ← hx]; exact IntWalk.i64_in _ (by omega))
  apply W.readS LO mixed [1, 2, 6, 7] (by kernel_rfl)
  · repeat' (first | rfl | with_reducible assumption | assumption | constructor)
  intro w5 f5 s5 hf5
  replace hf5 : f5 = [(1, _), (2, _), (6, _), (7, _)] := hf5
  subst hf5
  have m5 := m4.same s5
  have hb5 := hb4.same s5
  clear m4 hb4 s5 d4 k1
  obtain ⟨a, ha⟩ : ∃ a, a = x + (if h.keep = true then 16384 else 0) := ⟨_, rfl⟩
  have ha0 : 0 ≤ a ∧ a ≤ 24575 := by rw [ha]; split <;> omega
  refine W.cutS (fun w' g => Same w5 w' ∧ g = [(1, .string body), (2, .pointer (some ⟨p, 0, none⟩)), (6, .int .i64 N_), (7, .int .i64 a)]) ?_ ?_
  · have d1 : Cl w5 ⟨p, 0 + 3, none⟩ (.bool h.keep) := hb5.cl rfl
    cases hk : h.keep with
    | true =>
      rw [hk] at d1
      apply W.readS LO mixed [1, 2, 6, 7, 26] (by kernel_rfl)
      · repeat' (first | rfl | with_reducible assumption | assumption | constructor)
      intro w6 f6 s6 hf6
      replace hf6 : f6 = [(1, _), (2, _), (6, _), (7, _), (26, _)] := hf6
      subst hf6
      refine W.cond (b := true) rfl (fun _ => ?_) (fun h => by cases h)
      have k2 : Kn (IntKind.i64.wrap (x + 16384)) a := .of (by rw [ha, hk, if_pos rfl]; exact IntWalk.i64_in _ (by omega))
      apply W.readN LO mixed [1, 2, 6, 7] (by kernel_rfl)
      · repeat' (first | rfl | with_reducible assumption | assumption | constructor)
      intro w7 f7 s7 hf7
      replace hf7 : f7 = [(1, _), (2, _), (6, _), (7, _)] := hf7
      subst hf7
      exact N.cut ⟨s6.trans s7, rfl⟩ (sub_keys rfl)
    | false =>
      rw [hk] at d1
      apply W.readS LO mixed [1, 2, 6, 7, 26] (by kernel_rfl)
      · repeat' (first | rfl | with_reducible assumption | assumption | constructor)
      intro w6 f6 s6 hf6
      replace hf6 : f6 = [(1, _), (2, _), (6, _), (7, _), (26, _)] := hf6
      subst hf6
      refine W.cond (b := false) rfl (fun h => by cases h) (fun _ => W.skip ?_)
      have e : a = x := by rw [ha, hk]; simp
      rw [e]
      exact N.cut ⟨s6, rfl⟩ (sub_keys rfl)
  rintro w6 _ ⟨s6, rfl⟩
  have hb6 := hb5.same s6
  have m6 := m5.same s6
  clear m5 hb5 s6
  obtain ⟨v4, hv4⟩ : ∃ v4 : Int, v4 = cutI h.more h.keep h.off := ⟨_, rfl⟩
  have hcut : v4 = a + (if h.more = true then 8192 else 0) := by rw [hv4]; unfold cutI; rw [ha, ← hx]
  refine W.cutS (fun w' g => Same w6 w' ∧ g = [(1, .string body), (2, .pointer (some ⟨p, 0, none⟩)), (6, .int .i64 N_), (7, .int .i64 v4)]) ?_ ?_
  · have d1 : Cl w6 ⟨p, 0 + 2, none⟩ (.bool h.more) := hb6.cl rfl
    cases hm : h.more with
    | true =>
      rw [hm] at d1 hcut
      apply W.readS LO mixed [1, 2, 6, 7, 30] (by kernel_rfl)
      · repeat' (first | rfl | with_reducible assumption | assumption | constructor)
      intro w7 f7 s7 hf7
      replace hf7 : f7 = [(1, _), (2, _), (6, _), (7, _), (30, _)] := hf7
      subst hf7
      refine W.cond (b := true) rfl (fun _ => ?_) (fun h => by cases h)
      have k2 : Kn (IntKind.i64.wrap (a + 8192)) v4 := .of (by rw [hcut, if_pos rfl]; exact IntWalk.i64_in _ (by omega))
      apply W.readN LO mixed [1, 2, 6, 7] (by kernel_rfl)
      · repeat' (first | rfl | with_reducible assumption | assumption | constructor)
      intro w8 f8 s8 hf8
      replace hf8 : f8 = [(1, _), (2, _), (6, _), (7, _)] := hf8
      subst hf8
      exact N.cut ⟨s7.trans s8, rfl⟩ (sub_keys rfl)
    | false =>
      rw [hm] at d1 hcut
      apply W.readS LO mixed [1, 2, 6, 7, 30] (by kernel_rfl)
      · repeat' (first | rfl | with_reducible assumption | assumption | constructor)
      intro w7 f7 s7 hf7
      replace hf7 : f7 = [(1, _), (2, _), (6, _), (7, _), (30, _)] := hf7
      subst hf7
      refine W.cond (b := false) rfl (fun h => by cases h) (fun _ => W.skip ?_)
      rw [hcut, if_neg (by decide), Int.add_zero]
      exact N.cut ⟨s7, rfl⟩ (sub_keys rfl)
  rintro w7 _ ⟨s7, rfl⟩
  have hb7 := hb6.same s7
  have m7 := m6.same s7
  clear m6 hb6 s7
  -- the front
  have F0 : ∀ w', Mv (fun _ => False) w7 w' → Cl w' ⟨p, 0 + 0, none⟩ (.int .i64 h.tos) := fun w' m => (hb7.moved m fun e => e).cl rfl
  have F1 : ∀ w', Mv (fun _ => False) w7 w' → Cl w' ⟨p, 0 + 1, none⟩ (.int .i64 h.id) := fun w' m => (hb7.moved m fun e => e).cl rfl
  have F5 : ∀ w', Mv (fun _ => False) w7 w' → Cl w' ⟨p, 0 + 5, none⟩ (.int .i64 h.ttl) := fun w' m => (hb7.moved m fun e => e).cl rfl
  have F6 : ∀ w', Mv (fun _ => False) w7 w' → Cl w' ⟨p, 0 + 6, none⟩ (.int .i64 h.proto) := fun w' m => (hb7.moved m fun e => e).cl rfl
  have n4 : (4 : Int) ≠ 0 := by decide
  obtain ⟨v0, hv0⟩ : ∃ v0 : Int, v0 = ((64 + (20 + h.o.size) / 4 : Nat) : Int) := ⟨_, rfl⟩
  obtain ⟨v2, hv2⟩ : ∃ v2 : Int, v2 = ((20 + h.o.size + body.size : Nat) : Int) := ⟨_, rfl⟩
  have k1 : Kn (IntKind.i64.wrap ((N_ : Int).tdiv 4)) ((N_ / 4 : Nat) : Int) := .of (by rw [Int.tdiv_eq_ediv_of_nonneg (by omega), show (N_ : Int) / 4 = ((N_ / 4 : Nat) : Int) by omega]; exact IntWalk.i64_in _ (by omega))
  have k2 : Kn (IntKind.i64.wrap (64 + ((N_ / 4 : Nat) : Int))) v0 := .of (by rw [hv0, show 64 + ((N_ / 4 : Nat) : Int) = ((64 + (20 + h.o.size) / 4 : Nat) : Int) by omega]; exact IntWalk.i64_in _ (by omega))
  have k3 : Kn (IntKind.i64.wrap ((N_ : Int) + (body.size : Int))) v2 := .of (by rw [hv2, show (N_ : Int) + (body.size : Int) = ((20 + h.o.size + body.size : Nat) : Int) by omega]; exact IntWalk.i64_in _ (by omega))
  refine W.seq (W.held mixed (fun w' => Mv (fun _ => False) w7 w') [] 30 rfl (fun w' s => (Mv.refl _ w7).same s) ?_)
  intro x0 s0
  have m0 : Mv (fun _ => False) w7 x0 := (Mv.refl _ w7).same s0
  apply H.takesK LO true [1, 2, 35, 38, 44, 48, 51, 55, 59] [0, 1, 2, 4, 5, 8, 9, 10, 11, 14, 15, 18, 21, 22, 25, 26] (k := 14) rfl (by kernel_rfl)
  · repeat' (first | rfl | with_reducible assumption | assumption | (intro w' hw'; replace hw' := hw' rfl; have h0' := F0 w' hw'; have h1' := F1 w' hw'; have h2' := F5 w' hw'; have h3' := F6 w' hw') | constructor)
  intro g_ hg_
  replace hg_ : g_ = [(1, _), (2, _), (35, _), (38, _), (44, _), (48, _), (51, _), (55, _), (59, _)] := hg_
  subst hg_
  refine H.only (i := 3) rfl (by kernel_rfl) ?_
  refine Ls.call LO rfl rfl rfl rfl rfl (vs := [.int .i64 v0, .int .i64 1]) rfl (rbig_walk v0 1 x0 (by decide)) ?_
  rintro _ x1 ⟨rfl, n1⟩
  have n1 := m0.trans n1
  refine ⟨_, rfl, Ls.nil (N.goOn (fun _ => n1) ?_)⟩
  refine H.only (i := 6) rfl (by kernel_rfl) ?_
  refine Ls.call LO rfl rfl rfl rfl rfl (vs := [.int .i64 h.tos, .int .i64 1]) rfl (rbig_walk h.tos 1 x1 (by decide)) ?_
  rintro _ x2 ⟨rfl, n2⟩
  have n2 := n1.trans n2
  refine ⟨_, rfl, Ls.nil (N.goOn (fun _ => n2) ?_)⟩
  have z1 := sz2 (szb v0 1) (szb h.tos 1) (by decide)
  apply H.takesK LO false [1, 2, 40, 44, 48, 51, 55, 59] [7] (k := 11) rfl (by kernel_rfl)
  · repeat' (first | rfl | with_reducible assumption | assumption | (intro w' hw'; replace hw' := True.intro) | constructor)
  intro g_ hg_
  replace hg_ : g_ = [(1, _), (2, _), (40, _), (44, _), (48, _), (51, _), (55, _), (59, _)] := hg_
  subst hg_
  have y1 := szap (szb v0 1) (szb h.tos 1)
  refine H.only (i := 12) rfl (by kernel_rfl) ?_
  refine Ls.call LO rfl rfl rfl rfl rfl (vs := [.int .i64 v2, .int .i64 2]) rfl (rbig_walk v2 2 x2 (by decide)) ?_
  rintro _ x3 ⟨rfl, n3⟩
  have n3 := n2.trans n3
  refine ⟨_, rfl, Ls.nil (N.goOn (fun _ => n3) ?_)⟩
  have z2 := sz2 y1 (szb v2 2) (by decide)
  apply H.takesK LO false [1, 2, 46, 48, 51, 55, 59] [13] (k := 9) rfl (by kernel_rfl)
  · repeat' (first | rfl | with_reducible assumption | assumption | (intro w' hw'; replace hw' := True.intro) | constructor)
  intro g_ hg_
  replace hg_ : g_ = [(1, _), (2, _), (46, _), (48, _), (51, _), (55, _), (59, _)] := hg_
  subst hg_
  have y2 := szap y1 (szb v2 2)
  refine H.only (i := 16) rfl (by kernel_rfl) ?_
  refine Ls.call LO rfl rfl rfl rfl rfl (vs := [.int .i64 h.id, .int .i64 2]) rfl (rbig_walk h.id 2 x3 (by decide)) ?_
  rintro _ x4 ⟨rfl, n4'⟩
  have n4' := n3.trans n4'
  refine ⟨_, rfl, Ls.nil (N.goOn (fun _ => n4') ?_)⟩
  have z3 := sz2 y2 (szb h.id 2) (by decide)
  apply H.takesK LO false [1, 2, 50, 51, 55, 59] [17] (k := 7) rfl (by kernel_rfl)
  · repeat' (first | rfl | with_reducible assumption | assumption | (intro w' hw'; replace hw' := True.intro) | constructor)
  intro g_ hg_
  replace hg_ : g_ = [(1, _), (2, _), (50, _), (51, _), (55, _), (59, _)] := hg_
  subst hg_
  have y3 := szap y2 (szb h.id 2)
  refine H.only (i := 19) rfl (by kernel_rfl) ?_
  refine Ls.call LO rfl rfl rfl rfl rfl (vs := [.int .i64 v4, .int .i64 2]) rfl (rbig_walk v4 2 x4 (by decide)) ?_
  rintro _ x5 ⟨rfl, n5⟩
  have n5 := n4'.trans n5
  refine ⟨_, rfl, Ls.nil (N.goOn (fun _ => n5) ?_)⟩
  have z4 := sz2 y3 (szb v4 2) (by decide)
  apply H.takesK LO false [1, 2, 53, 55, 59] [20] (k := 5) rfl (by kernel_rfl)
  · repeat' (first | rfl | with_reducible assumption | assumption | (intro w' hw'; replace hw' := True.intro) | constructor)
  intro g_ hg_
  replace hg_ : g_ = [(1, _), (2, _), (53, _), (55, _), (59, _)] := hg_
  subst hg_
  have y4 := szap y3 (szb v4 2)
  refine H.only (i := 23) rfl (by kernel_rfl) ?_
  refine Ls.call LO rfl rfl rfl rfl rfl (vs := [.int .i64 h.ttl, .int .i64 1]) rfl (rbig_walk h.ttl 1 x5 (by decide)) ?_
  rintro _ x6 ⟨rfl, n6⟩
  have n6 := n5.trans n6
  refine ⟨_, rfl, Ls.nil (N.goOn (fun _ => n6) ?_)⟩
  have z5 := sz2 y4 (szb h.ttl 1) (by decide)
  apply H.takesK LO false [1, 2, 57, 59] [24] (k := 3) rfl (by kernel_rfl)
  · repeat' (first | rfl | with_reducible assumption | assumption | (intro w' hw'; replace hw' := True.intro) | constructor)
  intro g_ hg_
  replace hg_ : g_ = [(1, _), (2, _), (57, _), (59, _)] := hg_
  subst hg_
  have y5 := szap y4 (szb h.ttl 1)
  refine H.only (i := 27) rfl (by kernel_rfl) ?_
  refine Ls.call LO rfl rfl rfl rfl rfl (vs := [.int .i64 h.proto, .int .i64 1]) rfl (rbig_walk h.proto 1 x6 (by decide)) ?_
  rintro _ x7 ⟨rfl, n7⟩
  have n7 := n6.trans n7
  refine ⟨_, rfl, Ls.nil (N.goOn (fun _ => n7) ?_)⟩
  have z6 := sz2 y5 (szb h.proto 1) (by decide)
  apply H.takesK LO false [1, 2, 8] [28, 29] (k := 0) rfl (by kernel_rfl)
  · repeat' (first | rfl | with_reducible assumption | assumption | (intro w' hw'; replace hw' := True.intro) | constructor)
  intro g_ hg_
  replace hg_ : g_ = [(1, _), (2, _), (8, _)] := hg_
  subst hg_
  have y6 := szap y5 (szb h.proto 1)
  refine H.done (by kernel_rfl) (N.to ?_)
  have hfr : bigS v0 1 ++ bigS h.tos 1 ++ bigS v2 2 ++ bigS h.id 2 ++ bigS v4 2 ++ bigS h.ttl 1 ++ bigS h.proto 1 = h.front body.size := by rw [hv0, hv2, hv4]; rfl
  rw [hfr] at y6
  rw [hfr]
  have m5 := m7.trans n7
  have hb5 := hb7.moved n7 fun e => e
  clear F0 F1 F5 F6 k1 k2 k3 m0 n1 n2 n3 n4' n5 n6 n7 s0 z1 z2 z3 z4 z5 z6 y1 y2 y3 y4 y5 hv0 hv2 hv4 hcut ha m7 hb7 hfr
  -- the back
  have F7 : ∀ w', Mv (fun _ => False) x7 w' → Cl w' ⟨p, 0 + 7, none⟩ (.int .u32 h.src) := fun w' m => (hb5.moved m fun e => e).cl rfl
  have F8 : ∀ w', Mv (fun _ => False) x7 w' → Cl w' ⟨p, 0 + 8, none⟩ (.int .u32 h.dst) := fun w' m => (hb5.moved m fun e => e).cl rfl
  have F9 : ∀ w', Mv (fun _ => False) x7 w' → Cl w' ⟨p, 0 + 9, none⟩ (.string h.o) := fun w' m => (hb5.moved m fun e => e).cl rfl
  have k7 : Kn (IntKind.i64.wrap h.src) h.src := i64k (by have := ok.src; omega)
  have k8 : Kn (IntKind.i64.wrap h.dst) h.dst := i64k (by have := ok.dst; omega)
  refine W.seq (W.held mixed (fun w' => Mv (fun _ => False) x7 w') [] 13 rfl (fun w' s => (Mv.refl _ x7).same s) ?_)
  intro y0 s0
  have m0 : Mv (fun _ => False) x7 y0 := (Mv.refl _ x7).same s0
  apply H.takesK LO true [1, 8, 64, 68, 72] [0, 1, 2, 4, 5, 6, 9, 10] (k := 5) rfl (by kernel_rfl)
  · repeat' (first | rfl | with_reducible assumption | assumption | (intro w' hw'; replace hw' := hw' rfl; have h0' := F7 w' hw'; have h1' := F8 w' hw'; have h2' := F9 w' hw') | constructor)
  intro g_ hg_
  replace hg_ : g_ = [(1, _), (8, _), (64, _), (68, _), (72, _)] := hg_
  subst hg_
  refine H.only (i := 3) rfl (by kernel_rfl) ?_
  refine Ls.call LO rfl rfl rfl rfl rfl (vs := [.int .i64 h.src, .int .i64 4]) rfl (rbig_walk h.src 4 y0 (by decide)) ?_
  rintro _ y1' ⟨rfl, n1⟩
  have n1 := m0.trans n1
  refine ⟨_, rfl, Ls.nil (N.goOn (fun _ => n1) ?_)⟩
  refine H.only (i := 7) rfl (by kernel_rfl) ?_
  refine Ls.call LO rfl rfl rfl rfl rfl (vs := [.int .i64 h.dst, .int .i64 4]) rfl (rbig_walk h.dst 4 y1' (by decide)) ?_
  rintro _ y2' ⟨rfl, n2⟩
  have n2 := n1.trans n2
  refine ⟨_, rfl, Ls.nil (N.goOn (fun _ => n2) ?_)⟩
  have z1 := sz2 (szb h.src 4) (szb h.dst 4) (by decide)
  have z2 := sz2 (szap (szb h.src 4) (szb h.dst 4)) g12 (by decide)
  have q1 := szap (szap (szb h.src 4) (szb h.dst 4)) g12
  apply H.takesK LO false [1, 8, 9] [8, 11, 12] (k := 0) rfl (by kernel_rfl)
  · repeat' (first | rfl | with_reducible assumption | assumption | (intro w' hw'; replace hw' := True.intro) | constructor)
  intro g_ hg_
  replace hg_ : g_ = [(1, _), (8, _), (9, _)] := hg_
  subst hg_
  refine H.done (by kernel_rfl) (N.to ?_)
  have hbk : bigS h.src 4 ++ bigS h.dst 4 ++ h.o = backI h.src h.dst h.o := rfl
  rw [hbk] at q1
  rw [hbk]
  have m6 := m5.trans n2
  clear F7 F8 F9 k7 k8 m0 n1 n2 s0 z1 z2 hb5 m5 hbk
  -- all of it
  obtain ⟨A, hA⟩ : ∃ A, A = h.front body.size := ⟨_, rfl⟩
  obtain ⟨B, hB⟩ : ∃ B, B = backI h.src h.dst h.o := ⟨_, rfl⟩
  rw [← hA] at y6
  rw [← hB] at q1
  rw [← hA, ← hB]
  have c2 : (⟨#[0, 0]⟩ : ByteArray).size ≤ 2 := by decide
  have z1 := sz2 y6 c2 (by decide)
  have z2' := sz2 (szap y6 c2) q1 (by decide)
  have q2 := szap (szap y6 c2) q1
  refine W.seq (W.list ?_)
  apply Ls.runK LO [1, 9, 74, 78] 5
  · repeat' (first | rfl | with_reducible assumption | assumption | constructor)
  intro u1 e1 r1 he1
  replace he1 : e1 = [(1, _), (9, _), (74, _), (78, _)] := he1
  subst he1
  have hcl : (A ++ (⟨#[0, 0]⟩ : ByteArray) ++ B).data.toList = A.data.toList ++ (Nt.z2.data.toList ++ B.data.toList) := by rw [app_list, app_list, List.append_assoc]; rfl
  obtain ⟨X, hX⟩ : ∃ X, X = A ++ (⟨#[0, 0]⟩ : ByteArray) ++ B := ⟨_, rfl⟩
  rw [← hX] at q2 hcl
  rw [← hX]
  refine Ls.call LO rfl rfl rfl rfl rfl (vs := [.string X]) rfl (rof_says X u1 (Nat.le_trans q2 (by decide))) ?_
  rintro _ u3 ⟨rfl, r3⟩
  refine ⟨_, rfl, ?_⟩
  rw [hcl]
  obtain ⟨S_, hS⟩ : ∃ S_, S_ = sumOf (A.data.toList ++ (Nt.z2.data.toList ++ B.data.toList)) := ⟨_, rfl⟩
  rw [← hS]
  refine Ls.call LO rfl rfl rfl rfl rfl (vs := [.int .i64 S_, .int .i64 2]) rfl (rbig_walk S_ 2 u3 (by decide)) ?_
  rintro _ u4 ⟨rfl, l4⟩
  refine ⟨_, rfl, ?_⟩
  have m8 := ((m6.same r1).same r3).trans l4
  have z1 := sz2 y6 (szb S_ 2) (by decide)
  have z2' := sz2 (szap y6 (szb S_ 2)) q1 (by decide)
  have z3 := sz2 (szap (szap y6 (szb S_ 2)) q1) hbs (by decide)
  apply Ls.runK LO [4, 5] 7
  · repeat' (first | rfl | with_reducible assumption | assumption | constructor)
  intro u5 e5 r5 he5
  replace he5 : e5 = [(4, _), (5, _)] := he5
  subst he5
  refine Ls.nil (N.to (W.ret (fin (A ++ bigS S_ 2 ++ B ++ body, 0) _ _ ?_ (m8.same r5) rfl rfl)))
  unfold IpV.put putI
  rw [if_pos hck', if_neg (by omega), hS, hA, hB]
  rfl
end Go.Proofs.Ytbidgeaigiijpaa
