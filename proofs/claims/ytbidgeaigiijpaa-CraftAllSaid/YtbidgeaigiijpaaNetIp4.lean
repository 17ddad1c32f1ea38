/- What is proved: what Get of datagrams gives. Conditions: those that stand in each theorem. -/
import Derived.Test.YtbidgeaigiijpaaNetIp3
import Derived.Test.YtbidgeaigiijpaaFwPend
namespace Go.Proofs.Ytbidgeaigiijpaa
set_option linter.unusedVariables false
set_option linter.unusedSimpArgs false
set_option linter.unusedSectionVars false
open Go.RowKit Fw Nt
def ipZ : IpV := ⟨0, 0, false, false, 0, 0, 0, 0, 0, ⟨#[]⟩⟩
def gotOf (g : GotI) : IpV × ByteArray × Int := (⟨g.1, g.2.1, g.2.2.1, g.2.2.2.1, g.2.2.2.2.1, g.2.2.2.2.2.1, g.2.2.2.2.2.2.1, g.2.2.2.2.2.2.2.1, g.2.2.2.2.2.2.2.2.1, g.2.2.2.2.2.2.2.2.2.1⟩, g.2.2.2.2.2.2.2.2.2.2.1, g.2.2.2.2.2.2.2.2.2.2.2)
def GotP (w : World) (r : IpV × ByteArray × Int) (e : Ending) (w' : World) : Prop := e = .returned (.tuple #[.agg r.1.cs.toArray, .string r.2.1, .int .i64 r.2.2]) ∧ Mv (fun _ => False) w w'
set_option maxRecDepth 100000 in
set_option maxHeartbeats 16000000 in
theorem iget_walk (s : ByteArray) (w : World) (hs : s.size ≤ 1000000000000000) : Calls Try.prog 12 #[.string s] w (GotP w (gotOf (getI s))) := by
  refine calls_W (n := 67) (vs := [.string s]) Try.func12 rfl rfl rfl ?_
  refine W.seq (W.list ?_)
  refine Ls.alloc LO rfl rfl rfl rfl (zs := ipZ.cs) rfl ?_
  have hb1 : BX (w.alloc (.cells ipZ.cs.toArray 28)) w.heap.size 28 ipZ.cs := heap_alloc_new w (.cells ipZ.cs.toArray 28)
  have m1 : Mv (fun _ => False) w (w.alloc (.cells ipZ.cs.toArray 28)) := (Mv.refl _ w).alloc _
  generalize w.alloc (.cells ipZ.cs.toArray 28) = w1 at hb1 m1
  obtain ⟨p, hp⟩ : ∃ p, p = w.heap.size := ⟨_, rfl⟩
  rw [← hp] at hb1
  rw [← hp]
  apply Ls.runK LO [0, 2] 2
  · repeat' (first | rfl | with_reducible assumption | assumption | constructor)
  intro w2 f2 s2 hf2
  replace hf2 : f2 = [(0, _), (2, _)] := hf2
  subst hf2
  refine Ls.nil (N.to ?_)
  have m2 := m1.same s2
  have hb2 := hb1.same s2
  clear m1 hb1 s2
  have fin : ∀ (r : IpV × ByteArray × Int) w' f, r = gotOf (getI s) → Mv (fun _ => False) w w' → BX w' p 28 r.1.cs → fget f 2 = some (.pointer (some ⟨p, 0, none⟩)) → fget f 3 = some (.string r.2.1) → fget f 4 = some (.int .i64 r.2.2) → N 67 f w' (bodyPost Try.prog Try.f12 (GotP w (gotOf (getI s)))) .ret := fun r w' f e m hb h2 h3 h4 => by
    have hl : CellsAt w' p 0 10 r.1.cs := hb.cells
    exact post LO (rs := [.cell 2 28, .tmp 3, .tmp 4]) rfl (vs := [.agg r.1.cs.toArray, .string r.2.1, .int .i64 r.2.2]) (.cell h2 rfl (.agg hl) (.tmp h3 (.tmp h4 .nil))) ⟨by rw [e]; rfl, m⟩
  refine W.cutS (fun w' g => (Mv (fun _ => False) w w' ∧ BX w' p 28 ipZ.cs ∧ g = [(0, .string s), (2, .pointer (some ⟨p, 0, none⟩))]) ∧ wrongI s = 0) ?_ ?_
  · refine W.seq (W.list ?_)
    refine Ls.call LO rfl rfl rfl rfl rfl (vs := []) rfl (checks_walk w2) ?_
    rintro _ w3 ⟨v, rfl, hr3, m3⟩
    refine ⟨_, rfl, ?_⟩
    have hb3 := hb2.moved m3 fun e => e
    have m3 := m2.trans m3
    obtain ⟨a, c, hv⟩ := hr3.len
    subst hv
    apply Ls.runK LO [0, 2, 9, 10, 11] 2
    · repeat' (first | rfl | with_reducible assumption | assumption | constructor)
    intro w4 f4 s4 hf4
    replace hf4 : f4 = [(0, _), (2, _), (9, _), (10, _), (11, _)] := hf4
    subst hf4
    refine Ls.nil (N.to ?_)
    have m4 := m3.same s4
    have hb4 := hb3.same s4
    have hr4 := hr3.moved ((Mv.refl _ w3).same s4)
    clear m2 hb2 m3 hb3 hr3 s4
    refine W.block (W.loop (fun k w' g => ∃ i : Nat, k + i = 8 ∧ (∀ j, j < i → ckB s j = false) ∧ Mv (fun _ => False) w4 w' ∧ g = [(0, .string s), (2, .pointer (some ⟨p, 0, none⟩)), (9, .slice a ckL.length c), (10, .int .i64 (8 : Nat)), (11, .int .i64 i)]) 8 _ ⟨0, rfl, fun j hj => absurd hj (Nat.not_lt_zero j), Mv.refl _ _, rfl⟩ (sub_keys rfl) ?_)
    rintro k w5 _ ⟨i, hk, hpre, m5, rfl⟩
    by_cases hlt : i < 8
    · have k1 : Kn (decide ((i : Int) < ((8 : Nat) : Int))) true := .yes (by omega)
      apply W.readS LO mixed [0, 2, 9, 10, 11, 12] (by kernel_rfl)
      · repeat' (first | rfl | with_reducible assumption | assumption | constructor)
      intro w6 f6 s6 hf6
      replace hf6 : f6 = [(0, _), (2, _), (9, _), (10, _), (11, _), (12, _)] := hf6
      subst hf6
      have m6 := m5.same s6
      clear m5 s6 k1
      refine W.seq (W.cond (b := true) rfl (fun _ => W.skip (N.to ?_)) (fun h => by cases h))
      obtain ⟨x, hx⟩ : ∃ x, ckL[i]? = some x := ⟨_, List.getElem?_eq_getElem hlt⟩
      have hxl := List.mem_of_getElem? hx
      refine W.cutS (fun w' g => (Mv (fun _ => False) w4 w' ∧ g = [(0, .string s), (2, .pointer (some ⟨p, 0, none⟩)), (9, .slice a ckL.length c), (10, .int .i64 (8 : Nat)), (11, .int .i64 i)]) ∧ ckB s i = false) ?_ ?_
      · refine W.block ?_
        obtain ⟨b, o, c', hv', hcell⟩ := (hr4.moved m6).at ckcs_len (by decide) hx
        injection hv' with ea _ ec
        subst ea ec
        have i0 : (0 : Int) ≤ (i : Int) := by omega
        have i1 : (i : Int) < ((ckL.length : Nat) : Int) := by show (i : Int) < 8; omega
        refine W.seq (W.list ?_)
        apply Ls.runK LO [0, 2, 9, 10, 11, 14] 2
        · repeat' (first | rfl | with_reducible assumption | assumption | constructor)
        intro w7 f7 s7 hf7
        replace hf7 : f7 = [(0, _), (2, _), (9, _), (10, _), (11, _), (14, _)] := hf7
        subst hf7
        have m7 := m6.same s7
        clear hcell m6 s7
        refine Ls.alloc LO rfl rfl rfl rfl (zs := [.nilFunc, .int .i64 0]) rfl ?_
        have hq8 := heap_alloc_new w7 (.cells [Value.nilFunc, .int .i64 0].toArray 71)
        have m8 : Mv (fun _ => False) w7 (w7.alloc (.cells [Value.nilFunc, .int .i64 0].toArray 71)) := (Mv.refl _ w7).alloc _
        generalize w7.alloc (.cells [Value.nilFunc, .int .i64 0].toArray 71) = w8 at hq8 m8
        obtain ⟨q, hq⟩ : ∃ q, q = w7.heap.size := ⟨_, rfl⟩
        rw [← hq] at hq8
        rw [← hq]
        refine Ls.store LO rfl rfl rfl rfl rfl (vs := ckcs x) rfl rfl rfl hq8 rfl ?_
        intro w9 hq9 m9 _
        have hq9 : BX w9 q 71 (ckcs x) := hq9
        have m9 : Mv (fun _ => False) w4 w9 := m7.trans (m8.cut m9 fun k hk e => by omega)
        refine Ls.nil (N.to ?_)
        clear hq8 m8 m7 hq
        refine W.seq (W.list ?_)
        have d1 : Cl w9 ⟨q, 0 + 0, none⟩ (.func (.func x.1) #[] #[]) := hq9.cl rfl
        apply Ls.runK LO [0, 2, 6, 9, 10, 11, 16, 17] 3
        · repeat' (first | rfl | with_reducible assumption | assumption | constructor)
        intro w10 f10 s10 hf10
        replace hf10 : f10 = [(0, _), (2, _), (6, _), (9, _), (10, _), (11, _), (16, _), (17, _)] := hf10
        subst hf10
        have m10 := m9.same s10
        have hq10 := hq9.same s10
        refine Ls.callF LO rfl rfl rfl (by
          simp only [ckL, List.mem_cons, List.not_mem_nil, or_false] at hxl
          rcases hxl with rfl | rfl | rfl | rfl | rfl | rfl | rfl | rfl <;> rfl) rfl rfl (vs := [.string s]) rfl (ck_walk s i x hx hpre w10) ?_
        rintro _ w11 ⟨rfl, m11⟩
        refine ⟨_, rfl, Ls.nil (N.to ?_)⟩
        have hq11 := hq10.moved m11 fun e => e
        have m11 := m10.trans m11
        clear d1 m9 hq9 s10 m10 hq10
        cases hck : ckB s i with
        | false =>
          refine W.cond (b := false) rfl (fun h => by cases h) (fun _ => W.skip ?_)
          exact N.inb (N.cut ⟨⟨m11, rfl⟩, rfl⟩ (sub_keys rfl))
        | true =>
          have hw := wrong_at s i x hx hpre hck
          have e : (ipZ, (⟨#[]⟩ : ByteArray), x.2) = gotOf (getI s) := by
            have hne : ¬ x.2 = 0 := by
              simp only [ckL, List.mem_cons, List.not_mem_nil, or_false] at hxl
              rcases hxl with rfl | rfl | rfl | rfl | rfl | rfl | rfl | rfl <;> (intro h; cases h)
            unfold getI
            rw [hw, if_neg hne]
            rfl
          refine W.cond (b := true) rfl (fun _ => ?_) (fun h => by cases h)
          have hb11 : BX w11 p 28 ipZ.cs := hb4.moved m11 fun e => e
          have F1 : ∀ w', Mv (· = p) w11 w' → Cl w' ⟨q, 0 + 1, none⟩ (.int .i64 x.2) := fun w' m => (hq11.moved m (fun e => by
            have h1 := hb11
            have h2 := hq11
            unfold BX at h1 h2
            rw [e, h1] at h2
            injection h2 with h2
            injection h2 with _ h3
            exact absurd h3 (by decide))).cl rfl
          refine W.seq (W.held mixed (fun w' => Mv (· = p) w11 w') [] 6 rfl (fun w' s => (Mv.refl _ w11).same s) ?_)
          intro w12 s12
          apply H.takesK LO true [2, 19, 21] [0, 1, 2] (k := 3) rfl (by kernel_rfl)
          · repeat' (first | rfl | with_reducible assumption | assumption | (intro w' hw'; replace hw' := hw' rfl; have h0' := F1 w' hw') | constructor)
          intro g_ hg_
          replace hg_ : g_ = [(2, _), (19, _), (21, _)] := hg_
          subst hg_
          refine H.only (i := 3) rfl (by kernel_rfl) ?_
          refine Ls.store LO rfl rfl rfl rfl rfl (vs := ipZ.cs) rfl rfl rfl (hb11.same s12) rfl ?_
          intro w13 hb13 m13 _
          have hb13 : BX w13 p 28 ipZ.cs := hb13
          refine Ls.nil (N.goOn (fun _ => ((Mv.refl _ w11).same s12).trans m13) ?_)
          apply H.takesK LO false [2, 3, 4] [4, 5] (k := 0) rfl (by kernel_rfl)
          · repeat' (first | rfl | with_reducible assumption | assumption | (intro w' hw'; replace hw' := True.intro) | constructor)
          intro g_ hg_
          replace hg_ : g_ = [(2, _), (3, _), (4, _)] := hg_
          subst hg_
          refine H.done (by kernel_rfl) (N.to ?_)
          exact W.ret (N.inbR (N.thenR (N.thenR (N.inbR (N.thenR (fin _ _ _ e (((m4.trans m11).same s12).cut m13 fun k hk e => by omega) hb13 rfl rfl rfl))))))
      · clear m6
        rintro w7 _ ⟨⟨m7, rfl⟩, hck⟩
        have k9 : Kn (IntKind.i64.wrap ((i : Int) + 1)) ((i + 1 : Nat) : Int) := i64k (by omega)
        apply W.readN LO mixed [0, 2, 9, 10, 11] (by kernel_rfl)
        · repeat' (first | rfl | with_reducible assumption | assumption | constructor)
        intro w8 f8 s8 hf8
        replace hf8 : f8 = [(0, _), (2, _), (9, _), (10, _), (11, _)] := hf8
        subst hf8
        refine N.round (k - 1) _ (by omega) ⟨i + 1, by omega, fun j hj => ?_, m7.same s8, rfl⟩ (sub_keys rfl)
        by_cases e : j = i
        · rw [e]; exact hck
        · exact hpre j (by omega)
    · have k1 : Kn (decide ((i : Int) < ((8 : Nat) : Int))) false := .no (by omega)
      apply W.readS LO mixed [0, 2, 12] (by kernel_rfl)
      · repeat' (first | rfl | with_reducible assumption | assumption | constructor)
      intro w6 f6 s6 hf6
      replace hf6 : f6 = [(0, _), (2, _), (12, _)] := hf6
      subst hf6
      refine W.seq (W.cond (b := false) rfl (fun h => by cases h) (fun _ => W.exit ?_))
      obtain rfl : i = 8 := by omega
      exact N.thenE (N.thenE (N.out (N.cut ⟨⟨m4.trans (m5.same s6), hb4.moved (m5.same s6) fun e => e, rfl⟩, wrong_no s hpre⟩ (sub_keys rfl))))
  clear m2 hb2
  rintro w3 _ ⟨⟨m3, hb3, rfl⟩, hw0⟩
  obtain ⟨h20, h4_, hl20, hls, hla, has_, h6_, h2000, _⟩ := wrongI_zero hw0
  -- the word that tells how it is cut
  refine W.seq (W.list ?_)
  have b6 : (0 : Int) ≤ 6 := by decide
  have b68 : (6 : Int) ≤ 8 := by decide
  have b8 : (8 : Int) ≤ (s.size : Int) := by omega
  apply Ls.runK LO [0, 2, 24] 2
  · repeat' (first | rfl | with_reducible assumption | assumption | constructor)
  intro w4 f4 s4 hf4
  replace hf4 : f4 = [(0, _), (2, _), (24, _)] := hf4
  subst hf4
  have m4 := m3.same s4
  refine Ls.call LO rfl rfl rfl rfl rfl (vs := [.string (s.extract 6 8)]) rfl (num_walk (s.extract 6 8) w4 (by simp; omega)) ?_
  rintro _ w5 ⟨rfl, m5⟩
  have hb5 := (hb3.same s4).moved m5 fun e => e
  have m5 := m4.trans m5
  refine ⟨_, rfl, ?_⟩
  obtain ⟨C, hC⟩ : ∃ C, C = numOf (s.extract 6 8) := ⟨_, rfl⟩
  rw [← hC]
  apply Ls.runK LO [0, 2, 7] 1
  · repeat' (first | rfl | with_reducible assumption | assumption | constructor)
  intro w6 f6 s6 hf6
  replace hf6 : f6 = [(0, _), (2, _), (7, _)] := hf6
  subst hf6
  refine Ls.nil (N.to ?_)
  have m6 := m5.same s6
  have hb6 := hb5.same s6
  clear m3 hb3 s4 m4 hb5 m5 s6
  -- the head
  have hCr : 0 ≤ C ∧ C ≤ 65535 := by
    have := numOf_range (s.extract 6 8) 2 (by simp; omega) (by decide)
    rw [show (256 : Int) ^ 2 = 65536 from rfl] at this
    omega
  obtain ⟨R, hR⟩ : ∃ R : IpV × ByteArray × Int, R = gotOf (getI s) := ⟨_, rfl⟩
  have hok : getI s = okI s := by unfold getI; rw [if_pos hw0]
  obtain ⟨x31, hx31⟩ : ∃ x, x = numOf (s.extract 4 6) := ⟨_, rfl⟩
  obtain ⟨x49, hx49⟩ : ∃ x, x = numOf (s.extract 12 16) := ⟨_, rfl⟩
  obtain ⟨x53, hx53⟩ : ∃ x, x = numOf (s.extract 16 20) := ⟨_, rfl⟩
  obtain ⟨o_, ho_⟩ : ∃ o_, o_ = s.extract 20 (lenI s) := ⟨_, rfl⟩
  obtain ⟨b1, hb1⟩ : ∃ b1, b1 = (bits .and .i64 C 8192 != 0) := ⟨_, rfl⟩
  obtain ⟨b2, hb2⟩ : ∃ b2, b2 = (bits .and .i64 C 16384 != 0) := ⟨_, rfl⟩
  obtain ⟨x40, hx40⟩ : ∃ x, x = IntKind.i64.wrap (bits .and .i64 C 8191 * 8) := ⟨_, rfl⟩
  have hRv : R = (⟨bt s 1, x31, b1, b2, x40, bt s 8, bt s 9, x49 % 4294967296, x53 % 4294967296, o_⟩, s.extract (lenI s) (allI s).toNat, 0) := by
    rw [hR, hok, hx31, hx49, hx53, ho_, hb1, hb2, hx40, hC]
    unfold okI gotOf cutOf wrap64
    rw [IntKind.wrap_i64]
  have r1 := bt_range s 1
  have r8 := bt_range s 8
  have r9 := bt_range s 9
  have g1 : (0 : Int) ≤ 1 := by decide
  have g1' : (1 : Int) < (s.size : Int) := by omega
  have g8' : (8 : Int) < (s.size : Int) := by omega
  have g8 : (0 : Int) ≤ 8 := by decide
  have g9 : (0 : Int) ≤ 9 := by decide
  have g9' : (9 : Int) < (s.size : Int) := by omega
  have c4 : (0 : Int) ≤ 4 := by decide
  have c46 : (4 : Int) ≤ 6 := by decide
  have c6 : (6 : Int) ≤ (s.size : Int) := by omega
  have c12 : (0 : Int) ≤ 12 := by decide
  have c1216 : (12 : Int) ≤ 16 := by decide
  have c16 : (16 : Int) ≤ (s.size : Int) := by omega
  have c16' : (0 : Int) ≤ 16 := by decide
  have c1620 : (16 : Int) ≤ 20 := by decide
  have c20 : (20 : Int) ≤ (s.size : Int) := by omega
  have k1 : Kn (IntKind.i64.wrap (bt s 1)) (bt s 1) := i64k (by omega)
  have k8 : Kn (IntKind.i64.wrap (bt s 8)) (bt s 8) := i64k (by omega)
  have k9 : Kn (IntKind.i64.wrap (bt s 9)) (bt s 9) := i64k (by omega)
  have kb1 : Kn (bits .and .i64 C 8192 != 0) b1 := .of hb1.symm
  have kb2 : Kn (bits .and .i64 C 16384 != 0) b2 := .of hb2.symm
  have k40 : Kn (IntKind.i64.wrap (bits .and .i64 C 8191 * 8)) x40 := .of hx40.symm
  refine W.cutS (fun w' g => ∃ q : Nat, (Mv (fun _ => False) w6 w' ∧ w6.heap.size ≤ q ∧ BX w' q 28 R.1.cs) ∧ g = [(0, .string s), (2, .pointer (some ⟨p, 0, none⟩)), (8, .pointer (some ⟨q, 0, none⟩))]) ?_ ?_
  · refine W.held mixed (fun w' => Mv (fun _ => False) w6 w') [] 36 rfl (fun w' s => (Mv.refl _ w6).same s) ?_
    intro w7 s7
    apply H.takesK LO true [0, 2, 28, 30, 34, 37, 40, 43, 46, 48, 52, 55, 56] [0, 1, 2, 3, 4, 6, 7, 8, 9, 10, 11, 12, 13, 14, 15, 16, 17, 18, 19, 20, 21, 22, 25, 26, 29, 30] (k := 10) rfl (by kernel_rfl)
    · repeat' (first | rfl | with_reducible assumption | assumption | (intro w' hw'; replace hw' := hw' rfl) | constructor)
    intro g_ hg_
    replace hg_ : g_ = [(0, _), (2, _), (28, _), (30, _), (34, _), (37, _), (40, _), (43, _), (46, _), (48, _), (52, _), (55, _), (56, _)] := hg_
    subst hg_
    have m7 : Mv (fun _ => False) w6 w7 := (Mv.refl _ w6).same s7
    have hSc : ∀ w1 w2, Mv (fun _ => False) w6 w1 → Mv (fun _ => False) w1 w2 → Mv (fun _ => False) w6 w2 := fun _ _ a b => a.trans b
    have kw1 : Kn (IntKind.u32.wrap x49) (x49 % 4294967296) := .of (by rw [IntKind.wrap_u32])
    have kw2 : Kn (IntKind.u32.wrap x53) (x53 % 4294967296) := .of (by rw [IntKind.wrap_u32])
    have q0 : (0 : Int) ≤ 20 := by decide
    have q1 : (20 : Int) ≤ ((lenI s : Nat) : Int) := by omega
    have q2 : ((lenI s : Nat) : Int) ≤ (s.size : Int) := by omega
    refine HP.start (ia := 34) (dA := 8) (zs := ipZ.cs) (T := 28) (z := w6.heap.size) (k := 9) ?_ m7
    refine HP.only LO (c := 5) (dc := 31) rfl rfl rfl rfl rfl rfl rfl (Or.inl (by kernel_rfl)) (by kernel_rfl) rfl rfl rfl m7.size hSc (R := fun v _ => v = (.int .i64 x31)) (fun f' w' hsub m hS => Ls.step LO rfl rfl rfl rfl rfl (vs := [.string (s.extract 4 6)]) (hsub.fevals rfl) (by rw [hx31]; exact num_walk (s.extract 4 6) w' (by simp; omega))) ?_
    rintro _ w8 rfl m8
    have m8 := m7.trans m8
    refine HP.only LO (c := 23) (dc := 49) rfl rfl rfl rfl rfl rfl rfl (Or.inl (by kernel_rfl)) (by kernel_rfl) rfl rfl rfl m8.size hSc (R := fun v _ => v = (.int .i64 x49)) (fun f' w' hsub m hS => Ls.step LO rfl rfl rfl rfl rfl (vs := [.string (s.extract 12 16)]) (hsub.fevals rfl) (by rw [hx49]; exact num_walk (s.extract 12 16) w' (by simp; omega))) ?_
    rintro _ w9 rfl m9
    have m9 := m8.trans m9
    apply HP.takes LO true [0, 2, 28, 30, 31, 34, 37, 40, 43, 46, 50, 52, 55, 56] [24] (k := 6) rfl (by kernel_rfl)
    · repeat' (first | rfl | with_reducible assumption | assumption | (intro w' hw'; replace hw' := hw' rfl) | constructor)
    intro g_ hg_
    replace hg_ : g_ = [(0, _), (2, _), (28, _), (30, _), (31, _), (34, _), (37, _), (40, _), (43, _), (46, _), (50, _), (52, _), (55, _), (56, _)] := hg_
    subst hg_
    refine HP.only LO (c := 27) (dc := 53) rfl rfl rfl rfl rfl rfl rfl (Or.inl (by kernel_rfl)) (by kernel_rfl) rfl rfl rfl m9.size hSc (R := fun v _ => v = (.int .i64 x53)) (fun f' w' hsub m hS => Ls.step LO rfl rfl rfl rfl rfl (vs := [.string (s.extract 16 20)]) (hsub.fevals rfl) (by rw [hx53]; exact num_walk (s.extract 16 20) w' (by simp; omega))) ?_
    rintro _ w10 rfl m10
    have m10 := m9.trans m10
    apply HP.takes LO true [0, 2, 28, 30, 31, 34, 37, 40, 43, 46, 50, 54, 55, 56] [28] (k := 4) rfl (by kernel_rfl)
    · repeat' (first | rfl | with_reducible assumption | assumption | (intro w' hw'; replace hw' := hw' rfl) | constructor)
    intro g_ hg_
    replace hg_ : g_ = [(0, _), (2, _), (28, _), (30, _), (31, _), (34, _), (37, _), (40, _), (43, _), (46, _), (50, _), (54, _), (55, _), (56, _)] := hg_
    subst hg_
    refine HP.only LO (c := 31) (dc := 57) rfl rfl rfl rfl rfl rfl rfl (Or.inl (by kernel_rfl)) (by kernel_rfl) rfl rfl rfl m10.size hSc (R := fun v _ => v = (.int .i64 (lenI s))) (fun f' w' hsub m hS => Ls.step LO rfl rfl rfl rfl rfl (vs := [.string s]) (hsub.fevals rfl) ((size_says s w' (by omega)).mono fun e w'' h => ⟨h.1, (Mv.refl _ w').same h.2⟩)) ?_
    rintro _ w11 rfl m11
    have m11 := m10.trans m11
    apply HP.takes LO true [0, 2, 59] [32, 33] (k := 1) rfl (by kernel_rfl)
    · repeat' (first | rfl | with_reducible assumption | assumption | (intro w' hw'; replace hw' := hw' rfl) | constructor)
    intro g_ hg_
    replace hg_ : g_ = [(0, _), (2, _), (59, _)] := hg_
    subst hg_
    refine HP.fin LO (oa := _) rfl rfl rfl rfl rfl rfl (by kernel_rfl) m11.size hSc ?_
    rintro w12 q m12 _ ⟨hzq, hq⟩
    have m12 := m11.trans m12
    refine H.only (i := 35) rfl (by kernel_rfl) ?_
    refine Ls.store LO rfl rfl rfl rfl rfl (vs := R.1.cs) (by rw [hRv, ho_]; rfl) rfl rfl hq rfl ?_
    intro w13 hq13 m13 _
    have hq13 : BX w13 q 28 R.1.cs := hq13
    have m13 : Mv (fun _ => False) w6 w13 := m12.cut m13 fun k hk e => by omega
    refine Ls.nil (N.goOn (fun _ => m13) ?_)
    exact H.done (by kernel_rfl) (N.cut ⟨q, ⟨m13, hzq, hq13⟩, rfl⟩ (sub_keys rfl))
  clear k1 k8 k9 kb1 kb2 k40
  rintro w7 _ ⟨q, ⟨m7', hzq, hq7⟩, rfl⟩
  have hb7 := hb6.moved m7' fun e => e
  have m7 := m6.trans m7'
  have hpq : p < q := by have := hb6.lt; omega
  -- the end
  have F1 : ∀ w', Mv (fun _ => False) w7 w' → CellsAt w' q 0 10 R.1.cs := fun w' m => (hq7.moved m fun e => e).cells
  refine W.seq (W.held mixed (fun w' => Mv (fun _ => False) w7 w') [7] 10 rfl (fun w' s => (Mv.refl _ w7).same s) ?_)
  intro w8 s8
  apply H.takesK LO true [0, 2, 60] [0] (k := 9) rfl (by kernel_rfl)
  · repeat' (first | rfl | with_reducible assumption | assumption | (intro w' hw'; replace hw' := hw' rfl; have h0' := F1 w' hw') | constructor)
  intro g_ hg_
  replace hg_ : g_ = [(0, _), (2, _), (60, _)] := hg_
  subst hg_
  apply H.takesK LO false [2, 60, 61, 62, 64] [1, 2, 4] (k := 6) rfl (by kernel_rfl)
  · repeat' (first | rfl | with_reducible assumption | assumption | (intro w' hw'; replace hw' := True.intro) | constructor)
  intro g_ hg_
  replace hg_ : g_ = [(2, _), (60, _), (61, _), (62, _), (64, _)] := hg_
  subst hg_
  have m8 : Mv (fun _ => False) w7 w8 := (Mv.refl _ w7).same s8
  refine H.only (i := 3) rfl (by kernel_rfl) ?_
  refine Ls.call LO rfl rfl rfl rfl rfl (vs := [.string s]) rfl (size_says s w8 (by omega)) ?_
  rintro _ w9 ⟨rfl, s9⟩
  have m9 := m8.same s9
  refine ⟨_, rfl, Ls.nil (N.goOn (fun _ => m9) ?_)⟩
  refine H.only (i := 5) rfl (by kernel_rfl) ?_
  refine Ls.call LO rfl rfl rfl rfl rfl (vs := [.string s]) rfl (all_walk s w9 (by omega)) ?_
  rintro _ w10 ⟨rfl, m10⟩
  have m10 := m9.trans m10
  refine ⟨_, rfl, Ls.nil (N.goOn (fun _ => m10) ?_)⟩
  have l0 : (0 : Int) ≤ ((lenI s : Nat) : Int) := by omega
  have l1 : ((lenI s : Nat) : Int) ≤ allI s := hla
  have l2 : allI s ≤ (s.size : Int) := has_
  apply H.takesK LO false [2, 60, 66] [6] (k := 3) rfl (by kernel_rfl)
  · repeat' (first | rfl | with_reducible assumption | assumption | (intro w' hw'; replace hw' := True.intro) | constructor)
  intro g_ hg_
  replace hg_ : g_ = [(2, _), (60, _), (66, _)] := hg_
  subst hg_
  refine H.only (i := 7) rfl (by kernel_rfl) ?_
  refine Ls.store LO rfl rfl rfl rfl rfl (vs := R.1.cs) rfl rfl rfl (hb7.moved m10 fun e => e) rfl ?_
  intro w11 hb11 m11 _
  have hb11 : BX w11 p 28 R.1.cs := hb11
  refine Ls.nil (N.goOn (fun hint => absurd (show true = false from hint 7 List.mem_cons_self) (by decide)) ?_)
  apply H.takesK LO false [2, 3, 4] [8, 9] (k := 0) rfl (by kernel_rfl)
  · repeat' (first | rfl | with_reducible assumption | assumption | (intro w' hw'; replace hw' := True.intro) | constructor)
  intro g_ hg_
  replace hg_ : g_ = [(2, _), (3, _), (4, _)] := hg_
  subst hg_
  refine H.done (by kernel_rfl) (N.to ?_)
  have e2 : R.2.1 = s.extract (((lenI s : Nat) : Int)).toNat (allI s).toNat := by rw [hRv, Int.toNat_natCast]
  have e3 : R.2.2 = 0 := by rw [hRv]
  exact W.ret (fin R _ _ hR ((m7.trans m10).cut m11 fun k hk e => by omega) hb11 rfl (by rw [e2]; rfl) (by rw [e3]; rfl))
end Go.Proofs.Ytbidgeaigiijpaa
