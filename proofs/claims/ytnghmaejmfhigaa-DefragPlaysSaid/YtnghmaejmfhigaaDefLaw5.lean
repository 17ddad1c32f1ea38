/- What is proved: the law of plays. Conditions: those that stand in each theorem. -/
import Derived.Test.YtnghmaejmfhigaaDefPlay2
namespace Go.Proofs.Ytnghmaejmfhigaa
set_option linter.unusedVariables false
set_option linter.unusedSimpArgs false
set_option linter.unusedSectionVars false
open Go.RowKit Go.Maps Go.MapKept Go.ChangeMaps Fw
set_option maxRecDepth 100000 in
set_option maxHeartbeats 8000000 in
theorem plays_walk (most0 ticks0 : Int) (a : Option Addr) (cap : Nat) (l : List OpV) (w : World) (hrow : OpRow w a l) (hok : ∀ x ∈ l, OpOk x) :
    Calls Try.prog 7 #[.int .i64 most0, .int .i64 ticks0, .slice a l.length cap] w (Yes w) := by
  refine calls_W (n := 126) (vs := [.int .i64 most0, .int .i64 ticks0, .slice a l.length cap]) Try.func7 rfl rfl rfl ?_
  apply W.readS LO mixed [0, 1, 2] (by kernel_rfl)
  · repeat' (first | rfl | with_reducible assumption | assumption | constructor)
  intro w1 f1 s1 hf1
  replace hf1 : f1 = [(0, _), (1, _), (2, _)] := hf1
  subst hf1
  refine W.seq (W.list ?_)
  apply Ls.runK LO [0, 1, 2, 17, 18] 2
  · repeat' (first | rfl | with_reducible assumption | assumption | constructor)
  intro w2 f2 s2 hf2
  replace hf2 : f2 = [(0, _), (1, _), (2, _), (17, _), (18, _)] := hf2
  subst hf2
  refine Ls.call LO rfl rfl rfl rfl rfl (vs := [.int .i64 most0, .int .i64 ticks0]) rfl (new_walk most0 ticks0 w2) ?_
  rintro _ w3 ⟨t, m, rfl, hA, ht, hm, hmv3⟩
  refine ⟨_, rfl, ?_⟩
  apply Ls.runK LO [0, 1, 2, 7] 1
  · repeat' (first | rfl | with_reducible assumption | assumption | constructor)
  intro w4 f4 s4 hf4
  replace hf4 : f4 = [(0, _), (1, _), (2, _), (7, _)] := hf4
  subst hf4
  refine Ls.nil (N.to ?_)
  refine W.seq (W.list ?_)
  apply Ls.runK LO [2, 7, 20, 21] 2
  · repeat' (first | rfl | with_reducible assumption | assumption | constructor)
  intro w5 f5 s5 hf5
  replace hf5 : f5 = [(2, _), (7, _), (20, _), (21, _)] := hf5
  subst hf5
  refine Ls.call LO rfl rfl rfl rfl rfl (vs := [.int .i64 most0, .int .i64 ticks0]) rfl (rnew_walk most0 ticks0 w5) ?_
  rintro _ w6 ⟨q, rfl, hR, hq, hmv6⟩
  refine ⟨_, rfl, ?_⟩
  obtain ⟨most, hmost⟩ : ∃ most, most = max 1 (min most0 32) := ⟨_, rfl⟩
  obtain ⟨ticks, hticks⟩ : ∃ ticks, ticks = max 1 (min ticks0 100000) := ⟨_, rfl⟩
  rw [← hmost, ← hticks] at hA hR
  have hm32 : 1 ≤ most ∧ most ≤ 32 := by omega
  have hB : BT w w6 t m q (.slice none 0 0) most ticks 0 [] [] := by
    have z2 : w2.heap.size = w.heap.size := by rw [s2.heap, s1.heap]
    have z5 : w5.heap.size = w3.heap.size := by rw [s5.heap, s4.heap]
    have := hmv3.size
    refine ⟨((hA.same s4).same s5).moved hmv6 (fun _ _ e => e), hR, (((((((Mv.refl _ w).same s1).same s2).trans hmv3).same s4).same s5).trans hmv6), fun k hk => ?_, fun k hk => ?_⟩
    · rcases hk with rfl | rfl | ⟨x, hx, _⟩
      · omega
      · omega
      · cases hx
    · rcases hk with rfl | hk | ⟨x, hx, _⟩
      · omega
      · cases hk
      · cases hx
  clear hA ht hm hmv3 hR hq hmv6 s1 s2 s4 s5
  apply Ls.runK LO [2, 7, 8] 1
  · repeat' (first | rfl | with_reducible assumption | assumption | constructor)
  intro w7 f7 s7 hf7
  replace hf7 : f7 = [(2, _), (7, _), (8, _)] := hf7
  subst hf7
  refine Ls.nil (N.to ?_)
  have hB := hB.same s7
  clear s7
  refine W.cutS (fun w' g => BT w w' t m q (.slice none 0 0) most ticks 0 [] [] ∧ g = [(2, .slice a l.length cap), (7, .pointer (some ⟨t, 0, none⟩)), (8, .pointer (some ⟨q, 0, none⟩))]) ?_ ?_
  ·
    apply W.readS LO mixed [2, 7, 8, 24] (by kernel_rfl)
    · repeat' (first | rfl | with_reducible assumption | assumption | constructor)
    intro w8 f8 s8 hf8
    replace hf8 : f8 = [(2, _), (7, _), (8, _), (24, _)] := hf8
    subst hf8
    refine W.cond (b := false) rfl (fun h => by cases h) (fun _ => W.skip ?_)
    exact N.cut ⟨hB.same s8, rfl⟩ (sub_keys rfl)
  clear hB
  rintro w8 _ ⟨hB, rfl⟩
  refine W.cutS (fun w' g => Mv (fun _ => False) w w' ∧ g = []) ?_ ?_
  ·
    apply W.readS LO mixed [2, 7, 8, 9] (by kernel_rfl)
    · repeat' (first | rfl | with_reducible assumption | assumption | constructor)
    intro w9 f9 s9 hf9
    replace hf9 : f9 = [(2, _), (7, _), (8, _), (9, _)] := hf9
    subst hf9
    have hB := hB.same s9
    clear s9
    refine W.block (W.loop (fun k w' g => ∃ (i : Nat) (vL : Value) (now : Int) (L : List Ent) (R : List RE), k + i = 40 ∧ i ≤ l.length ∧ BT w w' t m q vL most ticks now L R ∧ R.map (rv now) = L.map ke ∧ RInv most now R ∧ 0 ≤ now ∧ now ≤ i * 100000 ∧
      g = [(2, .slice a l.length cap), (7, .pointer (some ⟨t, 0, none⟩)), (8, .pointer (some ⟨q, 0, none⟩)), (9, .int .i64 (i : Nat))]) 40 _ ⟨0, _, 0, [], [], rfl, Nat.zero_le _, hB, rfl, ⟨fun x hx => (by cases hx), fun x hx => (by cases hx), .nil, by simp; omega⟩, Int.le_refl _, by omega, rfl⟩ (sub_keys rfl) ?_)
    clear hB
    rintro k w10 _ ⟨i, vL, now, L, R, hki, hil, hB, heq, hI, hn0, hn1, rfl⟩
    have k40 : Kn (decide ((i : Int) < 40)) (decide (i < 40)) := .of (decide_eq_decide.2 (by omega))
    have hlen : R.length = L.length := by have := congrArg List.length heq; rwa [List.length_map, List.length_map] at this
    have hRL := hI.few
    by_cases hlt : i < l.length ∧ i < 40
    · obtain ⟨hlt, h40⟩ := hlt
      have k1 : Kn (decide ((i : Int) < (l.length : Int))) true := .yes (by omega)
      rw [decide_eq_true h40] at k40
      refine W.seq ?_
      apply W.readS LO mixed [2, 7, 8, 9, 32] (by kernel_rfl)
      · repeat' (first | rfl | with_reducible assumption | assumption | constructor)
      intro w11 f11 s11 hf11
      replace hf11 : f11 = [(2, _), (7, _), (8, _), (9, _), (32, _)] := hf11
      subst hf11
      have hB := hB.same s11
      clear s11
      refine W.cond (b := true) rfl (fun _ => W.skip (N.to ?_)) (fun h => by cases h)
      obtain ⟨x, hx⟩ : ∃ x, l[i]? = some x := ⟨_, List.getElem?_eq_getElem hlt⟩
      have hxo := hok x (List.mem_of_getElem? hx)
      obtain ⟨b, o0, rfl, hcs⟩ := hrow i x hx
      have i0 : (0 : Int) ≤ (i : Int) := by omega
      have i1 : (i : Int) < (l.length : Int) := by omega
      refine W.cutS (fun w' g => ∃ (vL' : Value) (now' : Int) (L' : List Ent) (R' : List RE), (BT w w' t m q vL' most ticks now' L' R' ∧ R'.map (rv now') = L'.map ke ∧ RInv most now' R' ∧ 0 ≤ now' ∧ now' ≤ now + 100000) ∧
        g = [(2, .slice (some ⟨b, o0, none⟩) l.length cap), (7, .pointer (some ⟨t, 0, none⟩)), (8, .pointer (some ⟨q, 0, none⟩)), (9, .int .i64 (i : Nat))]) ?_ ?_
      · refine W.block ?_
        refine W.seq (W.list ?_)
        have hcells : CellsAt w11 b (o0 + (i : Int).toNat * 13) 13 x.cs := by
          rw [show (i : Int).toNat = i by omega]
          exact cellsAt_of (cs := x.cs) fun j u hj => hB.mv.cell (hcs j u hj) fun e => e
        apply Ls.runK LO [2, 7, 8, 9, 38] 4
        · repeat' (first | rfl | with_reducible assumption | assumption | constructor)
        intro w12 f12 s12 hf12
        replace hf12 : f12 = [(2, _), (7, _), (8, _), (9, _), (38, _)] := hf12
        subst hf12
        have hB := hB.same s12
        clear hcells s12
        refine Ls.alloc LO rfl rfl rfl rfl (zs := [.int .i64 0, .int .i64 0, .int .i64 0, .int .i64 0, .bool false, .bool false, .int .i64 0, .int .i64 0, .int .i64 0, .int .u32 0, .int .u32 0, .string ⟨#[]⟩, .string ⟨#[]⟩]) rfl ?_
        have hb13 := heap_alloc_new w12 (.cells [.int .i64 0, .int .i64 0, .int .i64 0, .int .i64 0, .bool false, .bool false, .int .i64 0, .int .i64 0, .int .i64 0, .int .u32 0, .int .u32 0, .string ⟨#[]⟩, .string ⟨#[]⟩].toArray 44)
        have m13 : Mv (fun _ => False) w12 (w12.alloc (.cells [.int .i64 0, .int .i64 0, .int .i64 0, .int .i64 0, .bool false, .bool false, .int .i64 0, .int .i64 0, .int .i64 0, .int .u32 0, .int .u32 0, .string ⟨#[]⟩, .string ⟨#[]⟩].toArray 44)) := (Mv.refl _ w12).alloc _
        generalize w12.alloc (.cells [.int .i64 0, .int .i64 0, .int .i64 0, .int .i64 0, .bool false, .bool false, .int .i64 0, .int .i64 0, .int .i64 0, .int .u32 0, .int .u32 0, .string ⟨#[]⟩, .string ⟨#[]⟩].toArray 44) = w13 at hb13 m13
        obtain ⟨o, ho⟩ : ∃ o, o = w12.heap.size := ⟨_, rfl⟩
        rw [← ho] at hb13
        rw [← ho]
        have how : w.heap.size ≤ o := by have := hB.mv.size; omega
        have hB := hB.non m13
        refine Ls.store LO rfl rfl rfl rfl rfl (vs := x.cs) rfl rfl rfl hb13 rfl ?_
        intro w14 hb14 m14 _
        have hB := hB.far m14 fun k e => by
          subst e
          exact ⟨fun e => hB.ta.off hb13 (by decide) (by decide) k e rfl, fun e => hB.ra.off hb13 (by decide) (by decide) (by decide) k e rfl, how⟩
        have hO : OB w14 o x := hb14
        clear hb13 hb14 m13 m14 ho
        refine Ls.nil (N.to ?_)
        -- its length
        refine W.cutS (fun w' g => (BT w w' t m q vL most ticks now L R ∧ OB w' o x ∧ g = [(2, .slice (some ⟨b, o0, none⟩) l.length cap), (7, .pointer (some ⟨t, 0, none⟩)), (8, .pointer (some ⟨q, 0, none⟩)), (9, .int .i64 (i : Nat)), (10, .pointer (some ⟨o, 0, none⟩))]) ∧ x.body.size ≤ 3000) ?_ ?_
        · obtain ⟨c0, c1, c2, c12⟩ := hO.cls
          have r1 : Kn (decide (300 < (x.body.size : Int))) (decide (300 < x.body.size)) := .of (decide_eq_decide.2 (by omega))
          have r2 : Kn (decide ((x.body.size : Int) ≤ 2000)) (decide (x.body.size ≤ 2000)) := .of (decide_eq_decide.2 (by omega))
          have r3 : Kn (decide (3000 < (x.body.size : Int))) (decide (3000 < x.body.size)) := .of (decide_eq_decide.2 (by omega))
          by_cases hbig : (300 < x.body.size ∧ x.body.size ≤ 2000) ∨ 3000 < x.body.size
          · refine W.cutS (fun w' g => Same w14 w' ∧ g = [(54, .bool true)]) ?_ ?_
            · by_cases h1 : 300 < x.body.size
              · rw [decide_eq_true h1] at r1
                by_cases h2 : x.body.size ≤ 2000
                · rw [decide_eq_true h2] at r2
                  apply W.readN LO mixed [54] (by kernel_rfl)
                  · repeat' (first | rfl | with_reducible assumption | assumption | constructor)
                  intro w15 f15 s15 hf15
                  replace hf15 : f15 = [(54, _)] := hf15
                  subst hf15
                  exact N.cut ⟨s15, rfl⟩ (sub_keys rfl)
                · rw [decide_eq_false h2] at r2
                  rw [decide_eq_true (by omega : 3000 < x.body.size)] at r3
                  apply W.readN LO mixed [54] (by kernel_rfl)
                  · repeat' (first | rfl | with_reducible assumption | assumption | constructor)
                  intro w15 f15 s15 hf15
                  replace hf15 : f15 = [(54, _)] := hf15
                  subst hf15
                  exact N.cut ⟨s15, rfl⟩ (sub_keys rfl)
              · omega
            rintro w15 _ ⟨s15, rfl⟩
            refine W.cond (b := true) rfl (fun _ => ?_) (fun h => by cases h)
            refine W.seq (W.list ?_)
            refine Ls.call LO rfl rfl rfl rfl rfl (vs := []) rfl (awake_walk w15) ?_
            rintro _ w16 ⟨rfl, hm16⟩
            refine ⟨_, rfl, ?_⟩
            apply Ls.runK LO [6] 1
            · repeat' (first | rfl | with_reducible assumption | assumption | constructor)
            intro w17 f17 s17 hf17
            replace hf17 : f17 = [(6, _)] := hf17
            subst hf17
            refine Ls.nil (N.to (W.ret ?_))
            exact post (fn := Try.f7) (R := Yes w) LO (rs := [.tmp 6]) rfl (vs := [.bool true]) (.tmp rfl .nil) ⟨rfl, ((hB.mv.same s15).trans hm16).same s17⟩
          · refine W.cutS (fun w' g => Same w14 w' ∧ g = [(2, .slice (some ⟨b, o0, none⟩) l.length cap), (7, .pointer (some ⟨t, 0, none⟩)), (8, .pointer (some ⟨q, 0, none⟩)), (9, .int .i64 (i : Nat)), (10, .pointer (some ⟨o, 0, none⟩)), (54, .bool false)]) ?_ ?_
            · rw [decide_eq_false (by omega : ¬ 3000 < x.body.size)] at r3
              by_cases h1 : 300 < x.body.size
              · rw [decide_eq_true h1] at r1
                rw [decide_eq_false (by omega : ¬ x.body.size ≤ 2000)] at r2
                apply W.readN LO mixed [2, 7, 8, 9, 10, 54] (by kernel_rfl)
                · repeat' (first | rfl | with_reducible assumption | assumption | constructor)
                intro w15 f15 s15 hf15
                replace hf15 : f15 = [(2, _), (7, _), (8, _), (9, _), (10, _), (54, _)] := hf15
                subst hf15
                exact N.cut ⟨s15, rfl⟩ (sub_keys rfl)
              · rw [decide_eq_false h1] at r1
                apply W.readN LO mixed [2, 7, 8, 9, 10, 54] (by kernel_rfl)
                · repeat' (first | rfl | with_reducible assumption | assumption | constructor)
                intro w15 f15 s15 hf15
                replace hf15 : f15 = [(2, _), (7, _), (8, _), (9, _), (10, _), (54, _)] := hf15
                subst hf15
                exact N.cut ⟨s15, rfl⟩ (sub_keys rfl)
            rintro w15 _ ⟨s15, rfl⟩
            refine W.cond (b := false) rfl (fun h => by cases h) (fun _ => W.skip ?_)
            exact N.cut ⟨⟨hB.same s15, hO.same s15, rfl⟩, by omega⟩ (sub_keys rfl)
        clear hB hO
        rintro w15 _ ⟨⟨hB, hO, rfl⟩, hsz⟩
        -- its kind
        obtain ⟨kd, hkd⟩ : ∃ kd, kd = x.kind % 8 := ⟨_, rfl⟩
        have q1 := quiet_of (w := w15) fun w' s' => place00_says x.kind 8 w' (by decide) (by decide) hxo.kind.1 hxo.kind.2
        rw [← hkd] at q1
        obtain ⟨c0, c1, c2, c12⟩ := hO.cls
        refine W.cutS (fun w' g => ∃ (vL' : Value) (now' : Int) (L' : List Ent) (R' : List RE), (BT w w' t m q vL' most ticks now' L' R' ∧ R'.map (rv now') = L'.map ke ∧ RInv most now' R' ∧ 0 ≤ now' ∧ now' ≤ now + 100000) ∧ g = [(2, .slice (some ⟨b, o0, none⟩) l.length cap), (7, .pointer (some ⟨t, 0, none⟩)), (8, .pointer (some ⟨q, 0, none⟩)), (9, .int .i64 (i : Nat))]) ?_ ?_
        ·
          apply W.readS LO mixed [2, 7, 8, 9, 10, 58] (by kernel_rfl)
          · repeat' (first | rfl | with_reducible assumption | assumption | constructor)
          intro w16 f16 s16 hf16
          replace hf16 : f16 = [(2, _), (7, _), (8, _), (9, _), (10, _), (58, _)] := hf16
          subst hf16
          have hB := hB.same s16
          have hO := hO.same s16
          clear q1 c0 c1 c2 c12 s16
          refine W.block ?_
          by_cases h6 : kd = 6
          · have k6 : Kn (kd == 6) true := .of (by rw [h6]; rfl)
            apply W.readS LO mixed [2, 7, 8, 9, 10, 92] (by kernel_rfl)
            · repeat' (first | rfl | with_reducible assumption | assumption | constructor)
            intro w17 f17 s17 hf17
            replace hf17 : f17 = [(2, _), (7, _), (8, _), (9, _), (10, _), (92, _)] := hf17
            subst hf17
            have hB := hB.same s17
            have hO := hO.same s17
            refine W.cond (b := true) rfl (fun _ => ?_) (fun h => by cases h)
            obtain ⟨nn, hnn⟩ : ∃ nn, nn = max 0 (min x.n 100000) := ⟨_, rfl⟩
            obtain ⟨S, hS⟩ : ∃ S : Nat → Prop, S = fun k => TB t m L k ∨ RB q vL R k := ⟨_, rfl⟩
            have hSo : ¬ S o := by
              rw [hS]
              have := hO.tb hB
              rintro (e | e)
              · exact this.1 e
              · exact this.2 e
            have F1 : ∀ w', Mv S w17 w' → Cl w' ⟨o, 1, none⟩ (.int .i64 x.n) := fun w' m' => (hO.moved m' hSo).cls.2.1
            obtain ⟨d, hd⟩ : ∃ d : Int, d = (L.length : Int) - (TVtick ticks nn (L.map ke)).length := ⟨_, rfl⟩
            have hfl : (R.filter (young ticks (now + nn))).map (rv (now + nn)) = TVtick ticks nn (L.map ke) := by rw [tick_eq, heq]
            have hd2 : (R.length : Int) - (R.filter (young ticks (now + nn))).length = d := by
              have := congrArg List.length hfl
              rw [List.length_map] at this
              rw [hd, this, hlen]
            have hage := inv_age hI heq
            have ht : ∀ w', TAt w' t m most ticks L → Calls Try.prog 14 #[.pointer (some ⟨t, 0, none⟩), .int .i64 x.n] w' fun e w'' => ∃ L', e = .returned (.int .i64 d) ∧ TAt w'' t m most ticks L' ∧ L'.map ke = TVtick ticks nn (L.map ke) ∧ Mv (TB t m L) w' w'' ∧ ∀ k, TB t m L' k → TB t m L k := fun w' hA => by
              have := tick_walk t m most ticks L x.n w' hA (by omega) (fun y hy => by have := hage (ke y) (List.mem_map_of_mem hy); exact ⟨this.1, by have : y.e.age ≤ now := this.2; omega⟩)
              rw [← hnn] at this
              unfold TickPost at this
              rw [← hd] at this
              exact this
            have hr : ∀ w', RTAt w' q vL most ticks now R → Calls Try.prog 16 #[.pointer (some ⟨q, 0, none⟩), .int .i64 x.n] w' fun e w'' => e = .returned (.int .i64 d) ∧ ∃ vL', RTAt w'' q vL' most ticks (now + nn) (R.filter (young ticks (now + nn))) ∧ Mv (· = q) w' w'' ∧ ∀ k, vL'.ownBlock = some k → vL.ownBlock = some k ∨ w'.heap.size ≤ k := fun w' hA => by
              have := rtick_walk q vL most ticks now R x.n w' hA (by omega) ⟨hn0, by omega⟩ hI.at_
              rw [← hnn, hd2] at this
              exact this
            refine W.seq (W.held mixed (fun w' => Mv S w17 w') [] 9 rfl (fun w' s => (Mv.refl _ w17).same s) ?_)
            intro w18 s18
            apply H.takesK LO true [2, 7, 8, 9, 10, 94, 96, 98, 100] [0, 1, 2, 4, 5, 6] (k := 3) rfl (by kernel_rfl)
            · repeat' (first | rfl | with_reducible assumption | assumption | (intro w' hw'; replace hw' := hw' rfl; have h0' := F1 w' hw') | constructor)
            intro g_ hg_
            replace hg_ : g_ = [(2, _), (7, _), (8, _), (9, _), (10, _), (94, _), (96, _), (98, _), (100, _)] := hg_
            subst hg_
            have hB := hB.same s18
            refine H.only (i := 3) rfl (by kernel_rfl) ?_
            refine Ls.call LO rfl rfl rfl rfl rfl (vs := [.pointer (some ⟨t, 0, none⟩), .int .i64 x.n]) rfl (ht w18 hB.ta) ?_
            rintro _ w19 ⟨L', rfl, hA', hL', hmv, hown⟩
            refine ⟨_, rfl, ?_⟩
            have mS19 : Mv S w17 w19 := ((Mv.refl _ w17).same s18).trans (hmv.mono fun k e => by rw [hS]; exact .inl e)
            have hB := hB.d hA' hmv fun k hk => .inl (hown k hk)
            refine Ls.nil (N.goOn (fun _ => mS19) ?_)
            refine H.only (i := 7) rfl (by kernel_rfl) ?_
            refine Ls.call LO rfl rfl rfl rfl rfl (vs := [.pointer (some ⟨q, 0, none⟩), .int .i64 x.n]) rfl (hr w19 hB.ra) ?_
            rintro _ w20 ⟨rfl, vL', hR', hmq, hov⟩
            refine ⟨_, rfl, ?_⟩
            have mS20 : Mv S w17 w20 := mS19.trans (hmq.mono fun k e => by rw [hS]; exact .inr (.inl e))
            have hB := hB.r hR' (hmq.mono fun k e => .inl e) fun k hk => by
              rcases hk with e | e | ⟨y, hy, e⟩
              · exact .inl (.inl e)
              · rcases hov k e with e | e
                · exact .inl (.inr (.inl e))
                · exact .inr e
              · exact .inl (.inr (.inr ⟨y, (List.mem_filter.1 hy).1, e⟩))
            refine Ls.nil (N.goOn (fun _ => mS20) ?_)
            have kd1 : Kn (d != d) false := .of (by simp)
            apply H.takesK LO false [2, 7, 8, 9, 102] [8] (k := 0) rfl (by kernel_rfl)
            · repeat' (first | rfl | with_reducible assumption | assumption | (intro w' hw'; replace hw' := True.intro) | constructor)
            intro g_ hg_
            replace hg_ : g_ = [(2, _), (7, _), (8, _), (9, _), (102, _)] := hg_
            subst hg_
            refine H.done (by kernel_rfl) (N.to ?_)
            refine W.cond (b := false) rfl (fun h => by cases h) (fun _ => W.skip ?_)
            exact N.inb (N.cut ⟨vL', now + nn, L', _, ⟨hB, by rw [hfl, hL'], inv_tick hI (by omega) _, by omega, by omega⟩, rfl⟩ (sub_keys rfl))
          have k6 : Kn (kd == 6) false := .of (by rw [beq_eq_false_iff_ne]; exact h6)
          apply W.readS LO mixed [2, 7, 8, 9, 10, 58, 92] (by kernel_rfl)
          · repeat' (first | rfl | with_reducible assumption | assumption | constructor)
          intro w17 f17 s17 hf17
          replace hf17 : f17 = [(2, _), (7, _), (8, _), (9, _), (10, _), (58, _), (92, _)] := hf17
          subst hf17
          have hB := hB.same s17
          have hO := hO.same s17
          clear s17
          refine W.cond (b := false) rfl (fun h => by cases h) (fun _ => ?_)
          by_cases h7 : kd = 7
          · have k7 : Kn (kd == 7) true := .of (by rw [h7]; rfl)
            apply W.readS LO mixed [2, 7, 8, 9, 10, 103] (by kernel_rfl)
            · repeat' (first | rfl | with_reducible assumption | assumption | constructor)
            intro w18 f18 s18 hf18
            replace hf18 : f18 = [(2, _), (7, _), (8, _), (9, _), (10, _), (103, _)] := hf18
            subst hf18
            have hB := hB.same s18
            refine W.cond (b := true) rfl (fun _ => ?_) (fun h => by cases h)
            refine W.seq (W.list ?_)
            apply Ls.runK LO [2, 7, 8, 9, 105] 1
            · repeat' (first | rfl | with_reducible assumption | assumption | constructor)
            intro w19 f19 s19 hf19
            replace hf19 : f19 = [(2, _), (7, _), (8, _), (9, _), (105, _)] := hf19
            subst hf19
            have hB := hB.same s19
            refine Ls.call LO rfl rfl rfl rfl rfl (vs := [.pointer (some ⟨t, 0, none⟩)]) rfl (flush_walk t m most ticks L w19 hB.ta) ?_
            rintro _ w20 ⟨rfl, hA', hmv⟩
            refine ⟨_, rfl, ?_⟩
            have hB := hB.d hA' (hmv.mono fun k e => .inr (.inl e)) fun k hk => by
              rcases hk with e | e | ⟨y, hy, _⟩
              · exact .inl (.inl e)
              · exact .inl (.inr (.inl e))
              · cases hy
            refine Ls.nil (N.to (W.list ?_))
            apply Ls.runK LO [2, 7, 8, 9, 109] 3
            · repeat' (first | rfl | with_reducible assumption | assumption | constructor)
            intro w21 f21 s21 hf21
            replace hf21 : f21 = [(2, _), (7, _), (8, _), (9, _), (109, _)] := hf21
            subst hf21
            have hB := hB.same s21
            refine Ls.store LO rfl rfl rfl rfl rfl (vs := [.slice none 0 0]) rfl rfl rfl hB.ra.blk rfl ?_
            intro w22 hb22 m22 _
            have hR' : RTAt w22 q (.slice none 0 0) most ticks now [] := ⟨hb22, OwnZ.nil _ _ _, fun y hy => (by cases hy), .nil⟩
            have hB := hB.r hR' (m22.mono fun k e => .inl e) fun k hk => by
              rcases hk with e | e | ⟨y, hy, _⟩
              · exact .inl (.inl e)
              · cases e
              · cases hy
            exact Ls.nil (N.inb (N.cut ⟨_, now, [], [], ⟨hB, rfl, ⟨fun x hx => (by cases hx), fun x hx => (by cases hx), .nil, by simp; omega⟩, hn0, by omega⟩, rfl⟩ (sub_keys rfl)))
          have k7 : Kn (kd == 7) false := .of (by rw [beq_eq_false_iff_ne]; exact h7)
          apply W.readS LO mixed [2, 7, 8, 9, 10, 103] (by kernel_rfl)
          · repeat' (first | rfl | with_reducible assumption | assumption | constructor)
          intro w18 f18 s18 hf18
          replace hf18 : f18 = [(2, _), (7, _), (8, _), (9, _), (10, _), (103, _)] := hf18
          subst hf18
          have hB := hB.same s18
          have hO := hO.same s18
          clear s18
          refine W.cond (b := false) rfl (fun h => by cases h) (fun _ => ?_)
          obtain ⟨Rv, hRv⟩ : ∃ Rv, Rv = TVadd most (L.map ke) x.ip x.body := ⟨_, rfl⟩
          have hall := inv_all hI heq
          refine W.seq (W.list ?_)
          obtain ⟨c0, c1, c2, c12⟩ := hO.cls
          apply Ls.runK LO [2, 7, 8, 9, 10, 60, 62, 64] 5
          · repeat' (first | rfl | with_reducible assumption | assumption | constructor)
          intro w19 f19 s19 hf19
          replace hf19 : f19 = [(2, _), (7, _), (8, _), (9, _), (10, _), (60, _), (62, _), (64, _)] := hf19
          subst hf19
          have hB := hB.same s19
          have hO := hO.same s19
          clear c0 c1 c2 c12 s19
          have had := add_walk t m most ticks L x.ip x.body w19 hB.ta hxo.ip (by omega) fun y hy => hall (ke y) (List.mem_map_of_mem hy)
          rw [← hRv] at had
          have ho1 := (hO.tb hB).1
          refine Ls.call LO rfl rfl rfl rfl rfl (vs := [.pointer (some ⟨t, 0, none⟩), .agg (ipVs x.ip).toArray, .string x.body]) rfl had ?_
          rintro _ w20 ⟨L', rfl, hA', hL', hmv, hown⟩
          refine ⟨_, rfl, ?_⟩
          have hB := hB.d hA' hmv hown
          have hO := hO.moved hmv ho1
          clear had ho1 hA' hmv hown
          apply Ls.runK LO [2, 7, 8, 9, 10, 11, 12, 13] 7
          · repeat' (first | rfl | with_reducible assumption | assumption | constructor)
          intro w21 f21 s21 hf21
          replace hf21 : f21 = [(2, _), (7, _), (8, _), (9, _), (10, _), (11, _), (12, _), (13, _)] := hf21
          subst hf21
          refine Ls.nil (N.to ?_)
          have hB := hB.same s21
          have hO := hO.same s21
          clear s21
          refine W.seq (W.list ?_)
          obtain ⟨c0, c1, c2, c12⟩ := hO.cls
          apply Ls.runK LO [2, 7, 8, 9, 10, 11, 12, 13, 70, 72, 74] 5
          · repeat' (first | rfl | with_reducible assumption | assumption | constructor)
          intro w22 f22 s22 hf22
          replace hf22 : f22 = [(2, _), (7, _), (8, _), (9, _), (10, _), (11, _), (12, _), (13, _), (70, _), (72, _), (74, _)] := hf22
          subst hf22
          have hB := hB.same s22
          have hO := hO.same s22
          clear c0 c1 c2 c12 s22
          have had := radd_walk q vL most ticks now R x.ip x.body w22 hB.ra hI hm32 hn0 hxo.ip (by omega)
          rw [heq, ← hRv] at had
          refine Ls.call LO rfl rfl rfl rfl rfl (vs := [.pointer (some ⟨q, 0, none⟩), .agg (ipVs x.ip).toArray, .string x.body]) rfl had ?_
          rintro _ w23 ⟨vL', R', rfl, hR', hReq, hI', hmv, hown⟩
          refine ⟨_, rfl, ?_⟩
          have hB := hB.r hR' hmv hown
          clear had hR' hmv hown
          apply Ls.runK LO [2, 7, 8, 9, 10, 11, 12, 13, 14, 15, 16] 7
          · repeat' (first | rfl | with_reducible assumption | assumption | constructor)
          intro w24 f24 s24 hf24
          replace hf24 : f24 = [(2, _), (7, _), (8, _), (9, _), (10, _), (11, _), (12, _), (13, _), (14, _), (15, _), (16, _)] := hf24
          subst hf24
          refine Ls.nil (N.to ?_)
          have hB := hB.same s24
          clear s24
          have r1 : Kn (Rv.2.1.toList == Rv.2.1.toList) true := .of (beq_self_eq_true _)
          have r2 : Kn (Rv.2.2.1 == Rv.2.2.1) true := .of (beq_self_eq_true _)
          have r3 : Kn (Rv.2.2.2 != Rv.2.2.2) false := .of (by simp)
          apply W.readS LO mixed [2, 7, 8, 9, 91] (by kernel_rfl)
          · repeat' (first | rfl | with_reducible assumption | assumption | constructor)
          intro w25 f25 s25 hf25
          replace hf25 : f25 = [(2, _), (7, _), (8, _), (9, _), (91, _)] := hf25
          subst hf25
          refine W.cond (b := false) rfl (fun h => by cases h) (fun _ => W.skip ?_)
          exact N.inb (N.cut ⟨vL', now, L', R', ⟨hB.same s25, by rw [hReq, hL'], hI', hn0, by omega⟩, rfl⟩ (sub_keys rfl))
        clear hB hO
        rintro w17 _ ⟨vL', now', L', R', ⟨hB, heq', hI', hn0', hn1'⟩, rfl⟩
        have hlen' : R'.length = L'.length := by have := congrArg List.length heq'; rwa [List.length_map, List.length_map] at this
        have hRL' := hI'.few
        have hsum := inv_sum hI'
        obtain ⟨aL, cL, hvL, _, _, _⟩ := hB.ra.row.slice
        have F1 : ∀ w', Mv (fun _ => False) w17 w' → Cl w' ⟨q, 3, none⟩ (.slice aL R'.length cL) := fun w' m' => by
          have := (hB.non m').ra.cls.2.2.2
          rwa [hvL] at this
        refine W.seq (W.held mixed (fun w' => Mv (fun _ => False) w17 w') [] 15 rfl (fun w' s => (Mv.refl _ w17).same s) ?_)
        intro w18 s18
        apply H.takesK LO true [2, 7, 8, 9, 110, 116] [0, 2, 3, 4, 5, 6] (k := 9) rfl (by kernel_rfl)
        · repeat' (first | rfl | with_reducible assumption | assumption | (intro w' hw'; replace hw' := hw' rfl; have h0' := F1 w' hw') | constructor)
        intro g_ hg_
        replace hg_ : g_ = [(2, _), (7, _), (8, _), (9, _), (110, _), (116, _)] := hg_
        subst hg_
        have m18 : Mv (fun _ => False) w17 w18 := (Mv.refl _ w17).same s18
        refine H.only (i := 1) rfl (by kernel_rfl) ?_
        refine Ls.call LO rfl rfl rfl rfl rfl (vs := [.pointer (some ⟨t, 0, none⟩)]) rfl (len_says t m most ticks L' w18 (hB.non m18).ta) ?_
        rintro _ w19 ⟨rfl, s19⟩
        refine ⟨_, rfl, ?_⟩
        have m19 := m18.same s19
        refine Ls.nil (N.goOn (fun _ => m19) ?_)
        have kl : Kn ((L'.length : Int) != (R'.length : Int)) false := .of (by rw [hlen']; simp)
        apply H.takesK LO false [2, 7, 8, 9, 118, 119, 121] [7, 8, 9, 11] (k := 4) rfl (by kernel_rfl)
        · repeat' (first | rfl | with_reducible assumption | assumption | (intro w' hw'; replace hw' := True.intro) | constructor)
        intro g_ hg_
        replace hg_ : g_ = [(2, _), (7, _), (8, _), (9, _), (118, _), (119, _), (121, _)] := hg_
        subst hg_
        refine H.only (i := 10) rfl (by kernel_rfl) ?_
        refine Ls.call LO rfl rfl rfl rfl rfl (vs := [.pointer (some ⟨t, 0, none⟩)]) rfl (bytes_walk t m most ticks L' w19 (hB.non m19).ta (by rw [← heq']; omega)) ?_
        rintro _ w20 ⟨rfl, m20'⟩
        refine ⟨_, rfl, ?_⟩
        have m20 := m19.trans m20'
        refine Ls.nil (N.goOn (fun _ => m20) ?_)
        refine H.only (i := 12) rfl (by kernel_rfl) ?_
        have hrb := rbytes_says q vL' most ticks now' R' w20 (hB.non m20).ra (by omega) hI'.ok
        rw [heq'] at hrb
        refine Ls.call LO rfl rfl rfl rfl rfl (vs := [.pointer (some ⟨q, 0, none⟩)]) rfl hrb ?_
        rintro _ w21 ⟨rfl, s21⟩
        refine ⟨_, rfl, ?_⟩
        have m21 := m20.same s21
        refine Ls.nil (N.goOn (fun _ => m21) ?_)
        have kb : Kn ((sumB (L'.map ke) : Int) != (sumB (L'.map ke) : Int)) false := .of (by simp)
        apply H.takesK LO false [2, 7, 8, 9, 124] [13, 14] (k := 0) rfl (by kernel_rfl)
        · repeat' (first | rfl | with_reducible assumption | assumption | (intro w' hw'; replace hw' := True.intro) | constructor)
        intro g_ hg_
        replace hg_ : g_ = [(2, _), (7, _), (8, _), (9, _), (124, _)] := hg_
        subst hg_
        refine H.done (by kernel_rfl) (N.to ?_)
        refine W.cond (b := false) rfl (fun h => by cases h) (fun _ => W.skip ?_)
        exact N.inb (N.cut ⟨vL', now', L', R', ⟨hB.non m21, heq', hI', hn0', hn1'⟩, rfl⟩ (sub_keys rfl))
      · clear hB
        rintro w17 _ ⟨vL', now', L', R', ⟨hB, heq', hI', hn0', hn1'⟩, rfl⟩
        have k5 : Kn (IntKind.i64.wrap ((i : Int) + 1)) ((i + 1 : Nat) : Int) := .of (IntWalk.i64_in _ (by omega))
        apply W.readN LO mixed [2, 7, 8, 9] (by kernel_rfl)
        · repeat' (first | rfl | with_reducible assumption | assumption | constructor)
        intro w18 f18 s18 hf18
        replace hf18 : f18 = [(2, _), (7, _), (8, _), (9, _)] := hf18
        subst hf18
        exact N.round (k - 1) _ (by omega) ⟨i + 1, vL', now', L', R', by omega, by omega, hB.same s18, heq', hI', hn0', by omega, rfl⟩ (sub_keys rfl)
    · by_cases h1 : i < l.length
      · have k1 : Kn (decide ((i : Int) < (l.length : Int))) true := .yes (by omega)
        rw [decide_eq_false (fun e => hlt ⟨h1, e⟩)] at k40
        refine W.seq ?_
        apply W.readS LO mixed [32] (by kernel_rfl)
        · repeat' (first | rfl | with_reducible assumption | assumption | constructor)
        intro w11 f11 s11 hf11
        replace hf11 : f11 = [(32, _)] := hf11
        subst hf11
        refine W.cond (b := false) rfl (fun h => by cases h) (fun _ => W.exit ?_)
        exact N.thenE (N.thenE (N.out (N.cut ⟨hB.mv.same s11, rfl⟩ (sub_keys rfl))))
      · have k1 : Kn (decide ((i : Int) < (l.length : Int))) false := .no (by omega)
        refine W.seq ?_
        apply W.readS LO mixed [32] (by kernel_rfl)
        · repeat' (first | rfl | with_reducible assumption | assumption | constructor)
        intro w11 f11 s11 hf11
        replace hf11 : f11 = [(32, _)] := hf11
        subst hf11
        refine W.cond (b := false) rfl (fun h => by cases h) (fun _ => W.exit ?_)
        exact N.thenE (N.thenE (N.out (N.cut ⟨hB.mv.same s11, rfl⟩ (sub_keys rfl))))
  clear hB
  rintro w9 _ ⟨hmv, rfl⟩
  refine W.seq (W.list ?_)
  refine Ls.call LO rfl rfl rfl rfl rfl (vs := []) rfl (awake_walk w9) ?_
  rintro _ w10 ⟨rfl, hm10⟩
  refine ⟨_, rfl, ?_⟩
  apply Ls.runK LO [6] 1
  · repeat' (first | rfl | with_reducible assumption | assumption | constructor)
  intro w11 f11 s11 hf11
  replace hf11 : f11 = [(6, _)] := hf11
  subst hf11
  refine Ls.nil (N.to (W.ret (post LO (rs := [.tmp 6]) rfl (vs := [.bool true]) (.tmp rfl .nil) ⟨rfl, (hmv.trans hm10).same s11⟩)))
theorem plays_law (most0 ticks0 : Int) (a : Option Addr) (cap : Nat) (l : List OpV) (w : World) (_ : (Lit.int .i64 most0).wf = true) (_ : (Lit.int .i64 ticks0).wf = true) (hrow : OpRow w a l) (hl : ∀ x ∈ l, OpOk x) :
    Calls Try.prog 7 #[.int .i64 most0, .int .i64 ticks0, .slice a l.length cap] w (Yes w) := plays_walk most0 ticks0 a cap l w hrow hl
end Go.Proofs.Ytnghmaejmfhigaa
