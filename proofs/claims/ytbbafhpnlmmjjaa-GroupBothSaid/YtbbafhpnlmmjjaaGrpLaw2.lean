/- What is proved: both ways round: the law's walk. Conditions: those that stand in each theorem. -/
import Derived.Test.YtbbafhpnlmmjjaaGrpRules
namespace Go.Proofs.Ytbbafhpnlmmjjaa
set_option linter.unusedVariables false
set_option linter.unusedSimpArgs false
set_option linter.unusedSectionVars false
open Go.RowKit Fw
theorem tcs_all (t : TupV) : t.cs.all (fun u => u.oneCell') = true := rfl
theorem flip_at (F : Int) (h : F = 0 ∨ F = 1 ∨ F = 2) : ((([0, 2, 1] : List Int).map (Value.int .i64)).toArray)[F.toNat]? = some (.int .i64 (flip3 F)) := by
  rcases h with rfl | rfl | rfl <;> rfl
set_option maxRecDepth 100000 in
set_option maxHeartbeats 8000000 in
theorem both_walk (v : Value) (l : List Int) (t : TupV) (dir : Int) (w : World) (h : RowI w v l) (hd : -9223372036854775808 ≤ dir ∧ dir ≤ 9223372036854775807) : Calls Try.prog 4 #[v, .agg t.cs.toArray, .int .i64 dir] w (Yes w) := by
  obtain ⟨a, c, hv⟩ := h.1.len
  subst hv
  refine calls_W (n := 105) (vs := [.slice a l.length c, .agg t.cs.toArray, .int .i64 dir]) Try.func4 rfl rfl rfl ?_
  refine W.seq (W.list ?_)
  refine Ls.box rfl rfl rfl rfl rfl (vs := t.cs) rfl ?_
  have hb1 : BX (w.alloc (.cells t.cs.toArray 25)) w.heap.size 25 t.cs := heap_alloc_new w (.cells t.cs.toArray 25)
  have m1 : Mv (fun _ => False) w (w.alloc (.cells t.cs.toArray 25)) := (Mv.refl _ w).alloc _
  generalize w.alloc (.cells t.cs.toArray 25) = w1 at hb1 m1
  obtain ⟨p, hp⟩ : ∃ p, p = w.heap.size := ⟨_, rfl⟩
  rw [← hp] at hb1
  rw [← hp]
  apply Ls.runK LO [0, 2, 4] 1
  · repeat' (first | rfl | with_reducible assumption | assumption | constructor)
  intro w2 f2 s2 hf2
  replace hf2 : f2 = [(0, _), (2, _), (4, _)] := hf2
  subst hf2
  refine Ls.nil (N.to ?_)
  have m2 := m1.same s2
  have hb2 := hb1.same s2
  clear m1 hb1 s2
  refine W.cutS (fun w' g => (Mv (fun _ => False) w w' ∧ BX w' p 25 t.cs ∧ g = [(0, .slice a l.length c), (2, .int .i64 dir), (4, .pointer (some ⟨p, 0, none⟩))]) ∧ l.length ≤ 60) ?_ ?_
  · by_cases hl : 60 < l.length
    · have k1 : Kn (decide (60 < (l.length : Int))) true := .yes (by omega)
      apply W.readS LO mixed [0, 15] (by kernel_rfl)
      · repeat' (first | rfl | with_reducible assumption | assumption | constructor)
      intro w3 f3 s3 hf3
      replace hf3 : f3 = [(0, _), (15, _)] := hf3
      subst hf3
      refine W.cond (b := true) rfl (fun _ => ?_) (fun h => by cases h)
      refine W.seq (W.list ?_)
      refine Ls.call LO rfl rfl rfl rfl rfl (vs := []) rfl (awake_walk w3) ?_
      rintro _ w4 ⟨rfl, m4⟩
      refine ⟨_, rfl, ?_⟩
      apply Ls.runK LO [6] 1
      · repeat' (first | rfl | with_reducible assumption | assumption | constructor)
      intro w5 f5 s5 hf5
      replace hf5 : f5 = [(6, _)] := hf5
      subst hf5
      refine Ls.nil (N.to (W.ret (N.thenR ?_)))
      exact post (fn := Try.f4) (R := Yes w) LO (rs := [.tmp 6]) rfl (vs := [.bool true]) (.tmp rfl .nil) ⟨rfl, ((m2.same s3).trans m4).same s5⟩
    · have k1 : Kn (decide (60 < (l.length : Int))) false := .no (by omega)
      apply W.readS LO mixed [0, 2, 4, 15] (by kernel_rfl)
      · repeat' (first | rfl | with_reducible assumption | assumption | constructor)
      intro w3 f3 s3 hf3
      replace hf3 : f3 = [(0, _), (2, _), (4, _), (15, _)] := hf3
      subst hf3
      refine W.cond (b := false) rfl (fun h => by cases h) (fun _ => W.skip ?_)
      exact N.cut ⟨⟨m2.same s3, hb2.same s3, rfl⟩, by omega⟩ (sub_keys rfl)
  clear m2 hb2
  rintro w3 _ ⟨⟨m3, hb3, rfl⟩, hl⟩
  obtain ⟨d, hdd⟩ : ∃ d, d = dir % 2 := ⟨_, rfl⟩
  have hd01 : d = 0 ∨ d = 1 := by omega
  have q1 := quiet_of (w := w3) fun w' s' => place00_says dir 2 w' (by decide) (by decide) hd.1 hd.2
  rw [← hdd] at q1
  apply W.readS LO mixed [0, 4, 7] (by kernel_rfl)
  · repeat' (first | rfl | with_reducible assumption | assumption | constructor)
  intro w4 f4 s4 hf4
  replace hf4 : f4 = [(0, _), (4, _), (7, _)] := hf4
  subst hf4
  have m4 := m3.same s4
  have hb4 := hb3.same s4
  clear q1 m3 hb3 s4 hdd
  refine W.seq (W.list ?_)
  have d0 : Cl w4 ⟨p, 0 + 0, none⟩ (.int .i64 t.proto) := hb4.cl rfl
  have d1 : Cl w4 ⟨p, 0 + 1, none⟩ (.int .u32 t.src) := hb4.cl rfl
  have d2 : Cl w4 ⟨p, 0 + 2, none⟩ (.int .u32 t.dst) := hb4.cl rfl
  have d3 : Cl w4 ⟨p, 0 + 3, none⟩ (.int .i64 t.sp) := hb4.cl rfl
  have d4 : Cl w4 ⟨p, 0 + 4, none⟩ (.int .i64 t.dp) := hb4.cl rfl
  apply Ls.runK LO [0, 4, 7, 29] 11
  · repeat' (first | rfl | with_reducible assumption | assumption | constructor)
  intro w5 f5 s5 hf5
  replace hf5 : f5 = [(0, _), (4, _), (7, _), (29, _)] := hf5
  subst hf5
  have m5 := m4.same s5
  have hb5 := hb4.same s5
  clear d0 d1 d2 d3 d4 m4 hb4 s5
  refine Ls.alloc LO rfl rfl rfl rfl (zs := [.int .i64 0, .int .u32 0, .int .u32 0, .int .i64 0, .int .i64 0]) rfl ?_
  have hb6 := heap_alloc_new w5 (.cells [Value.int .i64 0, .int .u32 0, .int .u32 0, .int .i64 0, .int .i64 0].toArray 25)
  have m6 : Mv (fun _ => False) w5 (w5.alloc (.cells [Value.int .i64 0, .int .u32 0, .int .u32 0, .int .i64 0, .int .i64 0].toArray 25)) := (Mv.refl _ w5).alloc _
  generalize w5.alloc (.cells [Value.int .i64 0, .int .u32 0, .int .u32 0, .int .i64 0, .int .i64 0].toArray 25) = w6 at hb6 m6
  obtain ⟨q, hq⟩ : ∃ q, q = w5.heap.size := ⟨_, rfl⟩
  rw [← hq] at hb6
  rw [← hq]
  refine Ls.store LO rfl rfl rfl rfl rfl (vs := t.turn.cs) rfl rfl rfl hb6 rfl ?_
  intro w7 hb7 m7 _
  have hb7 : BX w7 q 25 t.turn.cs := hb7
  have m57 : Mv (fun _ => False) w5 w7 := m6.cut m7 fun k hk e => by omega
  have hbp7 := hb5.moved m57 fun e => e
  have m7 := m5.trans m57
  refine Ls.nil (N.to ?_)
  clear hb6 m6 m57 m5 hb5 hq hp
  -- the rules
  refine W.cutS (fun w' g => Mv (fun _ => False) w w' ∧ g = []) ?_ ?_
  · refine W.seq (W.list ?_)
    apply Ls.runK LO [0, 4, 7, 8, 30] 1
    · repeat' (first | rfl | with_reducible assumption | assumption | constructor)
    intro w8 f8 s8 hf8
    replace hf8 : f8 = [(0, _), (4, _), (7, _), (8, _), (30, _)] := hf8
    subst hf8
    have m8 := m7.same s8
    have hbp8 := hbp7.same s8
    have hbq8 := hb7.same s8
    clear m7 hbp7 hb7 s8
    have h8 : RowI w8 (.slice a l.length c) l := ⟨h.1.moved m8, h.2⟩
    refine Ls.call LO rfl rfl rfl rfl rfl (vs := [.slice a l.length c]) rfl (rules_walk _ l w8 h8 (by omega)) ?_
    rintro _ w9 ⟨vM, M, rfl, hM, hMl, hMf, m9'⟩
    refine ⟨_, rfl, ?_⟩
    have m9 := m8.trans m9'
    have hbp9 := hbp8.moved m9' fun e => e
    have hbq9 := hbq8.moved m9' fun e => e
    clear m8 hbp8 hbq8 m9' h8
    obtain ⟨aM, cM, hvM⟩ := hM.1.len
    subst hvM
    apply Ls.runK LO [4, 7, 8, 31, 32, 33] 2
    · repeat' (first | rfl | with_reducible assumption | assumption | constructor)
    intro w10 f10 s10 hf10
    replace hf10 : f10 = [(4, _), (7, _), (8, _), (31, _), (32, _), (33, _)] := hf10
    subst hf10
    have m10 := m9.same s10
    have hbp10 := hbp9.same s10
    have hbq10 := hbq9.same s10
    have hM10 := hM.moved ((Mv.refl _ w9).same s10)
    clear m9 hbp9 hbq9 hM s10
    refine Ls.nil (N.to ?_)
    refine W.block (W.loop (fun k w' g => ∃ i : Nat, k + i = M.length ∧ Mv (fun _ => False) w10 w' ∧ g = [(4, .pointer (some ⟨p, 0, none⟩)), (7, .int .i64 d), (8, .pointer (some ⟨q, 0, none⟩)), (31, .slice aM M.length cM), (32, .int .i64 M.length), (33, .int .i64 i)]) M.length _ ⟨0, rfl, Mv.refl _ _, rfl⟩ (sub_keys rfl) ?_)
    rintro k w11 _ ⟨i, hk, m11, rfl⟩
    by_cases hlt : i < M.length
    · have k1 : Kn (decide ((i : Int) < (M.length : Int))) true := .yes (by omega)
      apply W.readS LO mixed [4, 7, 8, 31, 32, 33, 34] (by kernel_rfl)
      · repeat' (first | rfl | with_reducible assumption | assumption | constructor)
      intro w12 f12 s12 hf12
      replace hf12 : f12 = [(4, _), (7, _), (8, _), (31, _), (32, _), (33, _), (34, _)] := hf12
      subst hf12
      have m12 := m11.same s12
      clear m11 s12 k1
      refine W.seq (W.cond (b := true) rfl (fun _ => W.skip (N.to ?_)) (fun h => by cases h))
      obtain ⟨r, hr⟩ : ∃ r, M[i]? = some r := ⟨_, List.getElem?_eq_getElem hlt⟩
      have hrM := List.mem_of_getElem? hr
      have hfl := hMf r hrM
      refine W.cutS (fun w' g => Mv (fun _ => False) w10 w' ∧ g = [(4, .pointer (some ⟨p, 0, none⟩)), (7, .int .i64 d), (8, .pointer (some ⟨q, 0, none⟩)), (31, .slice aM M.length cM), (32, .int .i64 M.length), (33, .int .i64 i)]) ?_ ?_
      · refine W.block ?_
        obtain ⟨b, o, c', hv', hcell⟩ := (hM10.1.moved m12).at rcs_len (by decide) hr
        injection hv' with ea _ ec
        subst ea ec
        have i0 : (0 : Int) ≤ (i : Int) := by omega
        have i1 : (i : Int) < (M.length : Int) := by omega
        refine W.seq (W.list ?_)
        apply Ls.runK LO [4, 7, 8, 31, 32, 33, 36] 2
        · repeat' (first | rfl | with_reducible assumption | assumption | constructor)
        intro w13 f13 s13 hf13
        replace hf13 : f13 = [(4, _), (7, _), (8, _), (31, _), (32, _), (33, _), (36, _)] := hf13
        subst hf13
        have m13 := m12.same s13
        have hr13 := (hM10.2 r hrM).moved m13
        clear hcell m12 s13
        refine Ls.alloc LO rfl rfl rfl rfl (zs := zRule) rfl ?_
        have hx1 := heap_alloc_new w13 (.cells zRule.toArray 37)
        have o1 : Mv (fun _ => False) w13 (w13.alloc (.cells zRule.toArray 37)) := (Mv.refl _ w13).alloc _
        generalize w13.alloc (.cells zRule.toArray 37) = x1 at hx1 o1
        obtain ⟨b1, hb1⟩ : ∃ b1, b1 = w13.heap.size := ⟨_, rfl⟩
        rw [← hb1] at hx1
        rw [← hb1]
        refine Ls.store LO rfl rfl rfl rfl rfl (vs := r.cs) rfl rfl hr13.all hx1 rfl ?_
        intro x2 hx2 o2 _
        have hB1 : BX x2 b1 37 r.cs := hx2
        have o2 : Mv (fun _ => False) w13 x2 := o1.cut o2 fun k hk e => by omega
        refine Ls.nil (N.to ?_)
        clear hx1 hx2 o1
        refine W.seq (W.list ?_)
        have e1 : CellsAt x2 b1 0 15 r.cs := hB1.cells
        apply Ls.runK LO [4, 7, 8, 10, 31, 32, 33, 37] 1
        · repeat' (first | rfl | with_reducible assumption | assumption | constructor)
        intro x3 f3 s3 hf3
        replace hf3 : f3 = [(4, _), (7, _), (8, _), (10, _), (31, _), (32, _), (33, _), (37, _)] := hf3
        subst hf3
        have o3 := o2.same s3
        have hB1 := hB1.same s3
        clear e1 s3 o2
        refine Ls.alloc LO rfl rfl rfl rfl (zs := zRule) rfl ?_
        have hx4 := heap_alloc_new x3 (.cells zRule.toArray 37)
        have o4 : Mv (fun _ => False) x3 (x3.alloc (.cells zRule.toArray 37)) := (Mv.refl _ x3).alloc _
        have z4 := size_alloc' x3 (.cells zRule.toArray 37)
        generalize x3.alloc (.cells zRule.toArray 37) = x4 at hx4 o4 z4
        obtain ⟨b2, hb2⟩ : ∃ b2, b2 = x3.heap.size := ⟨_, rfl⟩
        rw [← hb2] at hx4
        rw [← hb2]
        have h12 : b1 < b2 := by have := hB1.lt; omega
        refine Ls.store LO rfl rfl rfl rfl rfl (vs := r.cs) rfl rfl hr13.all hx4 rfl ?_
        intro x5 hx5 o5 z5
        have hB2 : BX x5 b2 37 r.cs := hx5
        have o35 : Mv (fun _ => False) x3 x5 := o4.cut o5 fun k hk e => by omega
        have hB1 := hB1.moved o35 fun e => e
        have o5 := o3.trans o35
        refine Ls.nil (N.to ?_)
        clear hx4 hx5 o3 o4 o35
        refine W.seq (W.list ?_)
        apply Ls.runK LO [4, 7, 8, 10, 11, 31, 32, 33, 38] 1
        · repeat' (first | rfl | with_reducible assumption | assumption | constructor)
        intro x6 f6 s6 hf6
        replace hf6 : f6 = [(4, _), (7, _), (8, _), (10, _), (11, _), (31, _), (32, _), (33, _), (38, _)] := hf6
        subst hf6
        refine Ls.store LO rfl rfl rfl rfl rfl (vs := [.bool true]) rfl rfl rfl (hB2.same s6) rfl ?_
        intro x7 hx7 o7 z7
        have hB2 : BX x7 b2 37 ({ r with both := true } : RuleV).cs := hx7
        have hs6 : x6.heap.size = x5.heap.size := by rw [s6.heap]
        apply Ls.runK LO [4, 7, 8, 10, 11, 31, 32, 33, 39] 1
        · repeat' (first | rfl | with_reducible assumption | assumption | constructor)
        intro x8 f8 s8 hf8
        replace hf8 : f8 = [(4, _), (7, _), (8, _), (10, _), (11, _), (31, _), (32, _), (33, _), (39, _)] := hf8
        subst hf8
        refine Ls.store LO rfl rfl rfl rfl rfl (vs := [.int .i64 0]) rfl rfl rfl (hB2.same s8) rfl ?_
        intro x9 hx9 o9 z9
        have hB2 : BX x9 b2 37 r.bothR.cs := hx9
        have hs8 : x8.heap.size = x7.heap.size := by rw [s8.heap]
        have o59 : Mv (· = b2) x5 x9 := (((Mv.refl _ x5).same s6).trans o7).trans (((Mv.refl _ x7).same s8).trans o9)
        have hB1 := hB1.moved o59 (by omega)
        have hz13 := o5.size
        have hb1l := hB1.lt
        have o9 : Mv (fun _ => False) w13 x9 := o5.cut o59 fun k hk e => by omega
        refine Ls.nil (N.to ?_)
        clear hx7 hx9 o7 s6 s8 o59 o5
        refine W.seq (W.list ?_)
        have e1 : CellsAt x9 b1 0 15 r.cs := hB1.cells
        apply Ls.runK LO [4, 7, 8, 10, 11, 31, 32, 33, 40] 1
        · repeat' (first | rfl | with_reducible assumption | assumption | constructor)
        intro y1 f1 s1 hf1
        replace hf1 : f1 = [(4, _), (7, _), (8, _), (10, _), (11, _), (31, _), (32, _), (33, _), (40, _)] := hf1
        subst hf1
        have o10 := o9.same s1
        have hB1 := hB1.same s1
        have hB2 := hB2.same s1
        clear e1 s1 o9
        refine Ls.alloc LO rfl rfl rfl rfl (zs := zRule) rfl ?_
        have hy2 := heap_alloc_new y1 (.cells zRule.toArray 37)
        have o11 : Mv (fun _ => False) y1 (y1.alloc (.cells zRule.toArray 37)) := (Mv.refl _ y1).alloc _
        generalize y1.alloc (.cells zRule.toArray 37) = y2 at hy2 o11
        obtain ⟨b3, hb3⟩ : ∃ b3, b3 = y1.heap.size := ⟨_, rfl⟩
        rw [← hb3] at hy2
        rw [← hb3]
        have h13 : b1 < b3 := by have := hB1.lt; omega
        have h23 : b2 < b3 := by have := hB2.lt; omega
        refine Ls.store LO rfl rfl rfl rfl rfl (vs := r.cs) rfl rfl hr13.all hy2 rfl ?_
        intro y3 hy3 o12 _
        have hB3 : BX y3 b3 37 r.cs := hy3
        have o13 : Mv (fun _ => False) y1 y3 := o11.cut o12 fun k hk e => by omega
        have hB1 := hB1.moved o13 fun e => e
        have hB2 := hB2.moved o13 fun e => e
        have o13 := o10.trans o13
        refine Ls.nil (N.to ?_)
        clear hy2 hy3 o10 o11 o12
        refine W.seq (W.list ?_)
        apply Ls.runK LO [4, 7, 8, 10, 11, 12, 31, 32, 33, 41] 1
        · repeat' (first | rfl | with_reducible assumption | assumption | constructor)
        intro y4 f4 s4 hf4
        replace hf4 : f4 = [(4, _), (7, _), (8, _), (10, _), (11, _), (12, _), (31, _), (32, _), (33, _), (41, _)] := hf4
        subst hf4
        show Ls Try.prog 105 _ _ [(4, _), (7, _), (8, _), (10, _), (11, _), (12, _), (31, _), (32, _), (33, _), (41, .agg ((([0, 2, 1] : List Int).map (Value.int .i64)).toArray))] _ _
        have hB1 := hB1.same s4
        have hB2 := hB2.same s4
        have hB3 := hB3.same s4
        have o14 := o13.same s4
        have xF := flip_at r.flow hfl
        have f0 : 0 ≤ r.flow := by rcases hfl with e | e | e <;> omega
        have f1 : r.flow < ((3 : Nat) : Int) := by rcases hfl with e | e | e <;> omega
        have d7 : Cl y4 ⟨b1, 0 + 11, none⟩ (.int .i64 r.flow) := hB1.cl rfl
        apply Ls.runK LO [4, 7, 8, 10, 11, 12, 31, 32, 33, 44, 45] 4
        · repeat' (first | rfl | with_reducible assumption | assumption | constructor)
        intro y5 f5 s5 hf5
        replace hf5 : f5 = [(4, _), (7, _), (8, _), (10, _), (11, _), (12, _), (31, _), (32, _), (33, _), (44, _), (45, _)] := hf5
        subst hf5
        have hB1 := hB1.same s5
        have hB2 := hB2.same s5
        have hB3 := hB3.same s5
        have o15 := o14.same s5
        clear d7 xF s4 s5 o13 o14
        refine Ls.store LO rfl rfl rfl rfl rfl (vs := [.int .i64 (flip3 r.flow)]) rfl rfl rfl hB3 rfl ?_
        intro w16 hb16 m16' _
        have hB3 : BX w16 b3 37 r.turnR.cs := hb16
        have hB1 := hB1.moved m16' (by omega)
        have hB2 := hB2.moved m16' (by omega)
        have o16 : Mv (fun _ => False) w13 w16 := o15.cut m16' fun k hk e => by omega
        have m16 : Mv (fun _ => False) w10 w16 := m13.trans o16
        refine Ls.nil (N.to ?_)
        have hr := hr13.moved o16
        have hB : RuleAt w16 r.bothR := ⟨hr.fn, hr.fp, hr.tn, hr.tp, hr.cv, hr.few⟩
        have hT : RuleAt w16 r.turnR := ⟨hr.fn, hr.fp, hr.tn, hr.tp, hr.cv, hr.few⟩
        have hP := hbp10.moved m16 fun e => e
        have hQ := hbq10.moved m16 fun e => e
        clear o15 o16 m16' hb16 hr13 m13 h12 h13 h23 hb1 hb2 hb3 hz13 hb1l z4 z5 z7 z9 hs6 hs8
        refine W.cutS (fun w' g => Mv (fun _ => False) w10 w' ∧ g = [(4, .pointer (some ⟨p, 0, none⟩)), (7, .int .i64 d), (8, .pointer (some ⟨q, 0, none⟩)), (31, .slice (some ⟨b, o, none⟩) M.length cM), (32, .int .i64 M.length), (33, .int .i64 i), (102, .bool false)]) ?_ ?_
        · refine W.held mixed (fun w' => Mv (fun _ => False) w16 w') [] 57 rfl (fun w' s => (Mv.refl _ w16).same s) ?_
          intro w19 s19
          have cr : ∀ w', Mv (fun _ => False) w16 w' → CellsAt w' b1 0 15 r.cs := fun w' m => (hB1.moved m fun e => e).cells
          have cB : ∀ w', Mv (fun _ => False) w16 w' → CellsAt w' b2 0 15 r.bothR.cs := fun w' m => (hB2.moved m fun e => e).cells
          have cT : ∀ w', Mv (fun _ => False) w16 w' → CellsAt w' b3 0 15 r.turnR.cs := fun w' m => (hB3.moved m fun e => e).cells
          have ct : ∀ w', Mv (fun _ => False) w16 w' → CellsAt w' p 0 5 t.cs := fun w' m => (hP.moved m fun e => e).cells
          have cu : ∀ w', Mv (fun _ => False) w16 w' → CellsAt w' q 0 5 t.turn.cs := fun w' m => (hQ.moved m fun e => e).cells
          have n19 : Mv (fun _ => False) w16 w19 := (Mv.refl _ w16).same s19
          have kd1 : Kn (IntKind.i64.wrap (1 - d)) (1 - d) := .of (IntWalk.i64_in _ (by omega))
          have kd2 : Kn (IntKind.i64.wrap (2 + d)) (2 + d) := .of (IntWalk.i64_in _ (by omega))
          have kd3 : Kn (IntKind.i64.wrap (-1 - d)) (-1 - d) := .of (IntWalk.i64_in _ (by omega))
          apply H.takesK LO true [4, 7, 8, 10, 11, 12, 31, 32, 33, 46, 47, 48, 50, 51, 52] [0, 1, 2, 4, 5, 6] (k := 51) rfl (by kernel_rfl)
          · repeat' (first | rfl | with_reducible assumption | assumption | (intro w' hw'; replace hw' := hw' rfl; have h0' := cB w' hw'; have h1' := ct w' hw'; have h2' := cu w' hw') | constructor)
          intro g_ hg_
          replace hg_ : g_ = [(4, _), (7, _), (8, _), (10, _), (11, _), (12, _), (31, _), (32, _), (33, _), (46, _), (47, _), (48, _), (50, _), (51, _), (52, _)] := hg_
          subst hg_
          refine H.only (i := 3) rfl (by kernel_rfl) ?_
          refine Ls.call LO rfl rfl rfl rfl rfl (vs := [.agg r.bothR.cs.toArray, .agg t.cs.toArray, .int .i64 d]) rfl (fits_walk r.bothR t d w19 (hB.moved n19)) ?_
          rintro _ w20 ⟨rfl, n20⟩
          have n20 := n19.trans n20
          refine ⟨_, rfl, Ls.nil (N.goOn (fun _ => n20) ?_)⟩
          refine H.only (i := 7) rfl (by kernel_rfl) ?_
          refine Ls.call LO rfl rfl rfl rfl rfl (vs := [.agg r.bothR.cs.toArray, .agg t.turn.cs.toArray, .int .i64 d]) rfl (fits_walk r.bothR t.turn d w20 (hB.moved n20)) ?_
          rintro _ w21 ⟨rfl, n21⟩
          have n21 := n20.trans n21
          rw [← both_1 r t d]
          refine ⟨_, rfl, Ls.nil (N.goOn (fun _ => n21) ?_)⟩
          have k1 : Kn (r.bothR.fits t d == r.bothR.fits t d) true := .of (beq_self_eq_true _)
          apply H.takesK LO true [4, 7, 8, 10, 11, 12, 31, 32, 33, 55, 56, 57, 59, 60] [8, 9, 10, 11, 13, 14] (k := 43) rfl (by kernel_rfl)
          · repeat' (first | rfl | with_reducible assumption | assumption | (intro w' hw'; replace hw' := hw' rfl; have h0' := cB w' hw'; have h1' := ct w' hw') | constructor)
          intro g_ hg_
          replace hg_ : g_ = [(4, _), (7, _), (8, _), (10, _), (11, _), (12, _), (31, _), (32, _), (33, _), (55, _), (56, _), (57, _), (59, _), (60, _)] := hg_
          subst hg_
          refine H.only (i := 12) rfl (by kernel_rfl) ?_
          refine Ls.call LO rfl rfl rfl rfl rfl (vs := [.agg r.bothR.cs.toArray, .agg t.cs.toArray, .int .i64 0]) rfl (fits_walk r.bothR t 0 w21 (hB.moved n21)) ?_
          rintro _ w22 ⟨rfl, n22⟩
          have n22 := n21.trans n22
          refine ⟨_, rfl, Ls.nil (N.goOn (fun _ => n22) ?_)⟩
          refine H.only (i := 15) rfl (by kernel_rfl) ?_
          refine Ls.call LO rfl rfl rfl rfl rfl (vs := [.agg r.bothR.cs.toArray, .agg t.cs.toArray, .int .i64 1]) rfl (fits_walk r.bothR t 1 w22 (hB.moved n22)) ?_
          rintro _ w23 ⟨rfl, n23⟩
          have n23 := n22.trans n23
          rw [← both_2 r t]
          refine ⟨_, rfl, Ls.nil (N.goOn (fun _ => n23) ?_)⟩
          have k2 : Kn (r.bothR.fits t 0 == r.bothR.fits t 0) true := .of (beq_self_eq_true _)
          apply H.takesK LO true [4, 7, 8, 10, 11, 12, 31, 32, 33, 64, 65, 66, 67, 69, 70, 72] [16, 17, 18, 19, 20, 21, 23, 24, 25, 26] (k := 31) rfl (by kernel_rfl)
          · repeat' (first | rfl | with_reducible assumption | assumption | (intro w' hw'; replace hw' := hw' rfl; have h0' := cr w' hw'; have h1' := cT w' hw'; have h2' := ct w' hw'; have h3' := cu w' hw') | constructor)
          intro g_ hg_
          replace hg_ : g_ = [(4, _), (7, _), (8, _), (10, _), (11, _), (12, _), (31, _), (32, _), (33, _), (64, _), (65, _), (66, _), (67, _), (69, _), (70, _), (72, _)] := hg_
          subst hg_
          refine H.only (i := 22) rfl (by kernel_rfl) ?_
          refine Ls.call LO rfl rfl rfl rfl rfl (vs := [.agg r.cs.toArray, .agg t.cs.toArray, .int .i64 d]) rfl (fits_walk r t d w23 (hr.moved n23)) ?_
          rintro _ w24 ⟨rfl, n24⟩
          have n24 := n23.trans n24
          refine ⟨_, rfl, Ls.nil (N.goOn (fun _ => n24) ?_)⟩
          refine H.only (i := 27) rfl (by kernel_rfl) ?_
          refine Ls.call LO rfl rfl rfl rfl rfl (vs := [.agg r.turnR.cs.toArray, .agg t.turn.cs.toArray, .int .i64 (1 - d)]) rfl (fits_walk r.turnR t.turn (1 - d) w24 (hT.moved n24)) ?_
          rintro _ w25 ⟨rfl, n25⟩
          have n25 := n24.trans n25
          rw [← both_3 r t d hd01 hfl]
          refine ⟨_, rfl, Ls.nil (N.goOn (fun _ => n25) ?_)⟩
          have k3 : Kn (r.fits t d == r.fits t d) true := .of (beq_self_eq_true _)
          apply H.takesK LO true [4, 7, 8, 10, 11, 12, 31, 32, 33, 76, 77, 78, 79] [28, 29, 30, 31, 32, 33] (k := 23) rfl (by kernel_rfl)
          · repeat' (first | rfl | with_reducible assumption | assumption | (intro w' hw'; replace hw' := hw' rfl; have h0' := cr w' hw'; have h1' := ct w' hw') | constructor)
          intro g_ hg_
          replace hg_ : g_ = [(4, _), (7, _), (8, _), (10, _), (11, _), (12, _), (31, _), (32, _), (33, _), (76, _), (77, _), (78, _), (79, _)] := hg_
          subst hg_
          refine H.only (i := 34) rfl (by kernel_rfl) ?_
          refine Ls.call LO rfl rfl rfl rfl rfl (vs := [.agg r.cs.toArray, .agg t.cs.toArray, .int .i64 d]) rfl (fits_walk r t d w25 (hr.moved n25)) ?_
          rintro _ w26 ⟨rfl, n26⟩
          have n26 := n25.trans n26
          refine ⟨_, rfl, Ls.nil (N.goOn (fun _ => n26) ?_)⟩
          obtain ⟨x3, hx3⟩ : ∃ x3, x3 = r.fits t d := ⟨_, rfl⟩
          rw [← hx3]
          apply H.takesK LO false [4, 7, 8, 10, 11, 12, 31, 32, 33, 76, 81] [35] (k := 21) rfl (by kernel_rfl)
          · repeat' (first | rfl | with_reducible assumption | assumption | (intro w' hw'; replace hw' := True.intro) | constructor)
          intro g_ hg_
          replace hg_ : g_ = [(4, _), (7, _), (8, _), (10, _), (11, _), (12, _), (31, _), (32, _), (33, _), (76, _), (81, _)] := hg_
          subst hg_
          cases x3 with
          | false =>
            apply H.takesK LO true [4, 7, 8, 10, 11, 12, 31, 32, 33, 89, 90, 91, 93] [36, 37, 38, 39, 40, 41, 42, 43, 44, 45, 46, 47] (k := 9) rfl (by kernel_rfl)
            · repeat' (first | rfl | with_reducible assumption | assumption | (intro w' hw'; replace hw' := hw' rfl; have h0' := cr w' hw'; have h1' := ct w' hw') | constructor)
            intro g_ hg_
            replace hg_ : g_ = [(4, _), (7, _), (8, _), (10, _), (11, _), (12, _), (31, _), (32, _), (33, _), (89, _), (90, _), (91, _), (93, _)] := hg_
            subst hg_
            refine H.only (i := 48) rfl (by kernel_rfl) ?_
            refine Ls.call LO rfl rfl rfl rfl rfl (vs := [.agg r.cs.toArray, .agg t.cs.toArray, .int .i64 (2 + d)]) rfl (fits_walk r t (2 + d) w26 (hr.moved n26)) ?_
            rintro _ w27 ⟨rfl, n27⟩
            have n27 := n26.trans n27
            rw [both_5 r t (2 + d) (by omega)]
            refine ⟨_, rfl, Ls.nil (N.goOn (fun _ => n27) ?_)⟩
            apply H.takesK LO true [4, 7, 8, 10, 11, 12, 31, 32, 33, 96, 97, 98, 100] [49, 50, 51, 52, 53, 54] (k := 2) rfl (by kernel_rfl)
            · repeat' (first | rfl | with_reducible assumption | assumption | (intro w' hw'; replace hw' := hw' rfl; have h0' := cr w' hw'; have h1' := ct w' hw') | constructor)
            intro g_ hg_
            replace hg_ : g_ = [(4, _), (7, _), (8, _), (10, _), (11, _), (12, _), (31, _), (32, _), (33, _), (96, _), (97, _), (98, _), (100, _)] := hg_
            subst hg_
            refine H.only (i := 55) rfl (by kernel_rfl) ?_
            refine Ls.call LO rfl rfl rfl rfl rfl (vs := [.agg r.cs.toArray, .agg t.cs.toArray, .int .i64 (-1 - d)]) rfl (fits_walk r t (-1 - d) w27 (hr.moved n27)) ?_
            rintro _ w28 ⟨rfl, n28⟩
            have n28 := n27.trans n28
            rw [both_5 r t (-1 - d) (by omega)]
            refine ⟨_, rfl, Ls.nil (N.goOn (fun _ => n28) ?_)⟩
            apply H.takesK LO false [4, 7, 8, 10, 11, 12, 31, 32, 33, 102] [56] (k := 0) rfl (by kernel_rfl)
            · repeat' (first | rfl | with_reducible assumption | assumption | (intro w' hw'; replace hw' := True.intro) | constructor)
            intro g_ hg_
            replace hg_ : g_ = [(4, _), (7, _), (8, _), (10, _), (11, _), (12, _), (31, _), (32, _), (33, _), (102, _)] := hg_
            subst hg_
            exact H.done (by kernel_rfl) (N.cut ⟨m16.trans n28, rfl⟩ (sub_keys rfl))
          | true =>
            apply H.takesK LO true [4, 7, 8, 10, 11, 12, 31, 32, 33, 76, 81, 82, 83, 84] [36, 37, 38] (k := 18) rfl (by kernel_rfl)
            · repeat' (first | rfl | with_reducible assumption | assumption | (intro w' hw'; replace hw' := hw' rfl; have h0' := cB w' hw'; have h1' := ct w' hw') | constructor)
            intro g_ hg_
            replace hg_ : g_ = [(4, _), (7, _), (8, _), (10, _), (11, _), (12, _), (31, _), (32, _), (33, _), (76, _), (81, _), (82, _), (83, _), (84, _)] := hg_
            subst hg_
            refine H.only (i := 39) rfl (by kernel_rfl) ?_
            refine Ls.call LO rfl rfl rfl rfl rfl (vs := [.agg r.bothR.cs.toArray, .agg t.cs.toArray, .int .i64 d]) rfl (fits_walk r.bothR t d w26 (hB.moved n26)) ?_
            rintro _ w27 ⟨rfl, n27⟩
            have n27 := n26.trans n27
            rw [both_4 r t d hx3.symm]
            refine ⟨_, rfl, Ls.nil (N.goOn (fun _ => n27) ?_)⟩
            apply H.takesK LO true [4, 7, 8, 10, 11, 12, 31, 32, 33, 89, 90, 91, 93] [40, 41, 42, 43, 44, 45, 46, 47] (k := 9) rfl (by kernel_rfl)
            · repeat' (first | rfl | with_reducible assumption | assumption | (intro w' hw'; replace hw' := hw' rfl; have h0' := cr w' hw'; have h1' := ct w' hw') | constructor)
            intro g_ hg_
            replace hg_ : g_ = [(4, _), (7, _), (8, _), (10, _), (11, _), (12, _), (31, _), (32, _), (33, _), (89, _), (90, _), (91, _), (93, _)] := hg_
            subst hg_
            refine H.only (i := 48) rfl (by kernel_rfl) ?_
            refine Ls.call LO rfl rfl rfl rfl rfl (vs := [.agg r.cs.toArray, .agg t.cs.toArray, .int .i64 (2 + d)]) rfl (fits_walk r t (2 + d) w27 (hr.moved n27)) ?_
            rintro _ w28 ⟨rfl, n28⟩
            have n28 := n27.trans n28
            rw [both_5 r t (2 + d) (by omega)]
            refine ⟨_, rfl, Ls.nil (N.goOn (fun _ => n28) ?_)⟩
            apply H.takesK LO true [4, 7, 8, 10, 11, 12, 31, 32, 33, 96, 97, 98, 100] [49, 50, 51, 52, 53, 54] (k := 2) rfl (by kernel_rfl)
            · repeat' (first | rfl | with_reducible assumption | assumption | (intro w' hw'; replace hw' := hw' rfl; have h0' := cr w' hw'; have h1' := ct w' hw') | constructor)
            intro g_ hg_
            replace hg_ : g_ = [(4, _), (7, _), (8, _), (10, _), (11, _), (12, _), (31, _), (32, _), (33, _), (96, _), (97, _), (98, _), (100, _)] := hg_
            subst hg_
            refine H.only (i := 55) rfl (by kernel_rfl) ?_
            refine Ls.call LO rfl rfl rfl rfl rfl (vs := [.agg r.cs.toArray, .agg t.cs.toArray, .int .i64 (-1 - d)]) rfl (fits_walk r t (-1 - d) w28 (hr.moved n28)) ?_
            rintro _ w29 ⟨rfl, n29⟩
            have n29 := n28.trans n29
            rw [both_5 r t (-1 - d) (by omega)]
            refine ⟨_, rfl, Ls.nil (N.goOn (fun _ => n29) ?_)⟩
            apply H.takesK LO false [4, 7, 8, 10, 11, 12, 31, 32, 33, 102] [56] (k := 0) rfl (by kernel_rfl)
            · repeat' (first | rfl | with_reducible assumption | assumption | (intro w' hw'; replace hw' := True.intro) | constructor)
            intro g_ hg_
            replace hg_ : g_ = [(4, _), (7, _), (8, _), (10, _), (11, _), (12, _), (31, _), (32, _), (33, _), (102, _)] := hg_
            subst hg_
            exact H.done (by kernel_rfl) (N.cut ⟨m16.trans n29, rfl⟩ (sub_keys rfl))
        · rintro w17 _ ⟨m17, rfl⟩
          refine W.cond (b := false) rfl (fun h => by cases h) (fun _ => W.skip ?_)
          exact N.inb (N.cut ⟨m17, rfl⟩ (sub_keys rfl))
      · rintro w13 _ ⟨m13, rfl⟩
        have k5 : Kn (IntKind.i64.wrap ((i : Int) + 1)) ((i + 1 : Nat) : Int) := .of (IntWalk.i64_in _ (by omega))
        apply W.readN LO mixed [4, 7, 8, 31, 32, 33] (by kernel_rfl)
        · repeat' (first | rfl | with_reducible assumption | assumption | constructor)
        intro w14 f14 s14 hf14
        replace hf14 : f14 = [(4, _), (7, _), (8, _), (31, _), (32, _), (33, _)] := hf14
        subst hf14
        exact N.round (k - 1) _ (by omega) ⟨i + 1, by omega, m13.same s14, rfl⟩ (sub_keys rfl)
    · have k1 : Kn (decide ((i : Int) < (M.length : Int))) false := .no (by omega)
      apply W.readS LO mixed [34] (by kernel_rfl)
      · repeat' (first | rfl | with_reducible assumption | assumption | constructor)
      intro w12 f12 s12 hf12
      replace hf12 : f12 = [(34, _)] := hf12
      subst hf12
      refine W.seq (W.cond (b := false) rfl (fun h => by cases h) (fun _ => W.exit ?_))
      exact N.thenE (N.thenE (N.out (N.cut ⟨m10.trans (m11.same s12), rfl⟩ (sub_keys rfl))))
  rintro w11 _ ⟨m11, rfl⟩
  refine W.seq (W.list ?_)
  refine Ls.call LO rfl rfl rfl rfl rfl (vs := []) rfl (awake_walk w11) ?_
  rintro _ w12 ⟨rfl, m12⟩
  refine ⟨_, rfl, ?_⟩
  apply Ls.runK LO [6] 1
  · repeat' (first | rfl | with_reducible assumption | assumption | constructor)
  intro w13 f13 s13 hf13
  replace hf13 : f13 = [(6, _)] := hf13
  subst hf13
  refine Ls.nil (N.to (W.ret ?_))
  exact post LO (rs := [.tmp 6]) rfl (vs := [.bool true]) (.tmp rfl .nil) ⟨rfl, (m11.trans m12).same s13⟩
end Go.Proofs.Ytbbafhpnlmmjjaa
