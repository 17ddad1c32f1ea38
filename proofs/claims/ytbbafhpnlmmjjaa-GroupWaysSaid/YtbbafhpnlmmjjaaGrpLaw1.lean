/- What is proved: the law of ways. Conditions: those that stand in each theorem. -/
import Derived.Test.YtbbafhpnlmmjjaaGrpWays1
import Derived.OpenShut
namespace Go.Proofs.Ytbbafhpnlmmjjaa
set_option linter.unusedVariables false
set_option linter.unusedSimpArgs false
set_option linter.unusedSectionVars false
open Go.RowKit Fw
set_option maxRecDepth 100000 in
set_option maxHeartbeats 8000000 in
theorem ways_walk (host port ask proto : Int) (w : World) (hh : -9223372036854775808 ≤ host ∧ host ≤ 9223372036854775807) (hp0 : -9223372036854775808 ≤ port ∧ port ≤ 9223372036854775807) (hq0 : -9223372036854775808 ≤ ask ∧ ask ≤ 9223372036854775807) (hr0 : -9223372036854775808 ≤ proto ∧ proto ≤ 9223372036854775807) :
    Calls Try.prog 5 #[.int .i64 host, .int .i64 port, .int .i64 ask, .int .i64 proto] w (Yes w) := by
  obtain ⟨iN, hiN, hzN, hsN, _⟩ := info_net
  obtain ⟨iS, hiS, hzS, hsS, _⟩ := info_span
  obtain ⟨iR, hiR, hzR, hsR⟩ := info_rule
  obtain ⟨h, hh_⟩ : ∃ h, h = host % 65536 := ⟨_, rfl⟩
  obtain ⟨p, hp_⟩ : ∃ p, p = port % 65536 := ⟨_, rfl⟩
  obtain ⟨q, hq_⟩ : ∃ q, q = ask % 65536 := ⟨_, rfl⟩
  obtain ⟨x, hx_⟩ : ∃ x, x = proto % 256 := ⟨_, rfl⟩
  have bh : 0 ≤ h ∧ h < 65536 := by omega
  have bp : 0 ≤ p ∧ p ≤ 65535 := by omega
  have bq : 0 ≤ q ∧ q ≤ 65535 := by omega
  refine calls_W (n := 103) (vs := [.int .i64 host, .int .i64 port, .int .i64 ask, .int .i64 proto]) Try.func5 rfl rfl rfl ?_
  apply W.readS LO mixed [0, 1, 2, 3] (by kernel_rfl)
  · repeat' (first | rfl | with_reducible assumption | assumption | constructor)
  intro w1 f1 s1 hf1
  replace hf1 : f1 = [(0, _), (1, _), (2, _), (3, _)] := hf1
  subst hf1
  have q1 := quiet_of (w := w1) fun w' s' => place00_says host 65536 w' (by decide) (by decide) hh.1 hh.2
  have q2 := quiet_of (w := w1) fun w' s' => place00_says port 65536 w' (by decide) (by decide) hp0.1 hp0.2
  have q3 := quiet_of (w := w1) fun w' s' => place00_says ask 65536 w' (by decide) (by decide) hq0.1 hq0.2
  rw [← hh_] at q1
  rw [← hp_] at q2
  rw [← hq_] at q3
  have kh : Kn (IntKind.u32.wrap h) h := .of (IntWalk.u32_in _ (by omega))
  apply W.readS LO mixed [3, 9, 10, 11] (by kernel_rfl)
  · repeat' (first | rfl | with_reducible assumption | assumption | constructor)
  intro w2 f2 s2 hf2
  replace hf2 : f2 = [(3, _), (9, _), (10, _), (11, _)] := hf2
  subst hf2
  have m2 : Mv (fun _ => False) w w2 := ((Mv.refl _ w).same s1).same s2
  clear q1 q2 q3 s1 s2 kh
  refine W.seq (W.list ?_)
  apply Ls.runK LO [3, 9, 10, 11, 26] 2
  · repeat' (first | rfl | with_reducible assumption | assumption | constructor)
  intro w3 f3 s3 hf3
  replace hf3 : f3 = [(3, _), (9, _), (10, _), (11, _), (26, _)] := hf3
  subst hf3
  have m3 := m2.same s3
  refine Ls.buildZ [(.agg (ncs (h, 32)).toArray, ncs (h, 32))] rfl rfl rfl rfl und_nets hiN hzN hsN rfl rfl rfl rfl rfl rfl (fun p hp => by obtain rfl := List.mem_singleton.1 hp; exact ⟨rfl, rfl⟩) ?_
  have hb4 := heap_alloc_new w3 (.cells (ncs (h, 32)).toArray 48)
  have m4 : Mv (fun _ => False) w3 (w3.alloc (.cells (ncs (h, 32)).toArray 48)) := (Mv.refl _ w3).alloc _
  show Ls Try.prog 103 _ _ _ (w3.alloc (.cells (ncs (h, 32)).toArray 48)) _
  generalize w3.alloc (.cells (ncs (h, 32)).toArray 48) = w4 at hb4 m4
  obtain ⟨bn, hbn⟩ : ∃ bn, bn = w3.heap.size := ⟨_, rfl⟩
  rw [← hbn] at hb4
  rw [← hbn]
  have m4 := m3.trans m4
  have rn : Rd w4 2 (.slice (some ⟨bn, 0, none⟩) 1 1) 1 (ncs (h, 32)) := Rd.new hb4 rfl
  apply Ls.runK LO [3, 9, 10, 11, 28, 31] 4
  · repeat' (first | rfl | with_reducible assumption | assumption | constructor)
  intro w5 f5 s5 hf5
  replace hf5 : f5 = [(3, _), (9, _), (10, _), (11, _), (28, _), (31, _)] := hf5
  subst hf5
  have m5 := m4.same s5
  have rn := rn.moved ((Mv.refl _ w4).same s5)
  clear m2 s3 m3 hb4 s5 m4
  refine Ls.buildZ [(.agg (scs (p, p)).toArray, scs (p, p))] rfl rfl rfl rfl und_spans hiS hzS hsS rfl rfl rfl rfl rfl rfl (fun p hp => by obtain rfl := List.mem_singleton.1 hp; exact ⟨rfl, rfl⟩) ?_
  have hb6 := heap_alloc_new w5 (.cells (scs (p, p)).toArray 50)
  have m6 : Mv (fun _ => False) w5 (w5.alloc (.cells (scs (p, p)).toArray 50)) := (Mv.refl _ w5).alloc _
  show Ls Try.prog 103 _ _ _ (w5.alloc (.cells (scs (p, p)).toArray 50)) _
  generalize w5.alloc (.cells (scs (p, p)).toArray 50) = w6 at hb6 m6
  obtain ⟨bs, hbs⟩ : ∃ bs, bs = w5.heap.size := ⟨_, rfl⟩
  rw [← hbs] at hb6
  rw [← hbs]
  have rn := rn.moved m6
  have m6 := m5.trans m6
  have hR : ∀ b, RuleAt w6 (wyR bn bs h p b) := fun b => ⟨Rd.nil _ _, Rd.nil _ _, rn, Rd.new hb6 rfl, ⟨_, _, _, rfl⟩, (show 0 ≤ 1000000000 by decide), (show 0 ≤ 1000000000 by decide), (show 1 ≤ 1000000000 by decide), (show 1 ≤ 1000000000 by decide)⟩
  clear rn hb6 m5
  obtain ⟨R, hRd⟩ : ∃ R : Bool → RuleV, R = fun b => wyR bn bs h p b := ⟨_, rfl⟩
  have hR : ∀ b, RuleAt w6 (R b) := fun b => by rw [hRd]; exact hR b
  have eR : ∀ b, (R b).cs = (wyR bn bs h p b).cs := fun b => by rw [hRd]
  apply Ls.runK LO [3, 9, 10, 11, 34] 2
  · repeat' (first | rfl | with_reducible assumption | assumption | constructor)
  intro w7 f7 s7 hf7
  replace hf7 : f7 = [(3, _), (9, _), (10, _), (11, _), (34, _)] := hf7
  subst hf7
  have m7 := m6.same s7
  have hR : ∀ b, RuleAt w7 (R b) := fun b => (hR b).moved ((Mv.refl _ w6).same s7)
  clear m6 s7
  refine Ls.alloc LO rfl rfl rfl rfl (zs := zRule) rfl ?_
  have hb8 := heap_alloc_new w7 (.cells zRule.toArray 37)
  have m8 : Mv (fun _ => False) w7 (w7.alloc (.cells zRule.toArray 37)) := (Mv.refl _ w7).alloc _
  generalize w7.alloc (.cells zRule.toArray 37) = w8 at hb8 m8
  obtain ⟨r, h_r⟩ : ∃ r, r = w7.heap.size := ⟨_, rfl⟩
  rw [← h_r] at hb8
  rw [← h_r]
  refine Ls.store LO rfl rfl rfl rfl rfl (vs := (R false).cs) (by rw [eR]; rfl) (by rw [eR]; rfl) (by rw [eR]; rfl) hb8 rfl ?_
  intro w9 hb9 m9 _
  have B_r : BX w9 r 37 (R false).cs := by rw [eR]; rw [eR] at hb9; exact hb9
  have n9 : Mv (fun _ => False) w7 w9 := m8.cut m9 fun k hk e => by omega
  have m9 := m7.trans n9
  have hR : ∀ b, RuleAt w9 (R b) := fun b => (hR b).moved n9
  clear hb8 m8 hb9 n9 m7
  refine Ls.nil (N.to ?_)
  refine W.seq (W.list ?_)
  apply Ls.runK LO [3, 9, 10, 11, 12, 37] 3
  · repeat' (first | rfl | with_reducible assumption | assumption | constructor)
  intro w10 f10 s10 hf10
  replace hf10 : f10 = [(3, _), (9, _), (10, _), (11, _), (12, _), (37, _)] := hf10
  subst hf10
  have m10 := m9.same s10
  have hR : ∀ b, RuleAt w10 (R b) := fun b => (hR b).moved ((Mv.refl _ w9).same s10)
  have B_r := B_r.same s10
  clear m9 s10
  refine Ls.alloc LO rfl rfl rfl rfl (zs := [.int .i64 0, .int .u32 0, .int .u32 0, .int .i64 0, .int .i64 0]) rfl ?_
  have hb11 := heap_alloc_new w10 (.cells [Value.int .i64 0, .int .u32 0, .int .u32 0, .int .i64 0, .int .i64 0].toArray 25)
  have m11 : Mv (fun _ => False) w10 (w10.alloc (.cells [Value.int .i64 0, .int .u32 0, .int .u32 0, .int .i64 0, .int .i64 0].toArray 25)) := (Mv.refl _ w10).alloc _
  generalize w10.alloc (.cells [Value.int .i64 0, .int .u32 0, .int .u32 0, .int .i64 0, .int .i64 0].toArray 25) = w11 at hb11 m11
  obtain ⟨t, h_t⟩ : ∃ t, t = w10.heap.size := ⟨_, rfl⟩
  rw [← h_t] at hb11
  rw [← h_t]
  refine Ls.store LO rfl rfl rfl rfl rfl (vs := (wyT 6 h p).cs) rfl rfl rfl hb11 rfl ?_
  intro w12 hb12 m12 _
  have B_t : BX w12 t 25 (wyT 6 h p).cs := hb12
  have n12 : Mv (fun _ => False) w10 w12 := m11.cut m12 fun k hk e => by omega
  have m12 := m10.trans n12
  have hR : ∀ b, RuleAt w12 (R b) := fun b => (hR b).moved n12
  have B_r := B_r.moved n12 (fun e => e)
  clear hb11 m11 hb12 n12 m10
  refine Ls.nil (N.to ?_)
  have d1 : CellsAt w12 t 0 5 (wyT 6 h p).cs := B_t.cells
  refine W.seq (W.list ?_)
  apply Ls.runK LO [3, 9, 10, 11, 12, 13, 38] 1
  · repeat' (first | rfl | with_reducible assumption | assumption | constructor)
  intro w13 f13 s13 hf13
  replace hf13 : f13 = [(3, _), (9, _), (10, _), (11, _), (12, _), (13, _), (38, _)] := hf13
  subst hf13
  refine Ls.alloc LO rfl rfl rfl rfl (zs := [.int .i64 0, .int .u32 0, .int .u32 0, .int .i64 0, .int .i64 0]) rfl ?_
  have hb14 := heap_alloc_new w13 (.cells [Value.int .i64 0, .int .u32 0, .int .u32 0, .int .i64 0, .int .i64 0].toArray 25)
  have m14 : Mv (fun _ => False) w13 (w13.alloc (.cells [Value.int .i64 0, .int .u32 0, .int .u32 0, .int .i64 0, .int .i64 0].toArray 25)) := (Mv.refl _ w13).alloc _
  generalize w13.alloc (.cells [Value.int .i64 0, .int .u32 0, .int .u32 0, .int .i64 0, .int .i64 0].toArray 25) = w14 at hb14 m14
  obtain ⟨u, h_u⟩ : ∃ u, u = w13.heap.size := ⟨_, rfl⟩
  rw [← h_u] at hb14
  rw [← h_u]
  refine Ls.store LO rfl rfl rfl rfl rfl (vs := (wyT 6 h p).cs) rfl rfl rfl hb14 rfl ?_
  intro w15 hb15 m15 _
  have hb15 : BX w15 u 25 (wyT 6 h p).cs := hb15
  have n15 : Mv (fun _ => False) w13 w15 := m14.cut m15 fun k hk e => by omega
  refine Ls.nil (N.to ?_)
  refine W.seq (W.list ?_)
  apply Ls.runK LO [3, 9, 10, 11, 12, 13, 14, 39, 40] 2
  · repeat' (first | rfl | with_reducible assumption | assumption | constructor)
  intro w16 f16 s16 hf16
  replace hf16 : f16 = [(3, _), (9, _), (10, _), (11, _), (12, _), (13, _), (14, _), (39, _), (40, _)] := hf16
  subst hf16
  refine Ls.store LO rfl rfl rfl rfl rfl (vs := [.int .i64 q]) rfl rfl rfl (hb15.same s16) rfl ?_
  intro w17 hb17 m17 _
  have B_u : BX w17 u 25 (wyT 6 h q).cs := hb17
  have n17 : Mv (fun _ => False) w12 w17 := (((((Mv.refl _ w12).same s13).trans n15).same s16).cut m17 fun k hk e => by have := s13.heap; rw [← this] at hk; omega)
  have m17 := m12.trans n17
  have hR : ∀ b, RuleAt w17 (R b) := fun b => (hR b).moved n17
  have B_r := B_r.moved n17 (fun e => e)
  have B_t := B_t.moved n17 (fun e => e)
  clear d1 s13 hb14 m14 hb15 m15 n15 s16 hb17 n17 m12 h_u
  refine Ls.nil (N.to ?_)
  have d1 : CellsAt w17 t 0 5 (wyT 6 h p).cs := B_t.cells
  refine W.seq (W.list ?_)
  apply Ls.runK LO [3, 9, 10, 11, 12, 13, 14, 41] 1
  · repeat' (first | rfl | with_reducible assumption | assumption | constructor)
  intro w18 f18 s18 hf18
  replace hf18 : f18 = [(3, _), (9, _), (10, _), (11, _), (12, _), (13, _), (14, _), (41, _)] := hf18
  subst hf18
  refine Ls.alloc LO rfl rfl rfl rfl (zs := [.int .i64 0, .int .u32 0, .int .u32 0, .int .i64 0, .int .i64 0]) rfl ?_
  have hb19 := heap_alloc_new w18 (.cells [Value.int .i64 0, .int .u32 0, .int .u32 0, .int .i64 0, .int .i64 0].toArray 25)
  have m19 : Mv (fun _ => False) w18 (w18.alloc (.cells [Value.int .i64 0, .int .u32 0, .int .u32 0, .int .i64 0, .int .i64 0].toArray 25)) := (Mv.refl _ w18).alloc _
  generalize w18.alloc (.cells [Value.int .i64 0, .int .u32 0, .int .u32 0, .int .i64 0, .int .i64 0].toArray 25) = w19 at hb19 m19
  obtain ⟨v, h_v⟩ : ∃ v, v = w18.heap.size := ⟨_, rfl⟩
  rw [← h_v] at hb19
  rw [← h_v]
  refine Ls.store LO rfl rfl rfl rfl rfl (vs := (wyT 6 h p).cs) rfl rfl rfl hb19 rfl ?_
  intro w20 hb20 m20 _
  have hb20 : BX w20 v 25 (wyT 6 h p).cs := hb20
  have n20 : Mv (fun _ => False) w18 w20 := m19.cut m20 fun k hk e => by omega
  refine Ls.nil (N.to ?_)
  have kh : Kn (IntKind.u32.wrap (h + 1)) (h + 1) := .of (IntWalk.u32_in _ (by omega))
  refine W.seq (W.list ?_)
  apply Ls.runK LO [3, 10, 11, 12, 13, 14, 15, 43, 44] 3
  · repeat' (first | rfl | with_reducible assumption | assumption | constructor)
  intro w21 f21 s21 hf21
  replace hf21 : f21 = [(3, _), (10, _), (11, _), (12, _), (13, _), (14, _), (15, _), (43, _), (44, _)] := hf21
  subst hf21
  refine Ls.store LO rfl rfl rfl rfl rfl (vs := [.int .u32 (h + 1)]) rfl rfl rfl (hb20.same s21) rfl ?_
  intro w22 hb22 m22 _
  have B_v : BX w22 v 25 (wyT 6 (h + 1) p).cs := hb22
  have n22 : Mv (fun _ => False) w17 w22 := (((((Mv.refl _ w17).same s18).trans n20).same s21).cut m22 fun k hk e => by have := s18.heap; rw [← this] at hk; omega)
  have m22 := m17.trans n22
  have hR : ∀ b, RuleAt w22 (R b) := fun b => (hR b).moved n22
  have B_r := B_r.moved n22 (fun e => e)
  have B_t := B_t.moved n22 (fun e => e)
  have B_u := B_u.moved n22 (fun e => e)
  clear d1 s18 hb19 m19 hb20 m20 n20 s21 hb22 n22 m17 h_v
  refine Ls.nil (N.to ?_)
  have d1 : CellsAt w22 t 0 5 (wyT 6 h p).cs := B_t.cells
  refine W.seq (W.list ?_)
  apply Ls.runK LO [3, 10, 11, 12, 13, 14, 15, 45] 1
  · repeat' (first | rfl | with_reducible assumption | assumption | constructor)
  intro w23 f23 s23 hf23
  replace hf23 : f23 = [(3, _), (10, _), (11, _), (12, _), (13, _), (14, _), (15, _), (45, _)] := hf23
  subst hf23
  refine Ls.alloc LO rfl rfl rfl rfl (zs := [.int .i64 0, .int .u32 0, .int .u32 0, .int .i64 0, .int .i64 0]) rfl ?_
  have hb24 := heap_alloc_new w23 (.cells [Value.int .i64 0, .int .u32 0, .int .u32 0, .int .i64 0, .int .i64 0].toArray 25)
  have m24 : Mv (fun _ => False) w23 (w23.alloc (.cells [Value.int .i64 0, .int .u32 0, .int .u32 0, .int .i64 0, .int .i64 0].toArray 25)) := (Mv.refl _ w23).alloc _
  generalize w23.alloc (.cells [Value.int .i64 0, .int .u32 0, .int .u32 0, .int .i64 0, .int .i64 0].toArray 25) = w24 at hb24 m24
  obtain ⟨y, h_y⟩ : ∃ y, y = w23.heap.size := ⟨_, rfl⟩
  rw [← h_y] at hb24
  rw [← h_y]
  refine Ls.store LO rfl rfl rfl rfl rfl (vs := (wyT 6 h p).cs) rfl rfl rfl hb24 rfl ?_
  intro w25 hb25 m25 _
  have hb25 : BX w25 y 25 (wyT 6 h p).cs := hb25
  have n25 : Mv (fun _ => False) w23 w25 := m24.cut m25 fun k hk e => by omega
  refine Ls.nil (N.to ?_)
  have q1 := quiet_of (w := w25) fun w' s' => place00_says proto 256 w' (by decide) (by decide) hr0.1 hr0.2
  rw [← hx_] at q1
  refine W.seq (W.list ?_)
  apply Ls.runK LO [10, 11, 12, 13, 14, 15, 16, 47, 48] 3
  · repeat' (first | rfl | with_reducible assumption | assumption | constructor)
  intro w26 f26 s26 hf26
  replace hf26 : f26 = [(10, _), (11, _), (12, _), (13, _), (14, _), (15, _), (16, _), (47, _), (48, _)] := hf26
  subst hf26
  refine Ls.store LO rfl rfl rfl rfl rfl (vs := [.int .i64 x]) rfl rfl rfl (hb25.same s26) rfl ?_
  intro w27 hb27 m27 _
  have B_y : BX w27 y 25 (wyT x h p).cs := hb27
  have n27 : Mv (fun _ => False) w22 w27 := (((((Mv.refl _ w22).same s23).trans n25).same s26).cut m27 fun k hk e => by have := s23.heap; rw [← this] at hk; omega)
  have m27 := m22.trans n27
  have hR : ∀ b, RuleAt w27 (R b) := fun b => (hR b).moved n27
  have B_r := B_r.moved n27 (fun e => e)
  have B_t := B_t.moved n27 (fun e => e)
  have B_u := B_u.moved n27 (fun e => e)
  have B_v := B_v.moved n27 (fun e => e)
  clear d1 s23 hb24 m24 hb25 m25 n25 s26 hb27 n27 m22 h_y
  refine Ls.nil (N.to ?_)
  have d1 : CellsAt w27 r 0 15 (R false).cs := B_r.cells
  refine W.seq (W.list ?_)
  apply Ls.runK LO [10, 11, 12, 13, 14, 15, 16, 49] 1
  · repeat' (first | rfl | with_reducible assumption | assumption | constructor)
  intro w28 f28 s28 hf28
  replace hf28 : f28 = [(10, _), (11, _), (12, _), (13, _), (14, _), (15, _), (16, _), (49, _)] := hf28
  subst hf28
  refine Ls.alloc LO rfl rfl rfl rfl (zs := zRule) rfl ?_
  have hb29 := heap_alloc_new w28 (.cells zRule.toArray 37)
  have m29 : Mv (fun _ => False) w28 (w28.alloc (.cells zRule.toArray 37)) := (Mv.refl _ w28).alloc _
  generalize w28.alloc (.cells zRule.toArray 37) = w29 at hb29 m29
  obtain ⟨z, h_z⟩ : ∃ z, z = w28.heap.size := ⟨_, rfl⟩
  rw [← h_z] at hb29
  rw [← h_z]
  refine Ls.store LO rfl rfl rfl rfl rfl (vs := (R false).cs) (by rw [eR]; rfl) (by rw [eR]; rfl) (by rw [eR]; rfl) hb29 rfl ?_
  intro w30 hb30 m30 _
  have hb30 : BX w30 z 37 (wyR bn bs h p false).cs := by rw [eR] at hb30; exact hb30
  have n30 : Mv (fun _ => False) w28 w30 := m29.cut m30 fun k hk e => by omega
  refine Ls.nil (N.to ?_)
  refine W.seq (W.list ?_)
  apply Ls.runK LO [10, 11, 12, 13, 14, 15, 16, 17, 50] 1
  · repeat' (first | rfl | with_reducible assumption | assumption | constructor)
  intro w31 f31 s31 hf31
  replace hf31 : f31 = [(10, _), (11, _), (12, _), (13, _), (14, _), (15, _), (16, _), (17, _), (50, _)] := hf31
  subst hf31
  refine Ls.store LO rfl rfl rfl rfl rfl (vs := [.bool true]) rfl rfl rfl (hb30.same s31) rfl ?_
  intro w32 hb32 m32 _
  have B_z : BX w32 z 37 (R true).cs := by rw [eR]; exact hb32
  have n32 : Mv (fun _ => False) w27 w32 := (((((Mv.refl _ w27).same s28).trans n30).same s31).cut m32 fun k hk e => by have := s28.heap; rw [← this] at hk; omega)
  have m32 := m27.trans n32
  have hR : ∀ b, RuleAt w32 (R b) := fun b => (hR b).moved n32
  have B_r := B_r.moved n32 (fun e => e)
  have B_t := B_t.moved n32 (fun e => e)
  have B_u := B_u.moved n32 (fun e => e)
  have B_v := B_v.moved n32 (fun e => e)
  have B_y := B_y.moved n32 (fun e => e)
  clear d1 s28 hb29 m29 hb30 m30 n30 s31 hb32 n32 m27 h_z
  refine Ls.nil (N.to ?_)
  -- the answers
  obtain ⟨wA, hwA⟩ : ∃ wA, wA = w32 := ⟨_, rfl⟩
  rw [← hwA] at m32 hR B_r B_t B_u B_v B_y B_z
  rw [← hwA]
  have cr : ∀ w', Mv (fun _ => False) wA w' → CellsAt w' r 0 15 (R false).cs := fun w' m => (B_r.moved m (fun e => e)).cells
  have cz : ∀ w', Mv (fun _ => False) wA w' → CellsAt w' z 0 15 (R true).cs := fun w' m => (B_z.moved m (fun e => e)).cells
  have ct : ∀ w', Mv (fun _ => False) wA w' → CellsAt w' t 0 5 (wyT 6 h p).cs := fun w' m => (B_t.moved m (fun e => e)).cells
  have cu : ∀ w', Mv (fun _ => False) wA w' → CellsAt w' u 0 5 (wyT 6 h q).cs := fun w' m => (B_u.moved m (fun e => e)).cells
  have cv : ∀ w', Mv (fun _ => False) wA w' → CellsAt w' v 0 5 (wyT 6 (h + 1) p).cs := fun w' m => (B_v.moved m (fun e => e)).cells
  have cy : ∀ w', Mv (fun _ => False) wA w' → CellsAt w' y 0 5 (wyT x h p).cs := fun w' m => (B_y.moved m (fun e => e)).cells
  have cp : ∀ w', Mv (fun _ => False) wA w' → Cl w' ⟨y, 0, none⟩ (.int .i64 x) := fun w' m => (B_y.moved m (fun e => e)).cl rfl
  have fw : ∀ b T dir w', Mv (fun _ => False) wA w' → Calls Try.prog 9 #[.agg (R b).cs.toArray, .agg (TupV.cs T).toArray, .int .i64 dir] w' fun e w'' => e = .returned (.bool ((R b).fits T dir)) ∧ Mv (fun _ => False) w' w'' := fun b T dir w' m => fits_walk (R b) T dir w' ((hR b).moved m)
  have A1 : (R false).fits (wyT 6 h p) 0 = true := by rw [hRd]; show (wyR bn bs h p false).fits _ _ = _; rw [wy_fits0 _ _ _ _ _ _ _ _ bh bp (by omega) bp]; simp
  have A2 : (R false).fits (wyT 6 h p) 1 = false := by rw [hRd]; exact wy_fits1 _ _ _ _ _ _ _ _ bh bp (by omega) bp (.inl rfl)
  have A3 : (R false).fits (wyT 6 h q) 0 = decide (q = p) := by rw [hRd]; show (wyR bn bs h p false).fits _ _ = _; rw [wy_fits0 _ _ _ _ _ _ _ _ bh bp (by omega) bq]; simp
  have A4 : (R false).fits (wyT 6 (h + 1) p) 0 = false := by rw [hRd]; show (wyR bn bs h p false).fits _ _ = _; rw [wy_fits0 _ _ _ _ _ _ _ _ bh bp (by omega) bp, decide_eq_false (show ¬ h + 1 = h by omega)]; simp
  have A5 : (R false).fits (wyT x h p) 0 = decide (x = 6) := by rw [hRd]; show (wyR bn bs h p false).fits _ _ = _; rw [wy_fits0 _ _ _ _ _ _ _ _ bh bp (by omega) bp]; simp
  have A6 : (R true).fits (wyT 6 (h + 1) p) 1 = false := by rw [hRd]; exact wy_fits1 _ _ _ _ _ _ _ _ bh bp (by omega) bp (.inr (by omega))
  have A7 : pickN (wyT 6 h p) 0 [R false, R false, R false] 0 = [0, 1, 2] := by simp only [pickN, A1, if_true]; rfl
  clear B_r B_t B_u B_v B_y B_z hwA eR
  refine W.seq (W.held mixed (fun w' => Mv (fun _ => False) wA w') [] 53 rfl (fun w' s => (Mv.refl _ wA).same s) ?_)
  intro x0 t0
  have n0 : Mv (fun _ => False) wA x0 := (Mv.refl _ wA).same t0
  apply H.takesK LO true [10, 11, 12, 13, 14, 15, 16, 17, 51, 52] [0, 1] (k := 51) rfl (by kernel_rfl)
  · repeat' (first | rfl | with_reducible assumption | assumption | (intro w' hw'; replace hw' := hw' rfl; have h0' := cr w' hw'; have h1' := ct w' hw') | constructor)
  intro g_ hg_
  replace hg_ : g_ = [(10, _), (11, _), (12, _), (13, _), (14, _), (15, _), (16, _), (17, _), (51, _), (52, _)] := hg_
  subst hg_
  refine H.only (i := 2) rfl (by kernel_rfl) ?_
  refine Ls.call LO rfl rfl rfl rfl rfl (vs := [.agg (R false).cs.toArray, .agg (wyT 6 h p).cs.toArray, .int .i64 0]) rfl (fw false (wyT 6 h p) 0 x0 n0) ?_
  rintro _ x1 ⟨rfl, n1⟩
  refine ⟨_, rfl, ?_⟩
  rw [A1]
  have n1 := n0.trans n1
  refine Ls.nil (N.goOn (fun _ => n1) ?_)
  apply H.takesK LO true [10, 11, 12, 13, 14, 15, 16, 17, 54, 55, 56] [3, 4, 5] (k := 47) rfl (by kernel_rfl)
  · repeat' (first | rfl | with_reducible assumption | assumption | (intro w' hw'; replace hw' := hw' rfl; have h0' := cr w' hw'; have h1' := ct w' hw') | constructor)
  intro g_ hg_
  replace hg_ : g_ = [(10, _), (11, _), (12, _), (13, _), (14, _), (15, _), (16, _), (17, _), (54, _), (55, _), (56, _)] := hg_
  subst hg_
  refine H.only (i := 6) rfl (by kernel_rfl) ?_
  refine Ls.call LO rfl rfl rfl rfl rfl (vs := [.agg (R false).cs.toArray, .agg (wyT 6 h p).cs.toArray, .int .i64 1]) rfl (fw false (wyT 6 h p) 1 x1 n1) ?_
  rintro _ x2 ⟨rfl, n2⟩
  refine ⟨_, rfl, ?_⟩
  rw [A2]
  have n2 := n1.trans n2
  refine Ls.nil (N.goOn (fun _ => n2) ?_)
  have k1 : Kn (q == p) (decide (q = p)) := .of (by by_cases e : q = p <;> simp [e])
  apply H.takesK LO true [10, 11, 12, 13, 14, 15, 16, 17, 60, 61, 62, 66] [7, 8, 9, 10, 11, 13, 14, 15] (k := 38) rfl (by kernel_rfl)
  · repeat' (first | rfl | with_reducible assumption | assumption | (intro w' hw'; replace hw' := hw' rfl; have h0' := cr w' hw'; have h1' := cu w' hw') | constructor)
  intro g_ hg_
  replace hg_ : g_ = [(10, _), (11, _), (12, _), (13, _), (14, _), (15, _), (16, _), (17, _), (60, _), (61, _), (62, _), (66, _)] := hg_
  subst hg_
  refine H.only (i := 12) rfl (by kernel_rfl) ?_
  refine Ls.call LO rfl rfl rfl rfl rfl (vs := [.agg (R false).cs.toArray, .agg (wyT 6 h q).cs.toArray, .int .i64 0]) rfl (fw false (wyT 6 h q) 0 x2 n2) ?_
  rintro _ x3 ⟨rfl, n3⟩
  refine ⟨_, rfl, ?_⟩
  rw [A3]
  have n3 := n2.trans n3
  refine Ls.nil (N.goOn (fun _ => n3) ?_)
  have k2 : Kn (decide (q = p) == decide (q = p)) true := .of (beq_self_eq_true _)
  apply H.takesK LO true [10, 11, 12, 13, 14, 15, 16, 17, 69, 70, 71] [16, 17, 18, 19, 20] (k := 32) rfl (by kernel_rfl)
  · repeat' (first | rfl | with_reducible assumption | assumption | (intro w' hw'; replace hw' := hw' rfl; have h0' := cr w' hw'; have h1' := cv w' hw') | constructor)
  intro g_ hg_
  replace hg_ : g_ = [(10, _), (11, _), (12, _), (13, _), (14, _), (15, _), (16, _), (17, _), (69, _), (70, _), (71, _)] := hg_
  subst hg_
  refine H.only (i := 21) rfl (by kernel_rfl) ?_
  refine Ls.call LO rfl rfl rfl rfl rfl (vs := [.agg (R false).cs.toArray, .agg (wyT 6 (h + 1) p).cs.toArray, .int .i64 0]) rfl (fw false (wyT 6 (h + 1) p) 0 x3 n3) ?_
  rintro _ x4 ⟨rfl, n4⟩
  refine ⟨_, rfl, ?_⟩
  rw [A4]
  have n4 := n3.trans n4
  refine Ls.nil (N.goOn (fun _ => n4) ?_)
  have k3 : Kn (x == 6) (decide (x = 6)) := .of (by by_cases e : x = 6 <;> simp [e])
  apply H.takesK LO true [10, 11, 12, 13, 14, 15, 16, 17, 75, 76, 77, 81] [22, 23, 24, 25, 26, 28, 29, 30] (k := 23) rfl (by kernel_rfl)
  · repeat' (first | rfl | with_reducible assumption | assumption | (intro w' hw'; replace hw' := hw' rfl; have h0' := cr w' hw'; have h1' := cy w' hw'; have h2' := cp w' hw') | constructor)
  intro g_ hg_
  replace hg_ : g_ = [(10, _), (11, _), (12, _), (13, _), (14, _), (15, _), (16, _), (17, _), (75, _), (76, _), (77, _), (81, _)] := hg_
  subst hg_
  refine H.only (i := 27) rfl (by kernel_rfl) ?_
  refine Ls.call LO rfl rfl rfl rfl rfl (vs := [.agg (R false).cs.toArray, .agg (wyT x h p).cs.toArray, .int .i64 0]) rfl (fw false (wyT x h p) 0 x4 n4) ?_
  rintro _ x5 ⟨rfl, n5⟩
  refine ⟨_, rfl, ?_⟩
  rw [A5]
  have n5 := n4.trans n5
  refine Ls.nil (N.goOn (fun _ => n5) ?_)
  have k4 : Kn (decide (x = 6) == decide (x = 6)) true := .of (beq_self_eq_true _)
  apply H.takesK LO true [10, 11, 12, 13, 14, 15, 16, 17, 84, 85, 86, 87, 89] [31, 32, 33, 34, 35, 36, 38] (k := 15) rfl (by kernel_rfl)
  · repeat' (first | rfl | with_reducible assumption | assumption | (intro w' hw'; replace hw' := hw' rfl; have h0' := cr w' hw'; have h1' := ct w' hw') | constructor)
  intro g_ hg_
  replace hg_ : g_ = [(10, _), (11, _), (12, _), (13, _), (14, _), (15, _), (16, _), (17, _), (84, _), (85, _), (86, _), (87, _), (89, _)] := hg_
  subst hg_
  refine H.only (i := 37) rfl (by kernel_rfl) ?_
  refine Ls.buildZ [(.agg (R false).cs.toArray, (R false).cs), (.agg (R false).cs.toArray, (R false).cs), (.agg (R false).cs.toArray, (R false).cs)] rfl rfl rfl rfl und_rules hiR hzR hsR rfl rfl rfl rfl rfl rfl (fun p hp => by
    simp only [List.mem_cons, List.not_mem_nil, or_false] at hp
    rcases hp with rfl | rfl | rfl <;> exact ⟨rfl, rfl⟩) ?_
  have hb6 := heap_alloc_new x5 (.cells ([R false, R false, R false].flatMap RuleV.cs).toArray 37)
  have o6 : Mv (fun _ => False) x5 (x5.alloc (.cells ([R false, R false, R false].flatMap RuleV.cs).toArray 37)) := (Mv.refl _ x5).alloc _
  show Ls Try.prog 103 _ _ _ (x5.alloc (.cells ([R false, R false, R false].flatMap RuleV.cs).toArray 37)) _
  generalize x5.alloc (.cells ([R false, R false, R false].flatMap RuleV.cs).toArray 37) = x6 at hb6 o6
  obtain ⟨g, hg⟩ : ∃ g, g = x5.heap.size := ⟨_, rfl⟩
  rw [← hg] at hb6
  rw [← hg]
  have n6 := n5.trans o6
  have hRs : RulesAt x6 (.slice (some ⟨g, 0, none⟩) 3 3) [R false, R false, R false] := ⟨Rd.new hb6 rfl, fun r hr => by
    simp only [List.mem_cons, List.not_mem_nil, or_false] at hr
    rcases hr with rfl | rfl | rfl <;> exact (hR false).moved n6⟩
  refine Ls.nil (N.goOn (fun _ => n6) ?_)
  refine H.only (i := 39) rfl (by kernel_rfl) ?_
  refine Ls.call LO rfl rfl rfl rfl rfl (vs := [.slice (some ⟨g, 0, none⟩) 3 3, .agg (wyT 6 h p).cs.toArray, .int .i64 0]) rfl (pick_walk _ [R false, R false, R false] (wyT 6 h p) 0 x6 hRs (show 3 ≤ 1000000 by decide)) ?_
  rintro _ x7 ⟨v', rfl, ho, _, n7⟩
  refine ⟨_, rfl, ?_⟩
  rw [A7] at ho
  obtain ⟨a', c', hv', _, _, _⟩ := own_slice ho
  subst hv'
  have n7 := n6.trans n7
  refine Ls.nil (N.goOn (fun _ => n7) ?_)
  apply H.takesK LO true [10, 11, 12, 13, 14, 15, 16, 17, 94, 95, 96] [40, 41, 42, 43, 44, 45] (k := 7) rfl (by kernel_rfl)
  · repeat' (first | rfl | with_reducible assumption | assumption | (intro w' hw'; replace hw' := hw' rfl; have h0' := cz w' hw'; have h1' := cv w' hw') | constructor)
  intro g_ hg_
  replace hg_ : g_ = [(10, _), (11, _), (12, _), (13, _), (14, _), (15, _), (16, _), (17, _), (94, _), (95, _), (96, _)] := hg_
  subst hg_
  refine H.only (i := 46) rfl (by kernel_rfl) ?_
  refine Ls.call LO rfl rfl rfl rfl rfl (vs := [.agg (R true).cs.toArray, .agg (wyT 6 (h + 1) p).cs.toArray, .int .i64 1]) rfl (fw true (wyT 6 (h + 1) p) 1 x7 n7) ?_
  rintro _ x8 ⟨rfl, n8⟩
  refine ⟨_, rfl, ?_⟩
  rw [A6]
  have n8 := n7.trans n8
  refine Ls.nil (N.goOn (fun _ => n8) ?_)
  apply H.takesK LO false [10, 11, 12, 13, 14, 15, 16, 17, 100] [47, 48, 49] (k := 3) rfl (by kernel_rfl)
  · repeat' (first | rfl | with_reducible assumption | assumption | (intro w' hw'; replace hw' := True.intro) | constructor)
  intro g_ hg_
  replace hg_ : g_ = [(10, _), (11, _), (12, _), (13, _), (14, _), (15, _), (16, _), (17, _), (100, _)] := hg_
  subst hg_
  refine H.only (i := 50) rfl (by kernel_rfl) ?_
  refine Ls.call LO rfl rfl rfl rfl rfl (vs := []) rfl (awake_walk x8) ?_
  rintro _ x9 ⟨rfl, n9⟩
  refine ⟨_, rfl, ?_⟩
  have n9 := n8.trans n9
  refine Ls.nil (N.goOn (fun _ => n9) ?_)
  apply H.takesK LO false [8] [51, 52] (k := 0) rfl (by kernel_rfl)
  · repeat' (first | rfl | with_reducible assumption | assumption | (intro w' hw'; replace hw' := True.intro) | constructor)
  intro g_ hg_
  replace hg_ : g_ = [(8, _)] := hg_
  subst hg_
  refine H.done (by kernel_rfl) (N.to ?_)
  exact W.ret (post LO (rs := [.tmp 8]) rfl (vs := [.bool true]) (.tmp rfl .nil) ⟨rfl, m32.trans n9⟩)
theorem ways_law (host port ask proto : Int) (w : World) (h0 : (Lit.int .i64 host).wf = true) (h1 : (Lit.int .i64 port).wf = true) (h2 : (Lit.int .i64 ask).wf = true) (h3 : (Lit.int .i64 proto).wf = true) : Calls Try.prog 5 #[.int .i64 host, .int .i64 port, .int .i64 ask, .int .i64 proto] w (Yes w) :=
  ways_walk host port ask proto w (bounds_i64 h0) (bounds_i64 h1) (bounds_i64 h2) (bounds_i64 h3)
end Go.Proofs.Ytbbafhpnlmmjjaa
