/- What is proved: a segment that is made is got again; back twice: the law. Conditions: those that stand in each theorem. -/
import Derived.Test.YtbidgeaigiijpaaNetBk3
namespace Go.Proofs.Ytbidgeaigiijpaa
set_option linter.unusedVariables false
set_option linter.unusedSimpArgs false
set_option linter.unusedSectionVars false
open Go.RowKit Fw Nt
theorem few_yes {i : IpV} {h : SegV} {body : ByteArray} (hf : fewB i h body = true) : i.o.size ≤ 100 ∧ h.o.size ≤ 100 ∧ body.size ≤ 2200 := of_decide_eq_true hf
theorem seg_bad {E : EthV} {i : IpV} {h : SegV} {body : ByteArray} (hb : ¬ (i.chk = true ∧ h.chk = true ∧ 20 + h.o.size + body.size ≤ 2000)) : segS E i h body = ⟨#[]⟩ := by
  unfold segS
  by_cases hc : h.chk = true
  · have hc' := hc
    unfold SegV.chk at hc'
    by_cases hz : 20 + h.o.size + body.size ≤ 2000
    · rw [if_pos (tput_ok hc hz).1]
      unfold datS
      have hi : ¬ i.chk = true := fun h' => hb ⟨h', hc, hz⟩
      unfold IpV.chk at hi
      unfold IpV.put putI
      rw [if_neg hi, if_neg (by decide)]
    · rw [if_neg]
      unfold SegV.put putT
      rw [if_pos hc', if_pos (by omega)]
      decide
  · rw [if_neg]
    unfold SegV.chk at hc
    unfold SegV.put putT
    rw [if_neg hc]
    decide
set_option maxRecDepth 100000 in
set_option maxHeartbeats 16000000 in
theorem backlaw_walk (e : EthV) (i : IpV) (h : SegV) (body : ByteArray) (w : World) (ok : e.Ok) (i1_ : 0 ≤ i.src ∧ i.src ≤ 4294967295) (i2_ : 0 ≤ i.dst ∧ i.dst ≤ 4294967295) (h1_ : 0 ≤ h.seq ∧ h.seq ≤ 4294967295) (h2_ : 0 ≤ h.ack ∧ h.ack ≤ 4294967295) : Calls Try.prog 4 #[.agg e.cs.toArray, .agg i.cs.toArray, .agg h.cs.toArray, .string body] w (Yes w) := by
  obtain ⟨f, hf⟩ : ∃ f : Nat → Int, f = fun j : Nat => bt e.d (j : Int) := ⟨_, rfl⟩
  obtain ⟨g, hg⟩ : ∃ g : Nat → Int, g = fun j : Nat => bt e.s (j : Int) := ⟨_, rfl⟩
  have hcs : ∀ t, (EthV.mk e.d e.s t).cs = ecs f g t := fun t => by rw [hf, hg]; exact EthV.ecs (h := ⟨e.d, e.s, t⟩) ⟨ok.d, ok.s⟩
  have hcs0 : e.cs = ecs f g e.t := hcs e.t
  rw [hcs0]
  refine calls_W (n := 189) (vs := [.agg (ecs f g e.t).toArray, .agg i.cs.toArray, .agg h.cs.toArray, .string body]) Try.func4 rfl rfl rfl ?_
  have fin : ∀ w' f, Mv (fun _ => False) w w' → fget f 8 = some (.bool true) → N 189 f w' (bodyPost Try.prog Try.f4 (Yes w)) .ret := fun w' f m hf =>
    post LO (rs := [.tmp 8]) rfl (vs := [.bool true]) (.tmp hf .nil) ⟨rfl, m⟩
  refine W.seq (W.list ?_)
  refine Ls.box rfl rfl rfl rfl rfl (vs := ecs f g e.t) rfl ?_
  have hp : BX (w.alloc (.cells (ecs f g e.t).toArray 33)) w.heap.size 33 (ecs f g e.t) := heap_alloc_new w (.cells (ecs f g e.t).toArray 33)
  have m1 : Mv (fun _ => False) w (w.alloc (.cells (ecs f g e.t).toArray 33)) := (Mv.refl _ w).alloc _
  generalize w.alloc (.cells (ecs f g e.t).toArray 33) = w1 at hp m1
  have hz_w : w.heap.size ≤ w.heap.size := Nat.le_refl _
  obtain ⟨p, hp_p⟩ : ∃ p, p = w.heap.size := ⟨_, rfl⟩
  rw [← hp_p] at hp hz_w
  rw [← hp_p]
  refine Ls.box rfl rfl rfl rfl rfl (vs := i.cs) rfl ?_
  have hq : BX (w1.alloc (.cells (i.cs).toArray 28)) w1.heap.size 28 (i.cs) := heap_alloc_new w1 (.cells (i.cs).toArray 28)
  have m2 : Mv (fun _ => False) w1 (w1.alloc (.cells (i.cs).toArray 28)) := (Mv.refl _ w1).alloc _
  generalize w1.alloc (.cells (i.cs).toArray 28) = w2 at hq m2
  have hz_w1 : w.heap.size ≤ w1.heap.size := m1.size
  have hl_hp := hp.lt
  obtain ⟨q, hp_q⟩ : ∃ q, q = w1.heap.size := ⟨_, rfl⟩
  rw [← hp_q] at hq hz_w1 hl_hp
  rw [← hp_q]
  have hp := hp.moved m2 fun e => e
  have m2 := m1.trans m2
  refine Ls.box rfl rfl rfl rfl rfl (vs := h.cs) rfl ?_
  have hr : BX (w2.alloc (.cells (h.cs).toArray 26)) w2.heap.size 26 (h.cs) := heap_alloc_new w2 (.cells (h.cs).toArray 26)
  have m3 : Mv (fun _ => False) w2 (w2.alloc (.cells (h.cs).toArray 26)) := (Mv.refl _ w2).alloc _
  generalize w2.alloc (.cells (h.cs).toArray 26) = w3 at hr m3
  have hz_w2 : w.heap.size ≤ w2.heap.size := m2.size
  have hl_hp := hp.lt
  have hl_hq := hq.lt
  obtain ⟨r, hp_r⟩ : ∃ r, r = w2.heap.size := ⟨_, rfl⟩
  rw [← hp_r] at hr hz_w2 hl_hp hl_hq
  rw [← hp_r]
  have hp := hp.moved m3 fun e => e
  have hq := hq.moved m3 fun e => e
  have m3 := m2.trans m3
  apply Ls.runK LO [3, 4, 5, 6] 1
  · repeat' (first | rfl | with_reducible assumption | assumption | constructor)
  intro w4 f4 s4 hf4
  replace hf4 : f4 = [(3, _), (4, _), (5, _), (6, _)] := hf4
  subst hf4
  have m4 := m3.same s4
  have hp := hp.same s4
  have hq := hq.same s4
  have hr := hr.same s4
  refine Ls.nil (N.to ?_)
  refine W.cutS (fun w' g_ => (Mv (fun _ => False) w w' ∧ BX w' p 33 (ecs f g e.t) ∧ BX w' q 28 i.cs ∧ BX w' r 26 h.cs ∧ g_ = [(3, .string body), (4, .pointer (some ⟨p, 0, none⟩)), (5, .pointer (some ⟨q, 0, none⟩)), (6, .pointer (some ⟨r, 0, none⟩))]) ∧ fewB i h body = true) ?_ ?_
  · refine W.seq (W.list ?_)
    have c1 : CellsAt w4 q 0 10 i.cs := hq.cells
    have c2 : CellsAt w4 r 0 7 h.cs := hr.cells
    apply Ls.runK LO [3, 4, 5, 6, 23, 24, 25] 3
    · repeat' (first | rfl | with_reducible assumption | assumption | constructor)
    intro w5 f5 s5 hf5
    replace hf5 : f5 = [(3, _), (4, _), (5, _), (6, _), (23, _), (24, _), (25, _)] := hf5
    subst hf5
    refine Ls.call LO rfl rfl rfl rfl rfl (vs := [.agg i.cs.toArray, .agg h.cs.toArray, .string body]) rfl (few_walk i h body w5) ?_
    rintro _ w6 ⟨rfl, n6⟩
    refine ⟨_, rfl, ?_⟩
    apply Ls.runK LO [3, 4, 5, 6, 27] 1
    · repeat' (first | rfl | with_reducible assumption | assumption | constructor)
    intro w7 f7 s7 hf7
    replace hf7 : f7 = [(3, _), (4, _), (5, _), (6, _), (27, _)] := hf7
    subst hf7
    refine Ls.nil (N.to ?_)
    have m7 := ((m4.same s5).trans n6).same s7
    have hp := ((hp.same s5).moved n6 fun e => e).same s7
    have hq := ((hq.same s5).moved n6 fun e => e).same s7
    have hr := ((hr.same s5).moved n6 fun e => e).same s7
    cases hfew : fewB i h body with
    | true =>
      refine W.cond (b := false) rfl (fun h => by cases h) (fun _ => W.skip ?_)
      exact N.cut ⟨⟨m7, hp, hq, hr, rfl⟩, rfl⟩ (sub_keys rfl)
    | false =>
      refine W.cond (b := true) rfl (fun _ => ?_) (fun h => by cases h)
      refine W.seq (W.list ?_)
      refine Ls.call LO rfl rfl rfl rfl rfl (vs := []) rfl (awake_walk w7) ?_
      rintro _ w8 ⟨rfl, m8⟩
      refine ⟨_, rfl, ?_⟩
      apply Ls.runK LO [8] 1
      · repeat' (first | rfl | with_reducible assumption | assumption | constructor)
      intro w9 f9 s9 hf9
      replace hf9 : f9 = [(8, _)] := hf9
      subst hf9
      exact Ls.nil (N.to (W.ret (N.thenR (fin _ _ ((m7.trans m8).same s9) rfl))))
  clear m4 hp hq hr
  rintro w4 _ ⟨⟨m4, hp, hq, hr, rfl⟩, hfew⟩
  obtain ⟨l1, l2, l3⟩ := few_yes hfew
  have iok : i.Ok := ⟨i1_, i2_, by omega⟩
  have hok : h.Ok := ⟨h1_, h2_, by omega⟩
  -- the type
  obtain ⟨t, ht⟩ : ∃ t, t = bits .and .i64 e.t 65535 := ⟨_, rfl⟩
  have htr : 0 ≤ t ∧ t ≤ 65535 := by rw [ht, and_any]; omega
  have kt : Kn (bits .and .i64 e.t 65535) t := .of ht.symm
  refine W.seq (W.list ?_)
  have d2 : Cl w4 ⟨p, 0 + 12, none⟩ (.int .i64 e.t) := hp.cl rfl
  apply Ls.runK LO [3, 4, 5, 6, 31, 32] 4
  · repeat' (first | rfl | with_reducible assumption | assumption | constructor)
  intro w5 f5 s5 hf5
  replace hf5 : f5 = [(3, _), (4, _), (5, _), (6, _), (31, _), (32, _)] := hf5
  subst hf5
  have m5 := m4.same s5
  have hp := hp.same s5
  have hq := hq.same s5
  have hr := hr.same s5
  refine Ls.store LO rfl rfl rfl rfl rfl (vs := [.int .i64 t]) rfl rfl rfl hp rfl ?_
  intro w6 hp n6 _
  have hp : BX w6 _ 33 (ecs f g t) := hp
  have hq := hq.moved n6 (by omega)
  have hr := hr.moved n6 (by omega)
  have m6 : Mv (fun _ => False) w w6 := m5.cut n6 fun k hk e => by omega
  refine Ls.nil (N.to ?_)
  clear d2 kt
  obtain ⟨E, hE⟩ : ∃ E : EthV, E = ⟨e.d, e.s, t⟩ := ⟨_, rfl⟩
  have hEok : E.Ok := by rw [hE]; exact ⟨ok.d, ok.s⟩
  have hEcs : ecs f g t = E.cs := by rw [hE]; exact (hcs t).symm
  have hEt : E.t = t := by rw [hE]
  refine W.seq (W.list ?_)
  have c0 : CellsAt w6 p 0 13 (ecs f g t) := hp.cells
  have c1 : CellsAt w6 q 0 10 i.cs := hq.cells
  have c2 : CellsAt w6 r 0 7 h.cs := hr.cells
  apply Ls.runK LO [3, 4, 5, 6, 33, 34, 35, 36] 4
  · repeat' (first | rfl | with_reducible assumption | assumption | constructor)
  intro w7 f7 s7 hf7
  replace hf7 : f7 = [(3, _), (4, _), (5, _), (6, _), (33, _), (34, _), (35, _), (36, _)] := hf7
  subst hf7
  have m7 := m6.same s7
  have hp := hp.same s7
  have hq := hq.same s7
  have hr := hr.same s7
  refine Ls.call LO rfl rfl rfl rfl rfl (vs := [.agg (ecs f g t).toArray, .agg i.cs.toArray, .agg h.cs.toArray, .string body]) rfl (seg_walk E i h body w7 hEok iok hok (by omega) hEcs) ?_
  rintro _ w8 ⟨rfl, n8⟩
  have hp := hp.moved n8 fun e => e
  have hq := hq.moved n8 fun e => e
  have hr := hr.moved n8 fun e => e
  have m8 := m7.trans n8
  refine ⟨_, rfl, ?_⟩
  obtain ⟨s, hs⟩ : ∃ s, s = segS E i h body := ⟨_, rfl⟩
  rw [← hs]
  apply Ls.runK LO [3, 4, 5, 6, 9] 1
  · repeat' (first | rfl | with_reducible assumption | assumption | constructor)
  intro w9 f9 s9 hf9
  replace hf9 : f9 = [(3, _), (4, _), (5, _), (6, _), (9, _)] := hf9
  subst hf9
  have m9 := m8.same s9
  have hp := hp.same s9
  have hq := hq.same s9
  have hr := hr.same s9
  refine Ls.nil (N.to ?_)
  clear c0 c1 c2
  refine W.seq (W.list ?_)
  have c0 : CellsAt w9 p 0 13 (ecs f g t) := hp.cells
  have c1 : CellsAt w9 q 0 10 i.cs := hq.cells
  apply Ls.runK LO [3, 4, 5, 6, 9, 39, 40] 2
  · repeat' (first | rfl | with_reducible assumption | assumption | constructor)
  intro w10 f10 sw10 hf10
  replace hf10 : f10 = [(3, _), (4, _), (5, _), (6, _), (9, _), (39, _), (40, _)] := hf10
  subst hf10
  have m10 := m9.same sw10
  have hp := hp.same sw10
  have hq := hq.same sw10
  have hr := hr.same sw10
  refine Ls.call LO rfl rfl rfl rfl rfl (vs := [.agg (ecs f g t).toArray, .agg i.cs.toArray]) rfl (cback_walk _ _ t _ w10) ?_
  rintro _ w11 ⟨rfl, nw11⟩
  have hp := hp.moved nw11 fun e => e
  have hq := hq.moved nw11 fun e => e
  have hr := hr.moved nw11 fun e => e
  have m11 := m10.trans nw11
  refine ⟨_, rfl, ?_⟩
  apply Ls.runK LO [3, 4, 5, 6, 9, 42, 43] 3
  · repeat' (first | rfl | with_reducible assumption | assumption | constructor)
  intro w12 f12 sw12 hf12
  replace hf12 : f12 = [(3, _), (4, _), (5, _), (6, _), (9, _), (42, _), (43, _)] := hf12
  subst hf12
  have m12 := m11.same sw12
  have hp := hp.same sw12
  have hq := hq.same sw12
  have hr := hr.same sw12
  refine Ls.alloc LO rfl rfl rfl rfl (zs := ecs e0 e0 0) rfl ?_
  have hx : BX (w12.alloc (.cells (ecs e0 e0 0).toArray 33)) w12.heap.size 33 (ecs e0 e0 0) := heap_alloc_new w12 (.cells (ecs e0 e0 0).toArray 33)
  have m13 : Mv (fun _ => False) w12 (w12.alloc (.cells (ecs e0 e0 0).toArray 33)) := (Mv.refl _ w12).alloc _
  generalize w12.alloc (.cells (ecs e0 e0 0).toArray 33) = w13 at hx m13
  have hz_w12 : w.heap.size ≤ w12.heap.size := m12.size
  have hl_hp := hp.lt
  have hl_hq := hq.lt
  have hl_hr := hr.lt
  obtain ⟨x, hp_x⟩ : ∃ x, x = w12.heap.size := ⟨_, rfl⟩
  rw [← hp_x] at hx hz_w12 hl_hp hl_hq hl_hr
  rw [← hp_x]
  have hp := hp.moved m13 fun e => e
  have hq := hq.moved m13 fun e => e
  have hr := hr.moved m13 fun e => e
  have m13 := m12.trans m13
  refine Ls.alloc LO rfl rfl rfl rfl (zs := ipN.cs) rfl ?_
  have hy : BX (w13.alloc (.cells (ipN.cs).toArray 28)) w13.heap.size 28 (ipN.cs) := heap_alloc_new w13 (.cells (ipN.cs).toArray 28)
  have m14 : Mv (fun _ => False) w13 (w13.alloc (.cells (ipN.cs).toArray 28)) := (Mv.refl _ w13).alloc _
  generalize w13.alloc (.cells (ipN.cs).toArray 28) = w14 at hy m14
  have hz_w13 : w.heap.size ≤ w13.heap.size := m13.size
  have hl_hp := hp.lt
  have hl_hq := hq.lt
  have hl_hr := hr.lt
  have hl_hx := hx.lt
  obtain ⟨y, hp_y⟩ : ∃ y, y = w13.heap.size := ⟨_, rfl⟩
  rw [← hp_y] at hy hz_w13 hl_hp hl_hq hl_hr hl_hx
  rw [← hp_y]
  have hp := hp.moved m14 fun e => e
  have hq := hq.moved m14 fun e => e
  have hr := hr.moved m14 fun e => e
  have hx := hx.moved m14 fun e => e
  have m14 := m13.trans m14
  refine Ls.store LO rfl rfl rfl rfl rfl (vs := ecs g f t) rfl rfl rfl hx rfl ?_
  intro w15 hx nw15 _
  have hx : BX w15 _ 33 (ecs g f t) := hx
  have hp := hp.moved nw15 (by omega)
  have hq := hq.moved nw15 (by omega)
  have hr := hr.moved nw15 (by omega)
  have hy := hy.moved nw15 (by omega)
  have m15 : Mv (fun _ => False) w w15 := m14.cut nw15 fun k hk e => by omega
  refine Ls.store LO rfl rfl rfl rfl rfl (vs := i.back.cs) rfl rfl rfl hy rfl ?_
  intro w16 hy nw16 _
  have hy : BX w16 _ 28 (i.back.cs) := hy
  have hp := hp.moved nw16 (by omega)
  have hq := hq.moved nw16 (by omega)
  have hr := hr.moved nw16 (by omega)
  have hx := hx.moved nw16 (by omega)
  have m16 : Mv (fun _ => False) w w16 := m15.cut nw16 fun k hk e => by omega
  refine Ls.nil (N.to ?_)
  clear c0 c1
  refine W.seq (W.list ?_)
  have c0 : CellsAt w16 x 0 13 (ecs g f t) := hx.cells
  have c1 : CellsAt w16 y 0 10 i.back.cs := hy.cells
  apply Ls.runK LO [3, 4, 5, 6, 9, 10, 11, 45, 46] 2
  · repeat' (first | rfl | with_reducible assumption | assumption | constructor)
  intro w17 f17 sw17 hf17
  replace hf17 : f17 = [(3, _), (4, _), (5, _), (6, _), (9, _), (10, _), (11, _), (45, _), (46, _)] := hf17
  subst hf17
  have m17 := m16.same sw17
  have hp := hp.same sw17
  have hq := hq.same sw17
  have hr := hr.same sw17
  have hx := hx.same sw17
  have hy := hy.same sw17
  refine Ls.call LO rfl rfl rfl rfl rfl (vs := [.agg (ecs g f t).toArray, .agg i.back.cs.toArray]) rfl (cback_walk _ _ t _ w17) ?_
  rintro _ w18 ⟨rfl, nw18⟩
  have hp := hp.moved nw18 fun e => e
  have hq := hq.moved nw18 fun e => e
  have hr := hr.moved nw18 fun e => e
  have hx := hx.moved nw18 fun e => e
  have hy := hy.moved nw18 fun e => e
  have m18 := m17.trans nw18
  refine ⟨_, rfl, ?_⟩
  apply Ls.runK LO [3, 4, 5, 6, 9, 10, 11, 48, 49] 3
  · repeat' (first | rfl | with_reducible assumption | assumption | constructor)
  intro w19 f19 sw19 hf19
  replace hf19 : f19 = [(3, _), (4, _), (5, _), (6, _), (9, _), (10, _), (11, _), (48, _), (49, _)] := hf19
  subst hf19
  have m19 := m18.same sw19
  have hp := hp.same sw19
  have hq := hq.same sw19
  have hr := hr.same sw19
  have hx := hx.same sw19
  have hy := hy.same sw19
  refine Ls.alloc LO rfl rfl rfl rfl (zs := ecs e0 e0 0) rfl ?_
  have hu : BX (w19.alloc (.cells (ecs e0 e0 0).toArray 33)) w19.heap.size 33 (ecs e0 e0 0) := heap_alloc_new w19 (.cells (ecs e0 e0 0).toArray 33)
  have m20 : Mv (fun _ => False) w19 (w19.alloc (.cells (ecs e0 e0 0).toArray 33)) := (Mv.refl _ w19).alloc _
  generalize w19.alloc (.cells (ecs e0 e0 0).toArray 33) = w20 at hu m20
  have hz_w19 : w.heap.size ≤ w19.heap.size := m19.size
  have hl_hp := hp.lt
  have hl_hq := hq.lt
  have hl_hr := hr.lt
  have hl_hx := hx.lt
  have hl_hy := hy.lt
  obtain ⟨u, hp_u⟩ : ∃ u, u = w19.heap.size := ⟨_, rfl⟩
  rw [← hp_u] at hu hz_w19 hl_hp hl_hq hl_hr hl_hx hl_hy
  rw [← hp_u]
  have hp := hp.moved m20 fun e => e
  have hq := hq.moved m20 fun e => e
  have hr := hr.moved m20 fun e => e
  have hx := hx.moved m20 fun e => e
  have hy := hy.moved m20 fun e => e
  have m20 := m19.trans m20
  refine Ls.alloc LO rfl rfl rfl rfl (zs := ipN.cs) rfl ?_
  have hv : BX (w20.alloc (.cells (ipN.cs).toArray 28)) w20.heap.size 28 (ipN.cs) := heap_alloc_new w20 (.cells (ipN.cs).toArray 28)
  have m21 : Mv (fun _ => False) w20 (w20.alloc (.cells (ipN.cs).toArray 28)) := (Mv.refl _ w20).alloc _
  generalize w20.alloc (.cells (ipN.cs).toArray 28) = w21 at hv m21
  have hz_w20 : w.heap.size ≤ w20.heap.size := m20.size
  have hl_hp := hp.lt
  have hl_hq := hq.lt
  have hl_hr := hr.lt
  have hl_hx := hx.lt
  have hl_hy := hy.lt
  have hl_hu := hu.lt
  obtain ⟨v, hp_v⟩ : ∃ v, v = w20.heap.size := ⟨_, rfl⟩
  rw [← hp_v] at hv hz_w20 hl_hp hl_hq hl_hr hl_hx hl_hy hl_hu
  rw [← hp_v]
  have hp := hp.moved m21 fun e => e
  have hq := hq.moved m21 fun e => e
  have hr := hr.moved m21 fun e => e
  have hx := hx.moved m21 fun e => e
  have hy := hy.moved m21 fun e => e
  have hu := hu.moved m21 fun e => e
  have m21 := m20.trans m21
  refine Ls.store LO rfl rfl rfl rfl rfl (vs := ecs f g t) rfl rfl rfl hu rfl ?_
  intro w22 hu nw22 _
  have hu : BX w22 _ 33 (ecs f g t) := hu
  have hp := hp.moved nw22 (by omega)
  have hq := hq.moved nw22 (by omega)
  have hr := hr.moved nw22 (by omega)
  have hx := hx.moved nw22 (by omega)
  have hy := hy.moved nw22 (by omega)
  have hv := hv.moved nw22 (by omega)
  have m22 : Mv (fun _ => False) w w22 := m21.cut nw22 fun k hk e => by omega
  refine Ls.store LO rfl rfl rfl rfl rfl (vs := i.back.back.cs) rfl rfl rfl hv rfl ?_
  intro w23 hv nw23 _
  have hv : BX w23 _ 28 (i.back.back.cs) := hv
  have hp := hp.moved nw23 (by omega)
  have hq := hq.moved nw23 (by omega)
  have hr := hr.moved nw23 (by omega)
  have hx := hx.moved nw23 (by omega)
  have hy := hy.moved nw23 (by omega)
  have hu := hu.moved nw23 (by omega)
  have m23 : Mv (fun _ => False) w w23 := m22.cut nw23 fun k hk e => by omega
  refine Ls.nil (N.to ?_)
  clear c0 c1
  -- back twice
  refine W.seq ?_
  refine W.seq (W.list ?_)
  have c0 : CellsAt w23 u 0 6 (six f) := hu.part (x := []) (y := six f) (z := six g ++ [.int .i64 t]) rfl rfl rfl
  have c1 : CellsAt w23 p 0 6 (six f) := hp.part (x := []) (y := six f) (z := six g ++ [.int .i64 t]) rfl rfl rfl
  apply Ls.runK LO [3, 4, 5, 6, 9, 11, 12, 13, 51, 53] 4
  · repeat' (first | rfl | with_reducible assumption | assumption | constructor)
  intro w24 f24 s24 hf24
  replace hf24 : f24 = [(3, _), (4, _), (5, _), (6, _), (9, _), (11, _), (12, _), (13, _), (51, _), (53, _)] := hf24
  subst hf24
  have m24 := m23.same s24
  have hp := hp.same s24
  have hq := hq.same s24
  have hr := hr.same s24
  have hx := hx.same s24
  have hy := hy.same s24
  have hu := hu.same s24
  have hv := hv.same s24
  refine Ls.aggSame rfl rfl rfl rfl rfl rfl six_guard (six_eq f) ?_
  have c2 : CellsAt w24 u 6 6 (six g) := hu.part (x := six f) (y := six g) (z := [.int .i64 t]) rfl rfl rfl
  have c3 : CellsAt w24 p 6 6 (six g) := hp.part (x := six f) (y := six g) (z := [.int .i64 t]) rfl rfl rfl
  apply Ls.runK LO [3, 4, 5, 6, 9, 11, 13, 55, 57, 59] 5
  · repeat' (first | rfl | with_reducible assumption | assumption | constructor)
  intro w25 f25 s25 hf25
  replace hf25 : f25 = [(3, _), (4, _), (5, _), (6, _), (9, _), (11, _), (13, _), (55, _), (57, _), (59, _)] := hf25
  subst hf25
  have m25 := m24.same s25
  have hp := hp.same s25
  have hq := hq.same s25
  have hr := hr.same s25
  have hx := hx.same s25
  have hy := hy.same s25
  have hu := hu.same s25
  have hv := hv.same s25
  refine Ls.aggSame rfl rfl rfl rfl rfl rfl six_guard (six_eq g) ?_
  have a0 : Cl w25 ⟨v, 0 + 7, none⟩ (.int .u32 i.src) := hv.cl rfl
  have a1 : Cl w25 ⟨q, 0 + 7, none⟩ (.int .u32 i.src) := hq.cl rfl
  have a2 : Cl w25 ⟨v, 0 + 8, none⟩ (.int .u32 i.dst) := hv.cl rfl
  have a3 : Cl w25 ⟨q, 0 + 8, none⟩ (.int .u32 i.dst) := hq.cl rfl
  have a4 : Cl w25 ⟨y, 0 + 7, none⟩ (.int .u32 i.dst) := hy.cl rfl
  have a5 : Cl w25 ⟨y, 0 + 5, none⟩ (.int .i64 64) := hy.cl rfl
  have k1 : Kn (i.src != i.src) false := .of (by simp)
  have k2 : Kn (i.dst != i.dst) false := .of (by simp)
  have k3 : Kn ((64 : Int) != 64) false := .of rfl
  apply Ls.runK LO [3, 4, 5, 6, 9, 87] 27
  · repeat' (first | rfl | with_reducible assumption | assumption | constructor)
  intro w26 f26 s26 hf26
  replace hf26 : f26 = [(3, _), (4, _), (5, _), (6, _), (9, _), (87, _)] := hf26
  subst hf26
  have m26 := m25.same s26
  have hp := hp.same s26
  have hq := hq.same s26
  have hr := hr.same s26
  refine Ls.nil (N.to ?_)
  refine W.cond (b := false) rfl (fun h => by cases h) (fun _ => W.skip (N.to ?_))
  clear c0 c1 c2 c3 a0 a1 a2 a3 a4 a5 k1 k2 k3 hx hy hu hv
  by_cases hgood : i.chk = true ∧ h.chk = true ∧ 20 + h.o.size + body.size ≤ 2000
  case neg =>
    have hse : s = ⟨#[]⟩ := by rw [hs]; exact seg_bad hgood
    have k1 : Kn (s.toList == (⟨#[]⟩ : ByteArray).toList) true := .of (by rw [hse]; simp)
    refine W.seq ?_
    apply W.readS LO mixed [3, 5, 6, 89] (by kernel_rfl)
    · repeat' (first | rfl | with_reducible assumption | assumption | constructor)
    intro w27 f27 s27 hf27
    replace hf27 : f27 = [(3, _), (5, _), (6, _), (89, _)] := hf27
    subst hf27
    refine W.cond (b := true) rfl (fun _ => ?_) (fun h => by cases h)
    have m27 := m26.same s27
    have hq := hq.same s27
    have hr := hr.same s27
    refine W.seq (W.list ?_)
    have c1 : CellsAt w27 q 0 10 i.cs := hq.cells
    apply Ls.runK LO [3, 6, 90] 1
    · repeat' (first | rfl | with_reducible assumption | assumption | constructor)
    intro w28 f28 s28 hf28
    replace hf28 : f28 = [(3, _), (6, _), (90, _)] := hf28
    subst hf28
    refine Ls.call LO rfl rfl rfl rfl rfl (vs := [.agg i.cs.toArray]) rfl (icheck_walk i w28) ?_
    rintro _ w29 ⟨rfl, m29⟩
    have hr := (hr.same s28).moved m29 fun e => e
    have m29 := (m27.same s28).trans m29
    refine ⟨_, rfl, ?_⟩
    cases hic : i.chk with
    | false =>
      apply Ls.runK LO [108] 17
      · repeat' (first | rfl | with_reducible assumption | assumption | constructor)
      intro w30 f30 s30 hf30
      replace hf30 : f30 = [(108, _)] := hf30
      subst hf30
      refine Ls.call LO rfl rfl rfl rfl rfl (vs := []) rfl (awake_walk w30) ?_
      rintro _ w31 ⟨rfl, m31⟩
      refine ⟨_, rfl, ?_⟩
      apply Ls.runK LO [8] 2
      · repeat' (first | rfl | with_reducible assumption | assumption | constructor)
      intro w32 f32 s32 hf32
      replace hf32 : f32 = [(8, _)] := hf32
      subst hf32
      exact Ls.nil (N.to (W.ret (N.thenR (fin _ _ (((m29.same s30).trans m31).same s32) rfl))))
    | true =>
      have c2 : CellsAt w29 r 0 7 h.cs := hr.cells
      apply Ls.runK LO [3, 6, 93, 94] 3
      · repeat' (first | rfl | with_reducible assumption | assumption | constructor)
      intro w30 f30 s30 hf30
      replace hf30 : f30 = [(3, _), (6, _), (93, _), (94, _)] := hf30
      subst hf30
      refine Ls.call LO rfl rfl rfl rfl rfl (vs := [.agg h.cs.toArray]) rfl (tcheck_walk h w30) ?_
      rintro _ w31 ⟨rfl, m31⟩
      have hr := (hr.same s30).moved m31 fun e => e
      have m31 := (m29.same s30).trans m31
      refine ⟨_, rfl, ?_⟩
      have d6 : Cl w31 ⟨r, 0 + 6, none⟩ (.string h.o) := hr.cl rfl
      cases hhc : h.chk with
      | false =>
        apply Ls.runK LO [108] 13
        · repeat' (first | rfl | with_reducible assumption | assumption | constructor)
        intro w33 f33 s33 hf33
        replace hf33 : f33 = [(108, _)] := hf33
        subst hf33
        refine Ls.call LO rfl rfl rfl rfl rfl (vs := []) rfl (awake_walk w33) ?_
        rintro _ w34 ⟨rfl, m34⟩
        refine ⟨_, rfl, ?_⟩
        apply Ls.runK LO [8] 2
        · repeat' (first | rfl | with_reducible assumption | assumption | constructor)
        intro w35 f35 s35 hf35
        replace hf35 : f35 = [(8, _)] := hf35
        subst hf35
        exact Ls.nil (N.to (W.ret (N.thenR (fin _ _ (((m31.same s33).trans m34).same s35) rfl))))
      | true =>
        have hbig : 2000 < body.size + 20 + h.o.size := by
          have : ¬ 20 + h.o.size + body.size ≤ 2000 := fun hz => hgood ⟨hic, hhc, hz⟩
          omega
        have q1 : Kn (IntKind.i64.wrap ((body.size : Int) + 20)) ((body.size + 20 : Nat) : Int) := .of (by rw [show (body.size : Int) + 20 = ((body.size + 20 : Nat) : Int) by omega]; exact IntWalk.i64_in _ (by omega))
        have q2 : Kn (IntKind.i64.wrap (((body.size + 20 : Nat) : Int) + (h.o.size : Int))) ((body.size + 20 + h.o.size : Nat) : Int) := .of (by rw [show ((body.size + 20 : Nat) : Int) + (h.o.size : Int) = ((body.size + 20 + h.o.size : Nat) : Int) by omega]; exact IntWalk.i64_in _ (by omega))
        have q3 : Kn (decide (2000 < ((body.size + 20 + h.o.size : Nat) : Int))) true := .yes (by omega)
        apply Ls.runK LO [108] 13
        · repeat' (first | rfl | with_reducible assumption | assumption | constructor)
        intro w33 f33 s33 hf33
        replace hf33 : f33 = [(108, _)] := hf33
        subst hf33
        refine Ls.call LO rfl rfl rfl rfl rfl (vs := []) rfl (awake_walk w33) ?_
        rintro _ w34 ⟨rfl, m34⟩
        refine ⟨_, rfl, ?_⟩
        apply Ls.runK LO [8] 2
        · repeat' (first | rfl | with_reducible assumption | assumption | constructor)
        intro w35 f35 s35 hf35
        replace hf35 : f35 = [(8, _)] := hf35
        subst hf35
        exact Ls.nil (N.to (W.ret (N.thenR (fin _ _ (((m31.same s33).trans m34).same s35) rfl))))
  obtain ⟨hic, hhc, hsz⟩ := hgood
  obtain ⟨b1, b2, g1, g2, g3, hz, z1, z2⟩ := seg_round (e := E) (i := i) (h := h) (body := body) hEok (by rw [hEt]; omega) (by rw [hEt]; omega) hic iok hhc hok hsz
  rw [← hs] at g1 hz
  have hso : i.o.size ≤ 100 := l1
  have k1 : Kn (s.toList == (⟨#[]⟩ : ByteArray).toList) false := .of (by
    rw [beq_eq_false_iff_ne]
    intro e
    have e2 := congrArg List.length e
    rw [toList_data, toList_data, list_len] at e2
    have : s.size = 0 := e2
    omega)
  refine W.seq ?_
  apply W.readS LO mixed [3, 4, 5, 6, 9, 89] (by kernel_rfl)
  · repeat' (first | rfl | with_reducible assumption | assumption | constructor)
  intro w27 f27 s27 hf27
  replace hf27 : f27 = [(3, _), (4, _), (5, _), (6, _), (9, _), (89, _)] := hf27
  subst hf27
  refine W.cond (b := false) rfl (fun h => by cases h) (fun _ => W.skip (N.to ?_))
  have m27 := m26.same s27
  have hp := hp.same s27
  have hq := hq.same s27
  have hr := hr.same s27
  -- got again: the frame
  refine W.seq (W.list ?_)
  apply Ls.runK LO [3, 4, 5, 6, 112] 1
  · repeat' (first | rfl | with_reducible assumption | assumption | constructor)
  intro w28 f28 s28 hf28
  replace hf28 : f28 = [(3, _), (4, _), (5, _), (6, _), (112, _)] := hf28
  subst hf28
  have m28 := m27.same s28
  have hp := hp.same s28
  have hq := hq.same s28
  have hr := hr.same s28
  refine Ls.call LO rfl rfl rfl rfl rfl (vs := [.string s]) rfl (eget_as w28 (by omega) g1 hEcs.symm) ?_
  rintro _ w29 ⟨rfl, n29⟩
  have hp := hp.moved n29 fun e => e
  have hq := hq.moved n29 fun e => e
  have hr := hr.moved n29 fun e => e
  have m29 := m28.trans n29
  refine ⟨_, rfl, ?_⟩
  apply Ls.runK LO [3, 4, 5, 6, 114, 115, 116] 4
  · repeat' (first | rfl | with_reducible assumption | assumption | constructor)
  intro w30 f30 s30 hf30
  replace hf30 : f30 = [(3, _), (4, _), (5, _), (6, _), (114, _), (115, _), (116, _)] := hf30
  subst hf30
  have m30 := m29.same s30
  have hp := hp.same s30
  have hq := hq.same s30
  have hr := hr.same s30
  refine Ls.alloc LO rfl rfl rfl rfl (zs := ecs e0 e0 0) rfl ?_
  have hx : BX (w30.alloc (.cells (ecs e0 e0 0).toArray 33)) w30.heap.size 33 (ecs e0 e0 0) := heap_alloc_new w30 (.cells (ecs e0 e0 0).toArray 33)
  have m31 : Mv (fun _ => False) w30 (w30.alloc (.cells (ecs e0 e0 0).toArray 33)) := (Mv.refl _ w30).alloc _
  generalize w30.alloc (.cells (ecs e0 e0 0).toArray 33) = w31 at hx m31
  have hz_w30 : w.heap.size ≤ w30.heap.size := m30.size
  have hl_hp := hp.lt
  have hl_hq := hq.lt
  have hl_hr := hr.lt
  obtain ⟨x2, hp_x2⟩ : ∃ x2, x2 = w30.heap.size := ⟨_, rfl⟩
  rw [← hp_x2] at hx hz_w30 hl_hp hl_hq hl_hr
  rw [← hp_x2]
  have hp := hp.moved m31 fun e => e
  have hq := hq.moved m31 fun e => e
  have hr := hr.moved m31 fun e => e
  have m31 := m30.trans m31
  refine Ls.store LO rfl rfl rfl rfl rfl (vs := ecs f g t) rfl rfl rfl hx rfl ?_
  intro w32 hx n32 _
  have hx : BX w32 _ 33 (ecs f g t) := hx
  have hp := hp.moved n32 (by omega)
  have hq := hq.moved n32 (by omega)
  have hr := hr.moved n32 (by omega)
  have m32 : Mv (fun _ => False) w w32 := m31.cut n32 fun k hk e => by omega
  apply Ls.runK LO [3, 4, 5, 6, 14, 15, 16] 2
  · repeat' (first | rfl | with_reducible assumption | assumption | constructor)
  intro w33 f33 s33 hf33
  replace hf33 : f33 = [(3, _), (4, _), (5, _), (6, _), (14, _), (15, _), (16, _)] := hf33
  subst hf33
  have m33 := m32.same s33
  have hp := hp.same s33
  have hq := hq.same s33
  have hr := hr.same s33
  have hx := hx.same s33
  refine Ls.nil (N.to ?_)
  refine W.seq (W.list ?_)
  apply Ls.runK LO [3, 4, 5, 6, 14, 16, 118] 1
  · repeat' (first | rfl | with_reducible assumption | assumption | constructor)
  intro w34 f34 s34 hf34
  replace hf34 : f34 = [(3, _), (4, _), (5, _), (6, _), (14, _), (16, _), (118, _)] := hf34
  subst hf34
  have m34 := m33.same s34
  have hp := hp.same s34
  have hq := hq.same s34
  have hr := hr.same s34
  have hx := hx.same s34
  refine Ls.call LO rfl rfl rfl rfl rfl (vs := [.string b1]) rfl (iget_as w34 (by omega) g2) ?_
  rintro _ w35 ⟨rfl, n35⟩
  have hp := hp.moved n35 fun e => e
  have hq := hq.moved n35 fun e => e
  have hr := hr.moved n35 fun e => e
  have hx := hx.moved n35 fun e => e
  have m35 := m34.trans n35
  refine ⟨_, rfl, ?_⟩
  apply Ls.runK LO [3, 4, 5, 6, 14, 16, 120, 121, 122] 4
  · repeat' (first | rfl | with_reducible assumption | assumption | constructor)
  intro w36 f36 s36 hf36
  replace hf36 : f36 = [(3, _), (4, _), (5, _), (6, _), (14, _), (16, _), (120, _), (121, _), (122, _)] := hf36
  subst hf36
  have m36 := m35.same s36
  have hp := hp.same s36
  have hq := hq.same s36
  have hr := hr.same s36
  have hx := hx.same s36
  refine Ls.alloc LO rfl rfl rfl rfl (zs := ipN.cs) rfl ?_
  have hy : BX (w36.alloc (.cells (ipN.cs).toArray 28)) w36.heap.size 28 (ipN.cs) := heap_alloc_new w36 (.cells (ipN.cs).toArray 28)
  have m37 : Mv (fun _ => False) w36 (w36.alloc (.cells (ipN.cs).toArray 28)) := (Mv.refl _ w36).alloc _
  generalize w36.alloc (.cells (ipN.cs).toArray 28) = w37 at hy m37
  have hz_w36 : w.heap.size ≤ w36.heap.size := m36.size
  have hl_hp := hp.lt
  have hl_hq := hq.lt
  have hl_hr := hr.lt
  have hl_hx := hx.lt
  obtain ⟨y2, hp_y2⟩ : ∃ y2, y2 = w36.heap.size := ⟨_, rfl⟩
  rw [← hp_y2] at hy hz_w36 hl_hp hl_hq hl_hr hl_hx
  rw [← hp_y2]
  have hp := hp.moved m37 fun e => e
  have hq := hq.moved m37 fun e => e
  have hr := hr.moved m37 fun e => e
  have hx := hx.moved m37 fun e => e
  have m37 := m36.trans m37
  refine Ls.store LO rfl rfl rfl rfl rfl (vs := i.cs) rfl rfl rfl hy rfl ?_
  intro w38 hy n38 _
  have hy : BX w38 _ 28 (i.cs) := hy
  have hp := hp.moved n38 (by omega)
  have hq := hq.moved n38 (by omega)
  have hr := hr.moved n38 (by omega)
  have hx := hx.moved n38 (by omega)
  have m38 : Mv (fun _ => False) w w38 := m37.cut n38 fun k hk e => by omega
  apply Ls.runK LO [3, 4, 5, 6, 14, 16, 17, 18, 19] 2
  · repeat' (first | rfl | with_reducible assumption | assumption | constructor)
  intro w39 f39 s39 hf39
  replace hf39 : f39 = [(3, _), (4, _), (5, _), (6, _), (14, _), (16, _), (17, _), (18, _), (19, _)] := hf39
  subst hf39
  have m39 := m38.same s39
  have hp := hp.same s39
  have hq := hq.same s39
  have hr := hr.same s39
  have hx := hx.same s39
  have hy := hy.same s39
  refine Ls.nil (N.to ?_)
  refine W.seq (W.list ?_)
  have a0 : Cl w39 ⟨y2, 0 + 7, none⟩ (.int .u32 i.src) := hy.cl rfl
  have a1 : Cl w39 ⟨y2, 0 + 8, none⟩ (.int .u32 i.dst) := hy.cl rfl
  apply Ls.runK LO [3, 4, 5, 6, 14, 16, 17, 19, 125, 127, 128] 5
  · repeat' (first | rfl | with_reducible assumption | assumption | constructor)
  intro w40 f40 s40 hf40
  replace hf40 : f40 = [(3, _), (4, _), (5, _), (6, _), (14, _), (16, _), (17, _), (19, _), (125, _), (127, _), (128, _)] := hf40
  subst hf40
  have m40 := m39.same s40
  have hp := hp.same s40
  have hq := hq.same s40
  have hr := hr.same s40
  have hx := hx.same s40
  have hy := hy.same s40
  refine Ls.call LO rfl rfl rfl rfl rfl (vs := [.int .u32 i.src, .int .u32 i.dst, .string b2]) rfl (tget_as w40 iok.src iok.dst (by omega) g3) ?_
  rintro _ w41 ⟨rfl, n41⟩
  have hp := hp.moved n41 fun e => e
  have hq := hq.moved n41 fun e => e
  have hr := hr.moved n41 fun e => e
  have hx := hx.moved n41 fun e => e
  have hy := hy.moved n41 fun e => e
  have m41 := m40.trans n41
  refine ⟨_, rfl, ?_⟩
  apply Ls.runK LO [3, 4, 5, 6, 14, 16, 17, 19, 130, 131, 132] 4
  · repeat' (first | rfl | with_reducible assumption | assumption | constructor)
  intro w42 f42 s42 hf42
  replace hf42 : f42 = [(3, _), (4, _), (5, _), (6, _), (14, _), (16, _), (17, _), (19, _), (130, _), (131, _), (132, _)] := hf42
  subst hf42
  have m42 := m41.same s42
  have hp := hp.same s42
  have hq := hq.same s42
  have hr := hr.same s42
  have hx := hx.same s42
  have hy := hy.same s42
  refine Ls.alloc LO rfl rfl rfl rfl (zs := segZ.cs) rfl ?_
  have hv : BX (w42.alloc (.cells (segZ.cs).toArray 26)) w42.heap.size 26 (segZ.cs) := heap_alloc_new w42 (.cells (segZ.cs).toArray 26)
  have m43 : Mv (fun _ => False) w42 (w42.alloc (.cells (segZ.cs).toArray 26)) := (Mv.refl _ w42).alloc _
  generalize w42.alloc (.cells (segZ.cs).toArray 26) = w43 at hv m43
  have hz_w42 : w.heap.size ≤ w42.heap.size := m42.size
  have hl_hp := hp.lt
  have hl_hq := hq.lt
  have hl_hr := hr.lt
  have hl_hx := hx.lt
  have hl_hy := hy.lt
  obtain ⟨v2, hp_v2⟩ : ∃ v2, v2 = w42.heap.size := ⟨_, rfl⟩
  rw [← hp_v2] at hv hz_w42 hl_hp hl_hq hl_hr hl_hx hl_hy
  rw [← hp_v2]
  have hp := hp.moved m43 fun e => e
  have hq := hq.moved m43 fun e => e
  have hr := hr.moved m43 fun e => e
  have hx := hx.moved m43 fun e => e
  have hy := hy.moved m43 fun e => e
  have m43 := m42.trans m43
  refine Ls.store LO rfl rfl rfl rfl rfl (vs := h.cs) rfl rfl rfl hv rfl ?_
  intro w44 hv n44 _
  have hv : BX w44 _ 26 (h.cs) := hv
  have hp := hp.moved n44 (by omega)
  have hq := hq.moved n44 (by omega)
  have hr := hr.moved n44 (by omega)
  have hx := hx.moved n44 (by omega)
  have hy := hy.moved n44 (by omega)
  have m44 : Mv (fun _ => False) w w44 := m43.cut n44 fun k hk e => by omega
  apply Ls.runK LO [3, 4, 5, 6, 14, 16, 17, 19, 20, 21, 22] 2
  · repeat' (first | rfl | with_reducible assumption | assumption | constructor)
  intro w45 f45 s45 hf45
  replace hf45 : f45 = [(3, _), (4, _), (5, _), (6, _), (14, _), (16, _), (17, _), (19, _), (20, _), (21, _), (22, _)] := hf45
  subst hf45
  have m45 := m44.same s45
  have hp := hp.same s45
  have hq := hq.same s45
  have hr := hr.same s45
  have hx := hx.same s45
  have hy := hy.same s45
  have hv := hv.same s45
  refine Ls.nil (N.to ?_)
  clear a0 a1
  -- the same
  refine W.seq (W.list ?_)
  have j0 : Kn ((0 : Int) == 0) true := .of rfl
  have c0 : CellsAt w45 x2 0 13 (ecs f g t) := hx.cells
  have c1 : CellsAt w45 p 0 13 (ecs f g t) := hp.cells
  apply Ls.runK LO [3, 5, 6, 17, 20, 21, 143, 144, 145] 13
  · repeat' (first | rfl | with_reducible assumption | assumption | constructor)
  intro w46 f46 s46 hf46
  replace hf46 : f46 = [(3, _), (5, _), (6, _), (17, _), (20, _), (21, _), (143, _), (144, _), (145, _)] := hf46
  subst hf46
  have m46 := m45.same s46
  have hp := hp.same s46
  have hq := hq.same s46
  have hr := hr.same s46
  have hx := hx.same s46
  have hy := hy.same s46
  have hv := hv.same s46
  refine Ls.call LO rfl rfl rfl rfl rfl (vs := [.agg (ecs f g t).toArray, .agg (ecs f g t).toArray]) rfl (same2_walk f g t w46) ?_
  rintro _ w47 ⟨rfl, n47⟩
  have hp := hp.moved n47 fun e => e
  have hq := hq.moved n47 fun e => e
  have hr := hr.moved n47 fun e => e
  have hx := hx.moved n47 fun e => e
  have hy := hy.moved n47 fun e => e
  have hv := hv.moved n47 fun e => e
  have m47 := m46.trans n47
  refine ⟨_, rfl, ?_⟩
  have c2 : CellsAt w47 y2 0 10 i.cs := hy.cells
  have c3 : CellsAt w47 q 0 10 i.cs := hq.cells
  apply Ls.runK LO [3, 6, 20, 21, 148, 149, 150] 4
  · repeat' (first | rfl | with_reducible assumption | assumption | constructor)
  intro w48 f48 s48 hf48
  replace hf48 : f48 = [(3, _), (6, _), (20, _), (21, _), (148, _), (149, _), (150, _)] := hf48
  subst hf48
  have m48 := m47.same s48
  have hp := hp.same s48
  have hq := hq.same s48
  have hr := hr.same s48
  have hx := hx.same s48
  have hy := hy.same s48
  have hv := hv.same s48
  refine Ls.call LO rfl rfl rfl rfl rfl (vs := [.agg i.cs.toArray, .agg i.cs.toArray]) rfl (same3_walk i w48) ?_
  rintro _ w49 ⟨rfl, n49⟩
  have hp := hp.moved n49 fun e => e
  have hq := hq.moved n49 fun e => e
  have hr := hr.moved n49 fun e => e
  have hx := hx.moved n49 fun e => e
  have hy := hy.moved n49 fun e => e
  have hv := hv.moved n49 fun e => e
  have m49 := m48.trans n49
  refine ⟨_, rfl, ?_⟩
  have a2 : Cl w49 ⟨v2, 0 + 2, none⟩ (.int .u32 h.seq) := hv.cl rfl
  have b2_ : Cl w49 ⟨r, 0 + 2, none⟩ (.int .u32 h.seq) := hr.cl rfl
  have k2_ : Kn (h.seq == h.seq) true := .of (by simp)
  have a3 : Cl w49 ⟨v2, 0 + 3, none⟩ (.int .u32 h.ack) := hv.cl rfl
  have b3_ : Cl w49 ⟨r, 0 + 3, none⟩ (.int .u32 h.ack) := hr.cl rfl
  have k3_ : Kn (h.ack == h.ack) true := .of (by simp)
  have a4 : Cl w49 ⟨v2, 0 + 4, none⟩ (.int .i64 h.flags) := hv.cl rfl
  have b4_ : Cl w49 ⟨r, 0 + 4, none⟩ (.int .i64 h.flags) := hr.cl rfl
  have k4_ : Kn (h.flags == h.flags) true := .of (by simp)
  have a6 : Cl w49 ⟨v2, 0 + 6, none⟩ (.string h.o) := hv.cl rfl
  have b6_ : Cl w49 ⟨r, 0 + 6, none⟩ (.string h.o) := hr.cl rfl
  have k6_ : Kn (h.o.toList == h.o.toList) true := .of (by simp)
  have kb : Kn (body.toList == body.toList) true := .of (by simp)
  apply Ls.runK LO [186] 35
  · repeat' (first | rfl | with_reducible assumption | assumption | constructor)
  intro w50 f50 s50 hf50
  replace hf50 : f50 = [(186, _)] := hf50
  subst hf50
  have m50 := m49.same s50
  refine Ls.call LO rfl rfl rfl rfl rfl (vs := []) rfl (awake_walk w50) ?_
  rintro _ w51 ⟨rfl, n51⟩
  have m51 := m50.trans n51
  refine ⟨_, rfl, ?_⟩
  apply Ls.runK LO [8] 2
  · repeat' (first | rfl | with_reducible assumption | assumption | constructor)
  intro w52 f52 s52 hf52
  replace hf52 : f52 = [(8, _)] := hf52
  subst hf52
  exact Ls.nil (N.to (W.ret (fin _ _ (m51.same s52) rfl)))
end Go.Proofs.Ytbidgeaigiijpaa
