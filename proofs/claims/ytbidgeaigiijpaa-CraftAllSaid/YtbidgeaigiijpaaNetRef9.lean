/- What is proved: the reference's frames: datagrams, segments, heads turned round. Conditions: those that stand in each theorem. -/
import Derived.Test.YtbidgeaigiijpaaNetRef7
import Derived.Test.YtbidgeaigiijpaaNetBk1
namespace Go.Proofs.Ytbidgeaigiijpaa
set_option linter.unusedVariables false
set_option linter.unusedSimpArgs false
set_option linter.unusedSectionVars false
open Go.RowKit Fw Nt
set_option maxRecDepth 100000 in
set_option maxHeartbeats 1000000 in
theorem rdat_walk (e : EthV) (i : IpV) (body : ByteArray) (w : World) (ok : e.Ok) (iok : i.Ok) (hbody : body.size ≤ 1000000000000000) {cs : List Value} (hcs : cs = e.cs) : Calls Try.prog 24 #[.agg cs.toArray, .agg i.cs.toArray, .string body] w fun e' w' => e' = .returned (.string (datS e i body)) ∧ Mv (fun _ => False) w w' := by
  subst hcs
  refine calls_W (n := 20) (vs := [.agg e.cs.toArray, .agg i.cs.toArray, .string body]) Try.func24 rfl rfl rfl ?_
  refine W.seq (W.list ?_)
  refine Ls.box rfl rfl rfl rfl rfl (vs := e.cs) rfl ?_
  have hb1 : BX (w.alloc (.cells e.cs.toArray 33)) w.heap.size 33 e.cs := heap_alloc_new w (.cells e.cs.toArray 33)
  have m1 : Mv (fun _ => False) w (w.alloc (.cells e.cs.toArray 33)) := (Mv.refl _ w).alloc _
  generalize w.alloc (.cells e.cs.toArray 33) = w1 at hb1 m1
  generalize w.heap.size = p at hb1
  refine Ls.box rfl rfl rfl rfl rfl (vs := i.cs) rfl ?_
  have hq2 : BX (w1.alloc (.cells i.cs.toArray 28)) w1.heap.size 28 i.cs := heap_alloc_new w1 (.cells i.cs.toArray 28)
  have m2 : Mv (fun _ => False) w1 (w1.alloc (.cells i.cs.toArray 28)) := (Mv.refl _ w1).alloc _
  generalize w1.alloc (.cells i.cs.toArray 28) = w2 at hq2 m2
  generalize w1.heap.size = q at hq2
  have hb2 := hb1.moved m2 fun e => e
  have m2 := m1.trans m2
  apply Ls.runK LO [2, 3, 4] 1
  · repeat' (first | rfl | with_reducible assumption | assumption | constructor)
  intro w3 f3 s3 hf3
  replace hf3 : f3 = [(2, _), (3, _), (4, _)] := hf3
  subst hf3
  refine Ls.nil (N.to ?_)
  have m3 := m2.same s3
  have hb3 := hb2.same s3
  have hq3 := hq2.same s3
  clear m1 m2 hb1 hb2 hq2 s3
  refine W.seq (W.list ?_)
  have hc : CellsAt w3 q 0 10 i.cs := hq3.cells
  apply Ls.runK LO [2, 3, 10, 11] 2
  · repeat' (first | rfl | with_reducible assumption | assumption | constructor)
  intro w4 f4 s4 hf4
  replace hf4 : f4 = [(2, _), (3, _), (10, _), (11, _)] := hf4
  subst hf4
  refine Ls.call LO rfl rfl rfl rfl rfl (vs := [.agg i.cs.toArray, .string body]) rfl (rput3_walk i body w4 iok hbody) ?_
  rintro _ w5 ⟨rfl, m5⟩
  refine ⟨_, rfl, ?_⟩
  obtain ⟨r, hr⟩ : ∃ r, r = i.put body := ⟨_, rfl⟩
  rw [← hr]
  apply Ls.runK LO [3, 7, 8] 5
  · repeat' (first | rfl | with_reducible assumption | assumption | constructor)
  intro w6 f6 s6 hf6
  replace hf6 : f6 = [(3, _), (7, _), (8, _)] := hf6
  subst hf6
  refine Ls.nil (N.to ?_)
  have m6 := ((m3.same s4).trans m5).same s6
  have hb6 := ((hb3.same s4).moved m5 fun e => e).same s6
  clear m3 hb3 hq3 hc s4 m5 s6
  by_cases h0 : r.2 = 0
  · have k1 : Kn (r.2 != 0) false := .of (by rw [h0]; rfl)
    have hsz : r.1.size ≤ 2060 := by rw [hr]; exact iput_size (by rw [← hr]; exact h0)
    refine W.seq ?_
    apply W.readS LO mixed [3, 7, 16] (by kernel_rfl)
    · repeat' (first | rfl | with_reducible assumption | assumption | constructor)
    intro w7 f7 s7 hf7
    replace hf7 : f7 = [(3, _), (7, _), (16, _)] := hf7
    subst hf7
    refine W.cond (b := false) rfl (fun h => by cases h) (fun _ => W.skip (N.to ?_))
    refine W.seq (W.list ?_)
    have hl := (hb6.same s7).cells
    rw [ok.len] at hl
    apply Ls.runK LO [17, 18] 2
    · repeat' (first | rfl | with_reducible assumption | assumption | constructor)
    intro w8 f8 s8 hf8
    replace hf8 : f8 = [(17, _), (18, _)] := hf8
    subst hf8
    refine Ls.call LO rfl rfl rfl rfl rfl (vs := [.agg e.cs.toArray, .string r.1]) rfl (rput2_walk e r.1 w8 ok (by omega) rfl) ?_
    rintro _ w9 ⟨rfl, m9⟩
    refine ⟨_, rfl, ?_⟩
    have e1 : putE e r.1 = datS e i body := by unfold datS; rw [← hr, if_pos h0]
    rw [e1]
    apply Ls.runK LO [6] 1
    · repeat' (first | rfl | with_reducible assumption | assumption | constructor)
    intro w10 f10 s10 hf10
    replace hf10 : f10 = [(6, _)] := hf10
    subst hf10
    exact Ls.nil (N.to (W.ret (post LO (rs := [.tmp 6]) rfl (vs := [.string (datS e i body)]) (.tmp rfl .nil) ⟨rfl, (((m6.same s7).same s8).trans m9).same s10⟩)))
  · have k1 : Kn (r.2 != 0) true := .of (by rw [bne_iff_ne]; exact h0)
    have e1 : datS e i body = ⟨#[]⟩ := by unfold datS; rw [← hr, if_neg h0]
    rw [e1]
    refine W.seq ?_
    apply W.readS LO mixed [3, 7, 16] (by kernel_rfl)
    · repeat' (first | rfl | with_reducible assumption | assumption | constructor)
    intro w7 f7 s7 hf7
    replace hf7 : f7 = [(3, _), (7, _), (16, _)] := hf7
    subst hf7
    refine W.cond (b := true) rfl (fun _ => ?_) (fun h => by cases h)
    apply W.readS LO mixed [6] (by kernel_rfl)
    · repeat' (first | rfl | with_reducible assumption | assumption | constructor)
    intro w8 f8 s8 hf8
    replace hf8 : f8 = [(6, _)] := hf8
    subst hf8
    exact W.ret (N.thenR (post LO (rs := [.tmp 6]) rfl (vs := [.string ⟨#[]⟩]) (.tmp rfl .nil) ⟨rfl, (m6.same s7).same s8⟩))
set_option maxRecDepth 100000 in
set_option maxHeartbeats 1000000 in
theorem rseg_walk (e : EthV) (i : IpV) (h : SegV) (body : ByteArray) (w : World) (ok : e.Ok) (iok : i.Ok) (hok : h.Ok) (hbody : body.size ≤ 1000000000000000) {cs : List Value} (hcs : cs = e.cs) : Calls Try.prog 25 #[.agg cs.toArray, .agg i.cs.toArray, .agg h.cs.toArray, .string body] w fun e' w' => e' = .returned (.string (segS e i h body)) ∧ Mv (fun _ => False) w w' := by
  subst hcs
  refine calls_W (n := 27) (vs := [.agg e.cs.toArray, .agg i.cs.toArray, .agg h.cs.toArray, .string body]) Try.func25 rfl rfl rfl ?_
  refine W.seq (W.list ?_)
  refine Ls.box rfl rfl rfl rfl rfl (vs := e.cs) rfl ?_
  have hb1 : BX (w.alloc (.cells e.cs.toArray 33)) w.heap.size 33 e.cs := heap_alloc_new w (.cells e.cs.toArray 33)
  have m1 : Mv (fun _ => False) w (w.alloc (.cells e.cs.toArray 33)) := (Mv.refl _ w).alloc _
  generalize w.alloc (.cells e.cs.toArray 33) = w1 at hb1 m1
  generalize w.heap.size = p at hb1
  refine Ls.box rfl rfl rfl rfl rfl (vs := i.cs) rfl ?_
  have hq2 : BX (w1.alloc (.cells i.cs.toArray 28)) w1.heap.size 28 i.cs := heap_alloc_new w1 (.cells i.cs.toArray 28)
  have m2 : Mv (fun _ => False) w1 (w1.alloc (.cells i.cs.toArray 28)) := (Mv.refl _ w1).alloc _
  generalize w1.alloc (.cells i.cs.toArray 28) = w2 at hq2 m2
  generalize w1.heap.size = q at hq2
  have hb2 := hb1.moved m2 fun e => e
  have m2 := m1.trans m2
  refine Ls.box rfl rfl rfl rfl rfl (vs := h.cs) rfl ?_
  have hr3 : BX (w2.alloc (.cells h.cs.toArray 26)) w2.heap.size 26 h.cs := heap_alloc_new w2 (.cells h.cs.toArray 26)
  have m3 : Mv (fun _ => False) w2 (w2.alloc (.cells h.cs.toArray 26)) := (Mv.refl _ w2).alloc _
  generalize w2.alloc (.cells h.cs.toArray 26) = w3 at hr3 m3
  generalize w2.heap.size = r at hr3
  have hb3 := hb2.moved m3 fun e => e
  have hq3 := hq2.moved m3 fun e => e
  have m3 := m2.trans m3
  apply Ls.runK LO [3, 4, 5, 6] 1
  · repeat' (first | rfl | with_reducible assumption | assumption | constructor)
  intro w4 f4 s4 hf4
  replace hf4 : f4 = [(3, _), (4, _), (5, _), (6, _)] := hf4
  subst hf4
  refine Ls.nil (N.to ?_)
  have m4 := m3.same s4
  have hb4 := hb3.same s4
  have hq4 := hq3.same s4
  have hr4 := hr3.same s4
  clear m1 m2 m3 hb1 hb2 hb3 hq2 hq3 hr3 s4
  refine W.seq (W.list ?_)
  have d7 : Cl w4 ⟨q, 0 + 7, none⟩ (.int .u32 i.src) := hq4.cl rfl
  have d8 : Cl w4 ⟨q, 0 + 8, none⟩ (.int .u32 i.dst) := hq4.cl rfl
  have hc : CellsAt w4 r 0 7 h.cs := hr4.cells
  apply Ls.runK LO [4, 5, 13, 15, 16, 17] 6
  · repeat' (first | rfl | with_reducible assumption | assumption | constructor)
  intro w5 f5 s5 hf5
  replace hf5 : f5 = [(4, _), (5, _), (13, _), (15, _), (16, _), (17, _)] := hf5
  subst hf5
  refine Ls.call LO rfl rfl rfl rfl rfl (vs := [.int .u32 i.src, .int .u32 i.dst, .agg h.cs.toArray, .string body]) rfl (rput4_walk h i.src i.dst body w5 hok iok.src iok.dst hbody) ?_
  rintro _ w6 ⟨rfl, m6⟩
  refine ⟨_, rfl, ?_⟩
  obtain ⟨x, hx⟩ : ∃ x, x = h.put i.src i.dst body := ⟨_, rfl⟩
  rw [← hx]
  apply Ls.runK LO [4, 5, 9, 10] 5
  · repeat' (first | rfl | with_reducible assumption | assumption | constructor)
  intro w7 f7 s7 hf7
  replace hf7 : f7 = [(4, _), (5, _), (9, _), (10, _)] := hf7
  subst hf7
  refine Ls.nil (N.to ?_)
  have m7 := ((m4.same s5).trans m6).same s7
  have hb7 := ((hb4.same s5).moved m6 fun e => e).same s7
  have hq7 := ((hq4.same s5).moved m6 fun e => e).same s7
  clear m4 hb4 hq4 hr4 d7 d8 hc s5 m6 s7
  by_cases h0 : x.2 = 0
  · have k1 : Kn (x.2 != 0) false := .of (by rw [h0]; rfl)
    have hsz : x.1.size ≤ 2000 := by rw [hx]; exact tput_size (by rw [← hx]; exact h0)
    refine W.seq ?_
    apply W.readS LO mixed [4, 5, 9, 22] (by kernel_rfl)
    · repeat' (first | rfl | with_reducible assumption | assumption | constructor)
    intro w8 f8 s8 hf8
    replace hf8 : f8 = [(4, _), (5, _), (9, _), (22, _)] := hf8
    subst hf8
    refine W.cond (b := false) rfl (fun h => by cases h) (fun _ => W.skip (N.to ?_))
    refine W.seq (W.list ?_)
    have hl := (hb7.same s8).cells
    rw [ok.len] at hl
    have hl2 : CellsAt w8 q 0 10 i.cs := (hq7.same s8).cells
    apply Ls.runK LO [23, 24, 25] 3
    · repeat' (first | rfl | with_reducible assumption | assumption | constructor)
    intro w9 f9 s9 hf9
    replace hf9 : f9 = [(23, _), (24, _), (25, _)] := hf9
    subst hf9
    refine Ls.call LO rfl rfl rfl rfl rfl (vs := [.agg e.cs.toArray, .agg i.cs.toArray, .string x.1]) rfl (rdat_walk e i x.1 w9 ok iok (by omega) rfl) ?_
    rintro _ w10 ⟨rfl, m10⟩
    refine ⟨_, rfl, ?_⟩
    have e1 : datS e i x.1 = segS e i h body := by unfold segS; rw [← hx, if_pos h0]
    rw [e1]
    apply Ls.runK LO [8] 1
    · repeat' (first | rfl | with_reducible assumption | assumption | constructor)
    intro w11 f11 s11 hf11
    replace hf11 : f11 = [(8, _)] := hf11
    subst hf11
    exact Ls.nil (N.to (W.ret (post LO (rs := [.tmp 8]) rfl (vs := [.string (segS e i h body)]) (.tmp rfl .nil) ⟨rfl, (((m7.same s8).same s9).trans m10).same s11⟩)))
  · have k1 : Kn (x.2 != 0) true := .of (by rw [bne_iff_ne]; exact h0)
    have e1 : segS e i h body = ⟨#[]⟩ := by unfold segS; rw [← hx, if_neg h0]
    rw [e1]
    refine W.seq ?_
    apply W.readS LO mixed [4, 5, 9, 22] (by kernel_rfl)
    · repeat' (first | rfl | with_reducible assumption | assumption | constructor)
    intro w8 f8 s8 hf8
    replace hf8 : f8 = [(4, _), (5, _), (9, _), (22, _)] := hf8
    subst hf8
    refine W.cond (b := true) rfl (fun _ => ?_) (fun h => by cases h)
    apply W.readS LO mixed [8] (by kernel_rfl)
    · repeat' (first | rfl | with_reducible assumption | assumption | constructor)
    intro w9 f9 s9 hf9
    replace hf9 : f9 = [(8, _)] := hf9
    subst hf9
    exact W.ret (N.thenR (post LO (rs := [.tmp 8]) rfl (vs := [.string ⟨#[]⟩]) (.tmp rfl .nil) ⟨rfl, (m7.same s8).same s9⟩))
set_option maxRecDepth 100000 in
set_option maxHeartbeats 1000000 in
theorem rback_walk (f g : Nat → Int) (t : Int) (i : IpV) (w : World) : Calls Try.prog 22 #[.agg (ecs f g t).toArray, .agg i.cs.toArray] w fun e w' => e = .returned (.tuple #[.agg (ecs g f t).toArray, .agg i.back.cs.toArray]) ∧ Mv (fun _ => False) w w' := by
  refine calls_W (n := 26) (vs := [.agg (ecs f g t).toArray, .agg i.cs.toArray]) Try.func22 rfl rfl rfl ?_
  refine W.seq (W.list ?_)
  refine Ls.box rfl rfl rfl rfl rfl (vs := ecs f g t) rfl ?_
  have hb1 : BX (w.alloc (.cells (ecs f g t).toArray 33)) w.heap.size 33 (ecs f g t) := heap_alloc_new w (.cells (ecs f g t).toArray 33)
  have m1 : Mv (fun _ => False) w (w.alloc (.cells (ecs f g t).toArray 33)) := (Mv.refl _ w).alloc _
  generalize w.alloc (.cells (ecs f g t).toArray 33) = w1 at hb1 m1
  obtain ⟨p, hp⟩ : ∃ p, p = w.heap.size := ⟨_, rfl⟩
  rw [← hp] at hb1
  rw [← hp]
  have hpl := hb1.lt
  refine Ls.box rfl rfl rfl rfl rfl (vs := i.cs) rfl ?_
  have hq2 : BX (w1.alloc (.cells i.cs.toArray 28)) w1.heap.size 28 i.cs := heap_alloc_new w1 (.cells i.cs.toArray 28)
  have m2 : Mv (fun _ => False) w1 (w1.alloc (.cells i.cs.toArray 28)) := (Mv.refl _ w1).alloc _
  generalize w1.alloc (.cells i.cs.toArray 28) = w2 at hq2 m2
  obtain ⟨q, hq⟩ : ∃ q, q = w1.heap.size := ⟨_, rfl⟩
  rw [← hq] at hq2
  rw [← hq]
  have hql := hq2.lt
  have hb2 := hb1.moved m2 fun e => e
  have m2 := m1.trans m2
  refine Ls.alloc LO rfl rfl rfl rfl (zs := ecs e0 e0 0) rfl ?_
  have hr3 : BX (w2.alloc (.cells (ecs e0 e0 0).toArray 33)) w2.heap.size 33 (ecs e0 e0 0) := heap_alloc_new w2 (.cells (ecs e0 e0 0).toArray 33)
  have m3 : Mv (fun _ => False) w2 (w2.alloc (.cells (ecs e0 e0 0).toArray 33)) := (Mv.refl _ w2).alloc _
  generalize w2.alloc (.cells (ecs e0 e0 0).toArray 33) = w3 at hr3 m3
  obtain ⟨r, hr⟩ : ∃ r, r = w2.heap.size := ⟨_, rfl⟩
  rw [← hr] at hr3
  rw [← hr]
  have hrl := hr3.lt
  have hb3 := hb2.moved m3 fun e => e
  have hq3 := hq2.moved m3 fun e => e
  have m3 := m2.trans m3
  refine Ls.alloc LO rfl rfl rfl rfl (zs := ipN.cs) rfl ?_
  have hx4 : BX (w3.alloc (.cells ipN.cs.toArray 28)) w3.heap.size 28 ipN.cs := heap_alloc_new w3 (.cells ipN.cs.toArray 28)
  have m4 : Mv (fun _ => False) w3 (w3.alloc (.cells ipN.cs.toArray 28)) := (Mv.refl _ w3).alloc _
  generalize w3.alloc (.cells ipN.cs.toArray 28) = w4 at hx4 m4
  obtain ⟨x, hx⟩ : ∃ x, x = w3.heap.size := ⟨_, rfl⟩
  rw [← hx] at hx4
  rw [← hx]
  have hb4 := hb3.moved m4 fun e => e
  have hq4 := hq3.moved m4 fun e => e
  have hr4 := hr3.moved m4 fun e => e
  have m4 := m3.trans m4
  have hpq : p < q := by omega
  have hqr : q < r := by omega
  have hrx : r < x := by omega
  have hwp : w.heap.size ≤ p := by omega
  refine Ls.nil (N.to ?_)
  clear m1 m2 m3 hb1 hb2 hb3 hq2 hq3 hr3 hp hq hr hx hpl hql hrl
  refine W.seq (W.list ?_)
  have d7 : Cl w4 ⟨q, 0 + 7, none⟩ (.int .u32 i.src) := hq4.cl rfl
  have d8 : Cl w4 ⟨q, 0 + 8, none⟩ (.int .u32 i.dst) := hq4.cl rfl
  apply Ls.runK LO [2, 3, 4, 5, 7, 9, 10] 5
  · repeat' (first | rfl | with_reducible assumption | assumption | constructor)
  intro u0 f0 s0 hf0
  replace hf0 : f0 = [(2, _), (3, _), (4, _), (5, _), (7, _), (9, _), (10, _)] := hf0
  subst hf0
  refine Ls.store LO rfl rfl rfl rfl rfl (vs := [.int .u32 i.dst]) rfl rfl rfl (hq4.same s0) rfl ?_
  intro y0 hq0_ n0 _
  have hq0_ : BX y0 q 28 (IpV.mk i.tos i.id i.more i.keep i.off i.ttl i.proto i.dst i.dst i.o).cs := hq0_
  have n0 := ((Mv.refl (· = q) w4).same s0).trans n0
  apply Ls.runK LO [2, 3, 4, 5, 9, 11] 1
  · repeat' (first | rfl | with_reducible assumption | assumption | constructor)
  intro u1 f1 s1 hf1
  replace hf1 : f1 = [(2, _), (3, _), (4, _), (5, _), (9, _), (11, _)] := hf1
  subst hf1
  refine Ls.store LO rfl rfl rfl rfl rfl (vs := [.int .u32 i.src]) rfl rfl rfl (hq0_.same s1) rfl ?_
  intro y1 hq1_ n1 _
  have hq1_ : BX y1 q 28 (IpV.mk i.tos i.id i.more i.keep i.off i.ttl i.proto i.dst i.src i.o).cs := hq1_
  have n1 := (n0.same s1).trans n1
  apply Ls.runK LO [2, 3, 4, 5, 12] 1
  · repeat' (first | rfl | with_reducible assumption | assumption | constructor)
  intro u2 f2 s2 hf2
  replace hf2 : f2 = [(2, _), (3, _), (4, _), (5, _), (12, _)] := hf2
  subst hf2
  refine Ls.store LO rfl rfl rfl rfl rfl (vs := [.bool false]) rfl rfl rfl (hq1_.same s2) rfl ?_
  intro y2 hq2_ n2 _
  have hq2_ : BX y2 q 28 (IpV.mk i.tos i.id false i.keep i.off i.ttl i.proto i.dst i.src i.o).cs := hq2_
  have n2 := (n1.same s2).trans n2
  apply Ls.runK LO [2, 3, 4, 5, 13] 1
  · repeat' (first | rfl | with_reducible assumption | assumption | constructor)
  intro u3 f3 s3 hf3
  replace hf3 : f3 = [(2, _), (3, _), (4, _), (5, _), (13, _)] := hf3
  subst hf3
  refine Ls.store LO rfl rfl rfl rfl rfl (vs := [.bool false]) rfl rfl rfl (hq2_.same s3) rfl ?_
  intro y3 hq3_ n3 _
  have hq3_ : BX y3 q 28 (IpV.mk i.tos i.id false false i.off i.ttl i.proto i.dst i.src i.o).cs := hq3_
  have n3 := (n2.same s3).trans n3
  apply Ls.runK LO [2, 3, 4, 5, 14] 1
  · repeat' (first | rfl | with_reducible assumption | assumption | constructor)
  intro u4 f4 s4 hf4
  replace hf4 : f4 = [(2, _), (3, _), (4, _), (5, _), (14, _)] := hf4
  subst hf4
  refine Ls.store LO rfl rfl rfl rfl rfl (vs := [.int .i64 0]) rfl rfl rfl (hq3_.same s4) rfl ?_
  intro y4 hq4_ n4 _
  have hq4_ : BX y4 q 28 (IpV.mk i.tos i.id false false 0 i.ttl i.proto i.dst i.src i.o).cs := hq4_
  have n4 := (n3.same s4).trans n4
  apply Ls.runK LO [2, 3, 4, 5, 15] 1
  · repeat' (first | rfl | with_reducible assumption | assumption | constructor)
  intro u5 f5 s5 hf5
  replace hf5 : f5 = [(2, _), (3, _), (4, _), (5, _), (15, _)] := hf5
  subst hf5
  refine Ls.store LO rfl rfl rfl rfl rfl (vs := [.int .i64 0]) rfl rfl rfl (hq4_.same s5) rfl ?_
  intro y5 hq5_ n5 _
  have hq5_ : BX y5 q 28 (IpV.mk i.tos 0 false false 0 i.ttl i.proto i.dst i.src i.o).cs := hq5_
  have n5 := (n4.same s5).trans n5
  apply Ls.runK LO [2, 3, 4, 5, 16] 1
  · repeat' (first | rfl | with_reducible assumption | assumption | constructor)
  intro u6 f6 s6 hf6
  replace hf6 : f6 = [(2, _), (3, _), (4, _), (5, _), (16, _)] := hf6
  subst hf6
  refine Ls.store LO rfl rfl rfl rfl rfl (vs := [.int .i64 64]) rfl rfl rfl (hq5_.same s6) rfl ?_
  intro y6 hq6_ n6 _
  have hq6_ : BX y6 q 28 (IpV.mk i.tos 0 false false 0 64 i.proto i.dst i.src i.o).cs := hq6_
  have n6 := (n5.same s6).trans n6
  apply Ls.runK LO [2, 3, 4, 5, 17] 1
  · repeat' (first | rfl | with_reducible assumption | assumption | constructor)
  intro u7 f7 s7 hf7
  replace hf7 : f7 = [(2, _), (3, _), (4, _), (5, _), (17, _)] := hf7
  subst hf7
  refine Ls.store LO rfl rfl rfl rfl rfl (vs := [.string ⟨#[]⟩]) rfl rfl rfl (hq6_.same s7) rfl ?_
  intro y7 hq7_ n7 _
  have hq7_ : BX y7 q 28 (IpV.mk i.tos 0 false false 0 64 i.proto i.dst i.src ⟨#[]⟩).cs := hq7_
  have n7 := (n6.same s7).trans n7
  have hq5 : BX y7 q 28 i.back.cs := hq7_
  have hb5 := hb4.moved n7 (by omega)
  have hr5 := hr4.moved n7 (by omega)
  have hx5 := hx4.moved n7 (by omega)
  have m5 : Mv (fun _ => False) w y7 := m4.cut n7 fun k hk e => by omega
  clear d7 d8 hq0_ hq1_ hq2_ hq3_ hq4_ hq5_ hq6_ hq7_ n0 n1 n2 n3 n4 n5 n6 n7 hb4 hr4 hx4 hq4 m4 s0 s1 s2 s3 s4 s5 s6 s7
  refine Ls.nil (N.to ?_)
  have hpr : ¬ p = r := by omega
  have hqr' : ¬ q = r := by omega
  have F1 : ∀ w', Mv (· = r) y7 w' → CellsAt w' p 0 6 (six f) := fun w' m => (hb5.moved m hpr).part (x := []) (y := six f) (z := six g ++ [.int .i64 t]) rfl rfl rfl
  have F2 : ∀ w', Mv (· = r) y7 w' → CellsAt w' p 6 6 (six g) := fun w' m => (hb5.moved m hpr).part (x := six f) (y := six g) (z := [.int .i64 t]) rfl rfl rfl
  have F3 : ∀ w', Mv (· = r) y7 w' → Cl w' ⟨p, 0 + 12, none⟩ (.int .i64 t) := fun w' m => (hb5.moved m hpr).cl rfl
  have F4 : ∀ w', Mv (· = r) y7 w' → CellsAt w' q 0 10 i.back.cs := fun w' m => (hq5.moved m hqr').cells
  refine W.seq (W.held mixed (fun w' => Mv (· = r) y7 w') [9] 10 rfl (fun w' s => (Mv.refl _ y7).same s) ?_)
  intro x0 s0
  apply H.takesK LO true [4, 5, 24, 25] [0, 1, 2, 3, 4, 5, 6, 7] (k := 2) rfl (by kernel_rfl)
  · repeat' (first | rfl | with_reducible assumption | assumption | (intro w' hw'; replace hw' := hw' rfl; have h0' := F1 w' hw'; have h1' := F2 w' hw'; have h2' := F3 w' hw'; have h3' := F4 w' hw') | constructor)
  intro g_ hg_
  replace hg_ : g_ = [(4, _), (5, _), (24, _), (25, _)] := hg_
  subst hg_
  refine H.only (i := 8) rfl (by kernel_rfl) ?_
  refine Ls.store LO rfl rfl rfl rfl rfl (vs := ecs g f t) rfl rfl rfl (hr5.same s0) rfl ?_
  intro x1 hr9 n1 _
  have hr9 : BX x1 r 33 (ecs g f t) := hr9
  have hx9 := (hx5.same s0).moved n1 (by omega)
  refine Ls.nil (N.goOn (fun _ => ((Mv.refl _ y7).same s0).trans n1) ?_)
  have n1 : Mv (fun _ => False) w x1 := (m5.same s0).cut n1 fun k hk e => by omega
  refine H.only (i := 9) rfl (by kernel_rfl) ?_
  refine Ls.store LO rfl rfl rfl rfl rfl (vs := i.back.cs) rfl rfl rfl hx9 rfl ?_
  intro x2 hx10 n2 _
  have hx10 : BX x2 x 28 i.back.cs := hx10
  have hr10 := hr9.moved n2 (by omega)
  have n2 : Mv (fun _ => False) w x2 := n1.cut n2 fun k hk e => by omega
  refine Ls.nil (N.goOn (fun hint => absurd (show true = false from hint 9 List.mem_cons_self) (by decide)) ?_)
  refine H.done (by kernel_rfl) (N.to (W.ret ?_))
  have l1 : CellsAt x2 r 0 13 (ecs g f t) := hr10.cells
  have l2 : CellsAt x2 x 0 10 i.back.cs := hx10.cells
  exact post LO (rs := [.cell 4 33, .cell 5 28]) rfl (vs := [.agg (ecs g f t).toArray, .agg i.back.cs.toArray]) (.cell rfl rfl (.agg l1) (.cell rfl rfl (.agg l2) .nil)) ⟨rfl, n2⟩
end Go.Proofs.Ytbidgeaigiijpaa
