/- What is proved: the reference's resets, what it tells of what cannot be reached. Conditions: those that stand in each theorem. -/
import Derived.Test.YtbidgeaigiijpaaNetRef8
import Derived.Test.YtbidgeaigiijpaaNetRef9
import Derived.Test.YtbidgeaigiijpaaNetCr3
namespace Go.Proofs.Ytbidgeaigiijpaa
set_option linter.unusedVariables false
set_option linter.unusedSimpArgs false
set_option linter.unusedSectionVars false
open Go.RowKit Fw Nt
def seg0 : SegV := ⟨0, 0, 0, 0, 0, 0, ⟨#[]⟩⟩
set_option maxRecDepth 100000 in
set_option maxHeartbeats 1000000 in
theorem rreset_walk (e : EthV) (i : IpV) (h : SegV) (seq ack : Int) (back : Bool) (w : World) (ok : e.Ok) (iok : i.Ok) (hs : 0 ≤ seq ∧ seq ≤ 4294967295) (ha : 0 ≤ ack ∧ ack ≤ 4294967295) :
    Calls Try.prog 26 #[.agg e.cs.toArray, .agg i.cs.toArray, .agg h.cs.toArray, .int .u32 seq, .int .u32 ack, .bool back] w fun e' w' => e' = .returned (.string (resetS e i h seq ack back)) ∧ Mv (fun _ => False) w w' := by
  obtain ⟨f, hf⟩ : ∃ f : Nat → Int, f = fun j : Nat => bt e.d (j : Int) := ⟨_, rfl⟩
  obtain ⟨g, hg⟩ : ∃ g : Nat → Int, g = fun j : Nat => bt e.s (j : Int) := ⟨_, rfl⟩
  have hcs : e.cs = ecs f g e.t := by rw [hf, hg]; exact EthV.ecs ok
  have hcs2 : ecs (bif back then g else f) (bif back then f else g) e.t = (turnE back e).cs := by
    cases back
    · exact hcs.symm
    · rw [hf, hg]; exact (EthV.ecs (h := ⟨e.s, e.d, e.t⟩) ⟨ok.s, ok.d⟩).symm
  rw [hcs]
  refine calls_W (n := 42) (vs := [.agg (ecs f g e.t).toArray, .agg i.cs.toArray, .agg h.cs.toArray, .int .u32 seq, .int .u32 ack, .bool back]) Try.func26 rfl rfl rfl ?_
  refine W.seq (W.list ?_)
  refine Ls.box rfl rfl rfl rfl rfl (vs := ecs f g e.t) rfl ?_
  have hb1 : BX (w.alloc (.cells (ecs f g e.t).toArray 33)) w.heap.size 33 (ecs f g e.t) := heap_alloc_new w (.cells (ecs f g e.t).toArray 33)
  have m1 : Mv (fun _ => False) w (w.alloc (.cells (ecs f g e.t).toArray 33)) := (Mv.refl _ w).alloc _
  generalize w.alloc (.cells (ecs f g e.t).toArray 33) = w1 at hb1 m1
  obtain ⟨p, hp⟩ : ∃ p, p = w.heap.size := ⟨_, rfl⟩
  rw [← hp] at hb1
  rw [← hp]
  have hpl := hb1.lt
  refine Ls.box rfl rfl rfl rfl rfl (vs := i.cs) rfl ?_
  have hq2 : BX (w1.alloc (.cells i.cs.toArray 28)) w1.heap.size 28 i.cs := heap_alloc_new w1 (.cells i.cs.toArray 28)
  have m2 : Mv (fun _ => False) w1 (w1.alloc (.cells i.cs.toArray 28)) := (Mv.refl _ w1).alloc _
  generalize w1.alloc (.cells i.cs.toArray 28) = w2 at hq2 m2
  obtain ⟨q, hq⟩ : ∃ q, q = w1.heap.size := ⟨_, rfl⟩
  rw [← hq] at hq2
  rw [← hq]
  have hql := hq2.lt
  have hb2 := hb1.moved m2 fun e => e
  have m2 := m1.trans m2
  refine Ls.box rfl rfl rfl rfl rfl (vs := h.cs) rfl ?_
  have hr3 : BX (w2.alloc (.cells h.cs.toArray 26)) w2.heap.size 26 h.cs := heap_alloc_new w2 (.cells h.cs.toArray 26)
  have m3 : Mv (fun _ => False) w2 (w2.alloc (.cells h.cs.toArray 26)) := (Mv.refl _ w2).alloc _
  generalize w2.alloc (.cells h.cs.toArray 26) = w3 at hr3 m3
  obtain ⟨r, hr⟩ : ∃ r, r = w2.heap.size := ⟨_, rfl⟩
  rw [← hr] at hr3
  rw [← hr]
  have hrl := hr3.lt
  have hb3 := hb2.moved m3 fun e => e
  have hq3 := hq2.moved m3 fun e => e
  have m3 := m2.trans m3
  have hpq : p < q := by omega
  have hqr : q < r := by omega
  have hwp : w.heap.size ≤ p := by omega
  apply Ls.runK LO [3, 4, 5, 6, 7, 8] 1
  · repeat' (first | rfl | with_reducible assumption | assumption | constructor)
  intro w4 f4 s4 hf4
  replace hf4 : f4 = [(3, _), (4, _), (5, _), (6, _), (7, _), (8, _)] := hf4
  subst hf4
  refine Ls.nil (N.to ?_)
  have m4 := m3.same s4
  have hb4 := hb3.same s4
  have hq4 := hq3.same s4
  have hr4 := hr3.same s4
  have hr4l := hr4.lt
  clear m1 m2 m3 hb1 hb2 hb3 hq2 hq3 hr3 s4 hp hq hr hpl hql hrl
  -- the new head
  refine W.seq (W.list ?_)
  have d1 : Cl w4 ⟨r, 0 + 0, none⟩ (.int .i64 h.sp) := hr4.cl rfl
  have d2 : Cl w4 ⟨r, 0 + 1, none⟩ (.int .i64 h.dp) := hr4.cl rfl
  apply Ls.runK LO [5, 6, 7, 8, 20] 7
  · repeat' (first | rfl | with_reducible assumption | assumption | constructor)
  intro w5 f5 s5 hf5
  replace hf5 : f5 = [(5, _), (6, _), (7, _), (8, _), (20, _)] := hf5
  subst hf5
  refine Ls.alloc LO rfl rfl rfl rfl (zs := seg0.cs) rfl ?_
  have hx6 : BX (w5.alloc (.cells seg0.cs.toArray 26)) w5.heap.size 26 seg0.cs := heap_alloc_new w5 (.cells seg0.cs.toArray 26)
  have m6 : Mv (fun _ => False) w5 (w5.alloc (.cells seg0.cs.toArray 26)) := (Mv.refl _ w5).alloc _
  have hz5 : w5.heap.size = w4.heap.size := by rw [s5.heap]
  generalize w5.alloc (.cells seg0.cs.toArray 26) = w6 at hx6 m6
  obtain ⟨x, hx⟩ : ∃ x, x = w5.heap.size := ⟨_, rfl⟩
  rw [← hx] at hx6
  rw [← hx]
  have hrx : r < x := by omega
  have hb6 := (hb4.same s5).moved m6 fun e => e
  have hq6 := (hq4.same s5).moved m6 fun e => e
  have hr6 := (hr4.same s5).moved m6 fun e => e
  have m6 := (m4.same s5).trans m6
  refine Ls.store LO rfl rfl rfl rfl rfl (vs := (rstH h seq ack).cs) rfl rfl rfl hx6 rfl ?_
  intro w7 hx7 m7 _
  have hx7 : BX w7 x 26 (rstH h seq ack).cs := hx7
  have hb7 := hb6.moved m7 (by omega)
  have hq7 := hq6.moved m7 (by omega)
  have hr7 := hr6.moved m7 (by omega)
  have m7 : Mv (fun _ => False) w w7 := m6.cut m7 fun k hk e => by omega
  refine Ls.nil (N.to ?_)
  clear d1 d2 hx6 m6 hz5 hx hb6 hq6 hr6 s5 m4 hb4 hq4 hr4 hr4l
  obtain ⟨h', hh'⟩ : ∃ h', h' = turnH back h := ⟨_, rfl⟩
  obtain ⟨i', hi'⟩ : ∃ i', i' = turnI back i := ⟨_, rfl⟩
  refine W.cutS (fun w' g_ => Mv (fun _ => False) w w' ∧ BX w' p 33 (ecs (bif back then g else f) (bif back then f else g) e.t) ∧ BX w' q 28 i'.cs ∧ BX w' x 26 (rstH h' seq ack).cs ∧ g_ = [(6, .pointer (some ⟨p, 0, none⟩)), (7, .pointer (some ⟨q, 0, none⟩)), (13, .pointer (some ⟨x, 0, none⟩))]) ?_ ?_
  ·
    apply W.readS LO mixed [6, 7, 8, 13, 21] (by kernel_rfl)
    · repeat' (first | rfl | with_reducible assumption | assumption | constructor)
    intro w8 f8 s8 hf8
    replace hf8 : f8 = [(6, _), (7, _), (8, _), (13, _), (21, _)] := hf8
    subst hf8
    have m8 := m7.same s8
    have hb8 := hb7.same s8
    have hq8 := hq7.same s8
    have hr8 := hr7.same s8
    have hx8 := hx7.same s8
    clear m7 hb7 hq7 hr7 hx7 s8
    cases back with
    | false =>
      refine W.cond (b := false) rfl (fun h => by cases h) (fun _ => ?_)
      refine W.list ?_
      apply Ls.runK LO [6, 7, 13, 34] 1
      · repeat' (first | rfl | with_reducible assumption | assumption | constructor)
      intro u0 e0_ t0 he0_
      replace he0_ : e0_ = [(6, _), (7, _), (13, _), (34, _)] := he0_
      subst he0_
      refine Ls.store LO rfl rfl rfl rfl rfl (vs := [.bool false]) rfl rfl rfl (hq8.same t0) rfl ?_
      intro y0 hq9 n0 _
      have hq9 : BX y0 q 28 (IpV.mk i.tos i.id false i.keep i.off i.ttl i.proto i.src i.dst i.o).cs := hq9
      have n0 := ((Mv.refl (· = q) w8).same t0).trans n0
      apply Ls.runK LO [6, 7, 13, 35] 1
      · repeat' (first | rfl | with_reducible assumption | assumption | constructor)
      intro u1 e1 t1 he1
      replace he1 : e1 = [(6, _), (7, _), (13, _), (35, _)] := he1
      subst he1
      refine Ls.store LO rfl rfl rfl rfl rfl (vs := [.bool false]) rfl rfl rfl (hq9.same t1) rfl ?_
      intro y1 hq10 n1 _
      have hq10 : BX y1 q 28 (IpV.mk i.tos i.id false false i.off i.ttl i.proto i.src i.dst i.o).cs := hq10
      have n1 := (n0.same t1).trans n1
      apply Ls.runK LO [6, 7, 13, 36] 1
      · repeat' (first | rfl | with_reducible assumption | assumption | constructor)
      intro u2 e2 t2 he2
      replace he2 : e2 = [(6, _), (7, _), (13, _), (36, _)] := he2
      subst he2
      refine Ls.store LO rfl rfl rfl rfl rfl (vs := [.int .i64 0]) rfl rfl rfl (hq10.same t2) rfl ?_
      intro y2 hq11 n2 _
      have hq11 : BX y2 q 28 (IpV.mk i.tos i.id false false 0 i.ttl i.proto i.src i.dst i.o).cs := hq11
      have n2 := (n1.same t2).trans n2
      apply Ls.runK LO [6, 7, 13, 37] 1
      · repeat' (first | rfl | with_reducible assumption | assumption | constructor)
      intro u3 e3 t3 he3
      replace he3 : e3 = [(6, _), (7, _), (13, _), (37, _)] := he3
      subst he3
      refine Ls.store LO rfl rfl rfl rfl rfl (vs := [.string ⟨#[]⟩]) rfl rfl rfl (hq11.same t3) rfl ?_
      intro y3 hq12 n3 _
      have hq12 : BX y3 q 28 i.plain.cs := hq12
      have n3 := (n2.same t3).trans n3
      refine Ls.nil ?_
      exact N.cut ⟨m8.cut n3 fun k hk e => by omega, hb8.moved n3 (by omega), by rw [hi']; exact hq12, by rw [hh']; exact hx8.moved n3 (by omega), rfl⟩ (sub_keys rfl)
    | true =>
      refine W.cond (b := true) rfl (fun _ => ?_) (fun h => by cases h)
      refine W.seq (W.list ?_)
      have c1 : CellsAt w8 p 0 13 (ecs f g e.t) := hb8.cells
      have c2 : CellsAt w8 q 0 10 i.cs := hq8.cells
      apply Ls.runK LO [6, 7, 8, 13, 23, 24] 2
      · repeat' (first | rfl | with_reducible assumption | assumption | constructor)
      intro u0 e0_ t0 he0_
      replace he0_ : e0_ = [(6, _), (7, _), (8, _), (13, _), (23, _), (24, _)] := he0_
      subst he0_
      refine Ls.call LO rfl rfl rfl rfl rfl (vs := [.agg (ecs f g e.t).toArray, .agg i.cs.toArray]) rfl (rback_walk f g e.t i u0) ?_
      rintro _ u1 ⟨rfl, n1⟩
      refine ⟨_, rfl, ?_⟩
      have m9 := (m8.same t0).trans n1
      have hb9 := (hb8.same t0).moved n1 fun e => e
      have hq9 := (hq8.same t0).moved n1 fun e => e
      have hr9 := (hr8.same t0).moved n1 fun e => e
      have hx9 := (hx8.same t0).moved n1 fun e => e
      clear c1 c2 m8 hb8 hq8 hr8 hx8 t0 n1
      apply Ls.runK LO [6, 7, 8, 13, 26, 27] 3
      · repeat' (first | rfl | with_reducible assumption | assumption | constructor)
      intro u2 e2 t2 he2
      replace he2 : e2 = [(6, _), (7, _), (8, _), (13, _), (26, _), (27, _)] := he2
      subst he2
      refine Ls.store LO rfl rfl rfl rfl rfl (vs := ecs g f e.t) rfl rfl rfl (hb9.same t2) rfl ?_
      intro u3 hb10 n3 _
      have hb10 : BX u3 p 33 (ecs g f e.t) := hb10
      have hq10 := (hq9.same t2).moved n3 (by omega)
      have hr10 := (hr9.same t2).moved n3 (by omega)
      have hx10 := (hx9.same t2).moved n3 (by omega)
      have m10 : Mv (fun _ => False) w u3 := (m9.same t2).cut n3 fun k hk e => by omega
      refine Ls.store LO rfl rfl rfl rfl rfl (vs := i.back.cs) rfl rfl rfl hq10 rfl ?_
      intro u4 hq11 n4 _
      have hq11 : BX u4 q 28 i.back.cs := hq11
      have hb11 := hb10.moved n4 (by omega)
      have hr11 := hr10.moved n4 (by omega)
      have hx11 := hx10.moved n4 (by omega)
      have m11 : Mv (fun _ => False) w u4 := m10.cut n4 fun k hk e => by omega
      clear hb9 hq9 hr9 hx9 m9 hb10 hq10 hr10 hx10 m10 n3 n4 t2
      refine Ls.nil (N.to ?_)
      have hrx' : ¬ r = x := by omega
      have F1 : ∀ w', Mv (· = x) u4 w' → Cl w' ⟨r, 0 + 1, none⟩ (.int .i64 h.dp) := fun w' m => (hr11.moved m hrx').cl rfl
      have F2 : ∀ w', Mv (· = x) u4 w' → Cl w' ⟨r, 0 + 0, none⟩ (.int .i64 h.sp) := fun w' m => (hr11.moved m hrx').cl rfl
      refine W.held mixed (fun w' => Mv (· = x) u4 w') [] 8 rfl (fun w' s => (Mv.refl _ u4).same s) ?_
      intro x0 s0
      apply H.takesK LO true [6, 7, 13, 29, 31] [0, 1, 2, 3] (k := 4) rfl (by kernel_rfl)
      · repeat' (first | rfl | with_reducible assumption | assumption | (intro w' hw'; replace hw' := hw' rfl; have h0' := F1 w' hw'; have h1' := F2 w' hw') | constructor)
      intro g_ hg_
      replace hg_ : g_ = [(6, _), (7, _), (13, _), (29, _), (31, _)] := hg_
      subst hg_
      apply H.takesK LO false [6, 7, 13, 29, 31, 32] [4] (k := 3) rfl (by kernel_rfl)
      · repeat' (first | rfl | with_reducible assumption | assumption | (intro w' hw'; replace hw' := True.intro) | constructor)
      intro g_ hg_
      replace hg_ : g_ = [(6, _), (7, _), (13, _), (29, _), (31, _), (32, _)] := hg_
      subst hg_
      refine H.only (i := 5) rfl (by kernel_rfl) ?_
      refine Ls.store LO rfl rfl rfl rfl rfl (vs := [.int .i64 h.dp]) rfl rfl rfl (hx11.same s0) rfl ?_
      intro x1 hx12 n1 _
      have hx12 : BX x1 x 26 (SegV.mk h.dp h.dp seq ack 20 0 ⟨#[]⟩).cs := hx12
      have n1 := ((Mv.refl (· = x) u4).same s0).trans n1
      refine Ls.nil (N.goOn (fun _ => n1) ?_)
      apply H.takesK LO false [6, 7, 13, 31, 33] [6] (k := 1) rfl (by kernel_rfl)
      · repeat' (first | rfl | with_reducible assumption | assumption | (intro w' hw'; replace hw' := True.intro) | constructor)
      intro g_ hg_
      replace hg_ : g_ = [(6, _), (7, _), (13, _), (31, _), (33, _)] := hg_
      subst hg_
      refine H.only (i := 7) rfl (by kernel_rfl) ?_
      refine Ls.store LO rfl rfl rfl rfl rfl (vs := [.int .i64 h.sp]) rfl rfl rfl hx12 rfl ?_
      intro x2 hx13 n2 _
      have hx13 : BX x2 x 26 (SegV.mk h.dp h.sp seq ack 20 0 ⟨#[]⟩).cs := hx13
      have n2 := n1.trans n2
      refine Ls.nil (N.goOn (fun _ => n2) ?_)
      refine H.done (by kernel_rfl) ?_
      exact N.cut ⟨m11.cut n2 fun k hk e => by omega, hb11.moved n2 (by omega), by rw [hi']; exact hq11.moved n2 (by omega), by rw [hh']; exact hx13, rfl⟩ (sub_keys rfl)
  clear m7 hb7 hq7 hr7 hx7
  rintro w8 _ ⟨m8, hb8, hq8, hx8, rfl⟩
  obtain ⟨f', hf'⟩ : ∃ f' : Nat → Int, f' = (bif back then g else f) := ⟨_, rfl⟩
  obtain ⟨g', hg'⟩ : ∃ g' : Nat → Int, g' = (bif back then f else g) := ⟨_, rfl⟩
  rw [← hf', ← hg'] at hcs2 hb8
  refine W.seq (W.list ?_)
  have c1 : CellsAt w8 p 0 13 (ecs f' g' e.t) := hb8.cells
  have c2 : CellsAt w8 q 0 10 i'.cs := hq8.cells
  have c3 : CellsAt w8 x 0 7 (rstH h' seq ack).cs := hx8.cells
  apply Ls.runK LO [38, 39, 40] 3
  · repeat' (first | rfl | with_reducible assumption | assumption | constructor)
  intro w11 f11 s11 hf11
  replace hf11 : f11 = [(38, _), (39, _), (40, _)] := hf11
  subst hf11
  have ek : segS (turnE back e) i' (rstH h' seq ack) ⟨#[]⟩ = resetS e i h seq ack back := by unfold resetS; rw [hi', hh']
  refine Ls.call LO rfl rfl rfl rfl rfl (vs := [.agg (ecs f' g' e.t).toArray, .agg i'.cs.toArray, .agg (rstH h' seq ack).cs.toArray, .string ⟨#[]⟩]) rfl (rseg_walk (turnE back e) i' (rstH h' seq ack) ⟨#[]⟩ w11 (turnE_ok ok) (by rw [hi']; exact turnI_ok iok) ⟨hs, ha, Nat.zero_le _⟩ (Nat.zero_le _) hcs2) ?_
  rintro _ w12 ⟨rfl, m12⟩
  refine ⟨_, rfl, ?_⟩
  rw [ek]
  apply Ls.runK LO [12] 1
  · repeat' (first | rfl | with_reducible assumption | assumption | constructor)
  intro w13 f13 s13 hf13
  replace hf13 : f13 = [(12, _)] := hf13
  subst hf13
  exact Ls.nil (N.to (W.ret (post LO (rs := [.tmp 12]) rfl (vs := [.string (resetS e i h seq ack back)]) (.tmp rfl .nil) ⟨rfl, ((m8.same s11).trans m12).same s13⟩)))
set_option maxRecDepth 100000 in
set_option maxHeartbeats 1000000 in
theorem runr_walk (e : EthV) (i : IpV) (body : ByteArray) (w : World) (ok : e.Ok) (iok : i.Ok) (hbody : body.size ≤ 1000000000000000) : Calls Try.prog 28 #[.agg e.cs.toArray, .agg i.cs.toArray, .string body] w fun e' w' => e' = .returned (.string (unrS e i body)) ∧ Mv (fun _ => False) w w' := by
  obtain ⟨f, hf⟩ : ∃ f : Nat → Int, f = fun j : Nat => bt e.d (j : Int) := ⟨_, rfl⟩
  obtain ⟨g, hg⟩ : ∃ g : Nat → Int, g = fun j : Nat => bt e.s (j : Int) := ⟨_, rfl⟩
  have hcs : e.cs = ecs f g e.t := by rw [hf, hg]; exact EthV.ecs ok
  have hcs2 : ecs g f e.t = (EthV.mk e.s e.d e.t).cs := by rw [hf, hg]; exact (EthV.ecs (h := ⟨e.s, e.d, e.t⟩) ⟨ok.s, ok.d⟩).symm
  rw [hcs]
  have oko := iok.o
  refine calls_W (n := 47) (vs := [.agg (ecs f g e.t).toArray, .agg i.cs.toArray, .string body]) Try.func28 rfl rfl rfl ?_
  refine W.seq (W.list ?_)
  refine Ls.box rfl rfl rfl rfl rfl (vs := ecs f g e.t) rfl ?_
  have hb1 : BX (w.alloc (.cells (ecs f g e.t).toArray 33)) w.heap.size 33 (ecs f g e.t) := heap_alloc_new w (.cells (ecs f g e.t).toArray 33)
  have m1 : Mv (fun _ => False) w (w.alloc (.cells (ecs f g e.t).toArray 33)) := (Mv.refl _ w).alloc _
  generalize w.alloc (.cells (ecs f g e.t).toArray 33) = w1 at hb1 m1
  generalize w.heap.size = p at hb1
  refine Ls.box rfl rfl rfl rfl rfl (vs := i.cs) rfl ?_
  have hq2 : BX (w1.alloc (.cells i.cs.toArray 28)) w1.heap.size 28 i.cs := heap_alloc_new w1 (.cells i.cs.toArray 28)
  have m2 : Mv (fun _ => False) w1 (w1.alloc (.cells i.cs.toArray 28)) := (Mv.refl _ w1).alloc _
  generalize w1.alloc (.cells i.cs.toArray 28) = w2 at hq2 m2
  generalize w1.heap.size = q at hq2
  have hb2 := hb1.moved m2 fun e => e
  have m2 := m1.trans m2
  apply Ls.runK LO [2, 3, 4] 1
  · repeat' (first | rfl | with_reducible assumption | assumption | constructor)
  intro w3 f3 s3 hf3
  replace hf3 : f3 = [(2, _), (3, _), (4, _)] := hf3
  subst hf3
  refine Ls.nil (N.to ?_)
  have m3 := m2.same s3
  have hb3 := hb2.same s3
  have hq3 := hq2.same s3
  clear m1 m2 hb1 hb2 hq2 s3
  refine W.seq (W.list ?_)
  have hc : CellsAt w3 q 0 10 i.cs := hq3.cells
  apply Ls.runK LO [3, 4, 14, 15] 2
  · repeat' (first | rfl | with_reducible assumption | assumption | constructor)
  intro w4 f4 s4 hf4
  replace hf4 : f4 = [(3, _), (4, _), (14, _), (15, _)] := hf4
  subst hf4
  refine Ls.call LO rfl rfl rfl rfl rfl (vs := [.agg i.cs.toArray, .string body]) rfl (rput3_walk i body w4 iok hbody) ?_
  rintro _ w5 ⟨rfl, m5⟩
  refine ⟨_, rfl, ?_⟩
  obtain ⟨r, hr⟩ : ∃ r, r = i.put body := ⟨_, rfl⟩
  have hql := quote_le i body
  unfold quote at hql
  rw [← hr] at hql
  rw [← hr]
  apply Ls.runK LO [3, 4, 7] 5
  · repeat' (first | rfl | with_reducible assumption | assumption | constructor)
  intro w6 f6 s6 hf6
  replace hf6 : f6 = [(3, _), (4, _), (7, _)] := hf6
  subst hf6
  refine Ls.nil (N.to ?_)
  have m7 := ((m3.same s4).trans m5).same s6
  have hb7 := ((hb3.same s4).moved m5 fun e => e).same s6
  have hq7 := ((hq3.same s4).moved m5 fun e => e).same s6
  clear m3 hb3 hq3 hc s4 m5 s6
  have hL : ∃ L : Nat, L = min r.1.size (28 + i.o.size) := ⟨_, rfl⟩
  obtain ⟨L, hL⟩ := hL
  rw [← hL] at hql
  have hLs : L ≤ r.1.size := by omega
  have d9 : Cl w6 ⟨q, 0 + 9, none⟩ (.string i.o) := hq7.cl rfl
  have k1 : Kn (IntKind.i64.wrap (28 + (i.o.size : Int))) ((28 + i.o.size : Nat) : Int) := .of (by rw [show 28 + (i.o.size : Int) = ((28 + i.o.size : Nat) : Int) by omega]; exact IntWalk.i64_in _ (by omega))
  have k3 : Kn (if ((28 + i.o.size : Nat) : Int) < (r.1.size : Int) then ((28 + i.o.size : Nat) : Int) else (r.1.size : Int)) (L : Int) := .of (by split <;> omega)
  have l0 : (0 : Int) ≤ (L : Int) := by omega
  have l1 : (L : Int) ≤ (r.1.size : Int) := by omega
  refine W.seq (W.list ?_)
  apply Ls.runK LO [3, 4, 7] 10
  · repeat' (first | rfl | with_reducible assumption | assumption | constructor)
  intro w8 f8 s8 hf8
  replace hf8 : f8 = [(3, _), (4, _), (7, _)] := hf8
  subst hf8
  rw [Int.toNat_natCast]
  obtain ⟨M, hM⟩ : ∃ M, M = r.1.extract 0 L := ⟨_, rfl⟩
  rw [← hM] at hql
  rw [← hM]
  refine Ls.nil (N.to ?_)
  have hb8 := hb7.same s8
  have hq8 := hq7.same s8
  have m8 := m7.same s8
  clear m7 hb7 hq7 d9 k1 k3 l0 l1 s8
  -- turned round
  refine W.seq (W.list ?_)
  have c1 : CellsAt w8 p 0 13 (ecs f g e.t) := hb8.cells
  have c2 : CellsAt w8 q 0 10 i.cs := hq8.cells
  apply Ls.runK LO [7, 29, 30] 2
  · repeat' (first | rfl | with_reducible assumption | assumption | constructor)
  intro w9 f9 s9 hf9
  replace hf9 : f9 = [(7, _), (29, _), (30, _)] := hf9
  subst hf9
  refine Ls.call LO rfl rfl rfl rfl rfl (vs := [.agg (ecs f g e.t).toArray, .agg i.cs.toArray]) rfl (rback_walk f g e.t i w9) ?_
  rintro _ w10 ⟨rfl, m10⟩
  refine ⟨_, rfl, ?_⟩
  have m10 := (m8.same s9).trans m10
  clear c1 c2 m8 hb8 hq8 s9
  apply Ls.runK LO [7, 32, 33] 3
  · repeat' (first | rfl | with_reducible assumption | assumption | constructor)
  intro w11 f11 s11 hf11
  replace hf11 : f11 = [(7, _), (32, _), (33, _)] := hf11
  subst hf11
  have m11 := m10.same s11
  refine Ls.alloc LO rfl rfl rfl rfl (zs := ecs e0 e0 0) rfl ?_
  have hx12 : BX (w11.alloc (.cells (ecs e0 e0 0).toArray 33)) w11.heap.size 33 (ecs e0 e0 0) := heap_alloc_new w11 (.cells (ecs e0 e0 0).toArray 33)
  have m12 : Mv (fun _ => False) w11 (w11.alloc (.cells (ecs e0 e0 0).toArray 33)) := (Mv.refl _ w11).alloc _
  generalize w11.alloc (.cells (ecs e0 e0 0).toArray 33) = w12 at hx12 m12
  have hz11 := m11.size
  obtain ⟨x, hx⟩ : ∃ x, x = w11.heap.size := ⟨_, rfl⟩
  rw [← hx] at hx12 hz11
  rw [← hx]
  have hxl := hx12.lt
  have m12 := m11.trans m12
  refine Ls.alloc LO rfl rfl rfl rfl (zs := ipN.cs) rfl ?_
  have hy13 : BX (w12.alloc (.cells ipN.cs.toArray 28)) w12.heap.size 28 ipN.cs := heap_alloc_new w12 (.cells ipN.cs.toArray 28)
  have m13 : Mv (fun _ => False) w12 (w12.alloc (.cells ipN.cs.toArray 28)) := (Mv.refl _ w12).alloc _
  generalize w12.alloc (.cells ipN.cs.toArray 28) = w13 at hy13 m13
  obtain ⟨y, hy⟩ : ∃ y, y = w12.heap.size := ⟨_, rfl⟩
  rw [← hy] at hy13
  rw [← hy]
  have hxy : x < y := by omega
  have hx13 := hx12.moved m13 fun e => e
  have m13 := m12.trans m13
  refine Ls.store LO rfl rfl rfl rfl rfl (vs := ecs g f e.t) rfl rfl rfl hx13 rfl ?_
  intro w14 hx14 m14 _
  have hx14 : BX w14 x 33 (ecs g f e.t) := hx14
  have hy14 := hy13.moved m14 (by omega)
  have m14 : Mv (fun _ => False) w w14 := m13.cut m14 fun k hk e => by omega
  refine Ls.store LO rfl rfl rfl rfl rfl (vs := i.back.cs) rfl rfl rfl hy14 rfl ?_
  intro w15 hy15 m15 _
  have hy15 : BX w15 y 28 i.back.cs := hy15
  have hx15 := hx14.moved m15 (by omega)
  have m15 : Mv (fun _ => False) w w15 := m14.cut m15 fun k hk e => by omega
  refine Ls.nil (N.to ?_)
  clear hx12 m12 hx hxl hy13 m13 hy hx13 hx14 hy14 m14 m10 s11 m11
  refine W.seq (W.list ?_)
  apply Ls.runK LO [7, 9, 10, 34] 1
  · repeat' (first | rfl | with_reducible assumption | assumption | constructor)
  intro w16 f16 s16 hf16
  replace hf16 : f16 = [(7, _), (9, _), (10, _), (34, _)] := hf16
  subst hf16
  refine Ls.store LO rfl rfl rfl rfl rfl (vs := [.int .i64 1]) rfl rfl rfl (hy15.same s16) rfl ?_
  intro w17 hy17 m17 _
  have hy17 : BX w17 y 28 (icI i).cs := hy17
  have hx17 := (hx15.same s16).moved m17 (by omega)
  have m17 : Mv (fun _ => False) w w17 := (m15.same s16).cut m17 fun k hk e => by omega
  refine Ls.nil (N.to ?_)
  clear hx15 hy15 m15 s16
  -- the message
  refine W.seq (W.list ?_)
  apply Ls.runK LO [9, 10, 36, 37] 2
  · repeat' (first | rfl | with_reducible assumption | assumption | constructor)
  intro w18 f18 s18 hf18
  replace hf18 : f18 = [(9, _), (10, _), (36, _), (37, _)] := hf18
  subst hf18
  refine Ls.call LO rfl rfl rfl rfl rfl (vs := [.agg (dgC 3 3 0).toArray, .string M]) rfl (rcput_walk 3 3 0 M w18 (by decide) (by decide) (by decide) (by omega)) ?_
  rintro _ w19 ⟨rfl, m19⟩
  refine ⟨_, rfl, ?_⟩
  have hx19 := (hx17.same s18).moved m19 fun e => e
  have hy19 := (hy17.same s18).moved m19 fun e => e
  have m19 := (m17.same s18).trans m19
  obtain ⟨I, hI⟩ : ∃ I, I = icmpS 3 3 0 M := ⟨_, rfl⟩
  have hIs : I.size ≤ 1000 := by rw [hI, icmpS_size]; omega
  have eU : unrS e i body = datS ⟨e.s, e.d, e.t⟩ (icI i) I := by unfold unrS quote; rw [← hr, ← hL, ← hM, ← hI]
  rw [← hI]
  apply Ls.runK LO [9, 10, 11, 12] 5
  · repeat' (first | rfl | with_reducible assumption | assumption | constructor)
  intro w20 f20 s20 hf20
  replace hf20 : f20 = [(9, _), (10, _), (11, _), (12, _)] := hf20
  subst hf20
  refine Ls.nil (N.to ?_)
  have k0 : Kn ((0 : Int) != 0) false := .of rfl
  refine W.seq ?_
  apply W.readS LO mixed [9, 10, 11, 42] (by kernel_rfl)
  · repeat' (first | rfl | with_reducible assumption | assumption | constructor)
  intro w21 f21 s21 hf21
  replace hf21 : f21 = [(9, _), (10, _), (11, _), (42, _)] := hf21
  subst hf21
  refine W.cond (b := false) rfl (fun h => by cases h) (fun _ => W.skip (N.to ?_))
  have hx21 := (hx19.same s20).same s21
  have hy21 := (hy19.same s20).same s21
  have m21 := (m19.same s20).same s21
  refine W.seq (W.list ?_)
  have c1 : CellsAt w21 x 0 13 (ecs g f e.t) := hx21.cells
  have c2 : CellsAt w21 y 0 10 (icI i).cs := hy21.cells
  apply Ls.runK LO [43, 44, 45] 3
  · repeat' (first | rfl | with_reducible assumption | assumption | constructor)
  intro w22 f22 s22 hf22
  replace hf22 : f22 = [(43, _), (44, _), (45, _)] := hf22
  subst hf22
  refine Ls.call LO rfl rfl rfl rfl rfl (vs := [.agg (ecs g f e.t).toArray, .agg (icI i).cs.toArray, .string I]) rfl (rdat_walk ⟨e.s, e.d, e.t⟩ (icI i) I w22 ⟨ok.s, ok.d⟩ ⟨iok.dst, iok.src, Nat.zero_le _⟩ (by omega) hcs2) ?_
  rintro _ w23 ⟨rfl, m23⟩
  refine ⟨_, rfl, ?_⟩
  rw [← eU]
  apply Ls.runK LO [6] 1
  · repeat' (first | rfl | with_reducible assumption | assumption | constructor)
  intro w24 f24 s24 hf24
  replace hf24 : f24 = [(6, _)] := hf24
  subst hf24
  exact Ls.nil (N.to (W.ret (post LO (rs := [.tmp 6]) rfl (vs := [.string (unrS e i body)]) (.tmp rfl .nil) ⟨rfl, ((m21.same s22).trans m23).same s24⟩)))
end Go.Proofs.Ytbidgeaigiijpaa
