/- What is proved: whatever is made is what the document makes. Conditions: those that stand in each theorem. -/
import Derived.Test.YtbidgeaigiijpaaNetRef10
import Derived.Test.YtbidgeaigiijpaaNetBk5
namespace Go.Proofs.Ytbidgeaigiijpaa
set_option linter.unusedVariables false
set_option linter.unusedSimpArgs false
set_option linter.unusedSectionVars false
open Go.RowKit Fw Nt
set_option maxRecDepth 100000 in
set_option maxHeartbeats 2000000 in
theorem crall_walk (e : EthV) (i : IpV) (h : SegV) (body : ByteArray) (seq ack : Int) (w : World) (ok : e.Ok) (i1_ : 0 ≤ i.src ∧ i.src ≤ 4294967295) (i2_ : 0 ≤ i.dst ∧ i.dst ≤ 4294967295) (h1_ : 0 ≤ h.seq ∧ h.seq ≤ 4294967295) (h2_ : 0 ≤ h.ack ∧ h.ack ≤ 4294967295) (hs : 0 ≤ seq ∧ seq ≤ 4294967295) (ha : 0 ≤ ack ∧ ack ≤ 4294967295) : Calls Try.prog 5 #[.agg e.cs.toArray, .agg i.cs.toArray, .agg h.cs.toArray, .string body, .int .u32 seq, .int .u32 ack] w (Yes w) := by
  obtain ⟨f, hf⟩ : ∃ f : Nat → Int, f = fun j : Nat => bt e.d (j : Int) := ⟨_, rfl⟩
  obtain ⟨g, hg⟩ : ∃ g : Nat → Int, g = fun j : Nat => bt e.s (j : Int) := ⟨_, rfl⟩
  have hcs0 : e.cs = ecs f g e.t := by rw [hf, hg]; exact EthV.ecs ok
  rw [hcs0]
  refine calls_W (n := 111) (vs := [.agg (ecs f g e.t).toArray, .agg i.cs.toArray, .agg h.cs.toArray, .string body, .int .u32 seq, .int .u32 ack]) Try.func5 rfl rfl rfl ?_
  have fin : ∀ w' f, Mv (fun _ => False) w w' → fget f 12 = some (.bool true) → N 111 f w' (bodyPost Try.prog Try.f5 (Yes w)) .ret := fun w' f m hf =>
    post LO (rs := [.tmp 12]) rfl (vs := [.bool true]) (.tmp hf .nil) ⟨rfl, m⟩
  refine W.seq (W.list ?_)
  refine Ls.box rfl rfl rfl rfl rfl (vs := ecs f g e.t) rfl ?_
  have hp : BX (w.alloc (.cells (ecs f g e.t).toArray 33)) w.heap.size 33 (ecs f g e.t) := heap_alloc_new w (.cells (ecs f g e.t).toArray 33)
  have m1 : Mv (fun _ => False) w (w.alloc (.cells (ecs f g e.t).toArray 33)) := (Mv.refl _ w).alloc _
  generalize w.alloc (.cells (ecs f g e.t).toArray 33) = w1 at hp m1
  generalize w.heap.size = p at hp
  refine Ls.box rfl rfl rfl rfl rfl (vs := i.cs) rfl ?_
  have hq : BX (w1.alloc (.cells (i.cs).toArray 28)) w1.heap.size 28 (i.cs) := heap_alloc_new w1 (.cells (i.cs).toArray 28)
  have m2 : Mv (fun _ => False) w1 (w1.alloc (.cells (i.cs).toArray 28)) := (Mv.refl _ w1).alloc _
  generalize w1.alloc (.cells (i.cs).toArray 28) = w2 at hq m2
  generalize w1.heap.size = q at hq
  have hp := hp.moved m2 fun e => e
  have m2 := m1.trans m2
  refine Ls.box rfl rfl rfl rfl rfl (vs := h.cs) rfl ?_
  have hr : BX (w2.alloc (.cells (h.cs).toArray 26)) w2.heap.size 26 (h.cs) := heap_alloc_new w2 (.cells (h.cs).toArray 26)
  have m3 : Mv (fun _ => False) w2 (w2.alloc (.cells (h.cs).toArray 26)) := (Mv.refl _ w2).alloc _
  generalize w2.alloc (.cells (h.cs).toArray 26) = w3 at hr m3
  generalize w2.heap.size = r at hr
  have hp := hp.moved m3 fun e => e
  have hq := hq.moved m3 fun e => e
  have m3 := m2.trans m3
  apply Ls.runK LO [3, 4, 5, 6, 7, 8] 1
  · repeat' (first | rfl | with_reducible assumption | assumption | constructor)
  intro w4 f4 s4 hf4
  replace hf4 : f4 = [(3, _), (4, _), (5, _), (6, _), (7, _), (8, _)] := hf4
  subst hf4
  have m4 := m3.same s4
  have hp := hp.same s4
  have hq := hq.same s4
  have hr := hr.same s4
  refine Ls.nil (N.to ?_)
  refine W.cutS (fun w' g_ => (Mv (fun _ => False) w w' ∧ BX w' p 33 (ecs f g e.t) ∧ BX w' q 28 i.cs ∧ BX w' r 26 h.cs ∧ g_ = [(3, .string body), (4, .int .u32 seq), (5, .int .u32 ack), (6, .pointer (some ⟨p, 0, none⟩)), (7, .pointer (some ⟨q, 0, none⟩)), (8, .pointer (some ⟨r, 0, none⟩))]) ∧ fewB i h body = true) ?_ ?_
  · refine W.seq (W.list ?_)
    have c1 : CellsAt w4 q 0 10 i.cs := hq.cells
    have c2 : CellsAt w4 r 0 7 h.cs := hr.cells
    apply Ls.runK LO [3, 4, 5, 6, 7, 8, 17, 18, 19] 3
    · repeat' (first | rfl | with_reducible assumption | assumption | constructor)
    intro w5 f5 s5 hf5
    replace hf5 : f5 = [(3, _), (4, _), (5, _), (6, _), (7, _), (8, _), (17, _), (18, _), (19, _)] := hf5
    subst hf5
    refine Ls.call LO rfl rfl rfl rfl rfl (vs := [.agg i.cs.toArray, .agg h.cs.toArray, .string body]) rfl (few_walk i h body w5) ?_
    rintro _ w6 ⟨rfl, n6⟩
    refine ⟨_, rfl, ?_⟩
    apply Ls.runK LO [3, 4, 5, 6, 7, 8, 21] 1
    · repeat' (first | rfl | with_reducible assumption | assumption | constructor)
    intro w7 f7 s7 hf7
    replace hf7 : f7 = [(3, _), (4, _), (5, _), (6, _), (7, _), (8, _), (21, _)] := hf7
    subst hf7
    refine Ls.nil (N.to ?_)
    have m7 := ((m4.same s5).trans n6).same s7
    have hp := ((hp.same s5).moved n6 fun e => e).same s7
    have hq := ((hq.same s5).moved n6 fun e => e).same s7
    have hr := ((hr.same s5).moved n6 fun e => e).same s7
    cases hfew : fewB i h body with
    | true =>
      refine W.cond (b := false) rfl (fun h => by cases h) (fun _ => W.skip ?_)
      exact N.cut ⟨⟨m7, hp, hq, hr, rfl⟩, rfl⟩ (sub_keys rfl)
    | false =>
      refine W.cond (b := true) rfl (fun _ => ?_) (fun h => by cases h)
      refine W.seq (W.list ?_)
      refine Ls.call LO rfl rfl rfl rfl rfl (vs := []) rfl (awake_walk w7) ?_
      rintro _ w8 ⟨rfl, m8⟩
      refine ⟨_, rfl, ?_⟩
      apply Ls.runK LO [12] 1
      · repeat' (first | rfl | with_reducible assumption | assumption | constructor)
      intro w9 f9 s9 hf9
      replace hf9 : f9 = [(12, _)] := hf9
      subst hf9
      exact Ls.nil (N.to (W.ret (N.thenR (fin _ _ ((m7.trans m8).same s9) rfl))))
  clear m4 hp hq hr m1 m2 m3 s4
  rintro w4 _ ⟨⟨m4, hp, hq, hr, rfl⟩, hfew⟩
  obtain ⟨l1, l2, l3⟩ := few_yes hfew
  have iok : i.Ok := ⟨i1_, i2_, by omega⟩
  have hok : h.Ok := ⟨h1_, h2_, by omega⟩
  refine W.seq (W.list ?_)
  have c1 : CellsAt w4 p 0 13 (ecs f g e.t) := hp.cells
  have c2 : CellsAt w4 q 0 10 i.cs := hq.cells
  apply Ls.runK LO [3, 4, 5, 6, 7, 8, 24, 25] 2
  · repeat' (first | rfl | with_reducible assumption | assumption | constructor)
  intro a1 e1_ r1_ he1_
  replace he1_ : e1_ = [(3, _), (4, _), (5, _), (6, _), (7, _), (8, _), (24, _), (25, _)] := he1_
  subst he1_
  refine Ls.call LO rfl rfl rfl rfl rfl (vs := [.agg (ecs f g e.t).toArray, .agg i.cs.toArray]) rfl (cback_walk f g e.t i a1) ?_
  rintro _ a2 ⟨rfl, n1_⟩
  refine ⟨_, rfl, ?_⟩
  have hp := (hp.same r1_).moved n1_ fun e => e
  have hq := (hq.same r1_).moved n1_ fun e => e
  have hr := (hr.same r1_).moved n1_ fun e => e
  have m4 := (m4.same r1_).trans n1_
  clear c1 c2 r1_ n1_
  apply Ls.runK LO [3, 4, 5, 6, 7, 8, 27, 28] 3
  · repeat' (first | rfl | with_reducible assumption | assumption | constructor)
  intro a3 e3_ r3_ he3_
  replace he3_ : e3_ = [(3, _), (4, _), (5, _), (6, _), (7, _), (8, _), (27, _), (28, _)] := he3_
  subst he3_
  have hp := hp.same r3_
  have hq := hq.same r3_
  have hr := hr.same r3_
  have m4 := m4.same r3_
  refine Ls.alloc LO rfl rfl rfl rfl (zs := ecs e0 e0 0) rfl ?_
  have hx3 : BX (a3.alloc (.cells (ecs e0 e0 0).toArray 33)) a3.heap.size 33 (ecs e0 e0 0) := heap_alloc_new a3 (.cells (ecs e0 e0 0).toArray 33)
  have n4_ : Mv (fun _ => False) a3 (a3.alloc (.cells (ecs e0 e0 0).toArray 33)) := (Mv.refl _ a3).alloc _
  generalize a3.alloc (.cells (ecs e0 e0 0).toArray 33) = a4 at hx3 n4_
  have l0_ := hp.lt
  have l1_ := hq.lt
  have l2_ := hr.lt
  have lw_ := m4.size
  obtain ⟨b3, hb_⟩ : ∃ b3, b3 = a3.heap.size := ⟨_, rfl⟩
  rw [← hb_] at hx3
  rw [← hb_]
  have hp := hp.moved n4_ fun e => e
  have hq := hq.moved n4_ fun e => e
  have hr := hr.moved n4_ fun e => e
  have m4 := m4.trans n4_
  refine Ls.alloc LO rfl rfl rfl rfl (zs := ipN.cs) rfl ?_
  have hx4 : BX (a4.alloc (.cells ipN.cs.toArray 28)) a4.heap.size 28 ipN.cs := heap_alloc_new a4 (.cells ipN.cs.toArray 28)
  have n5_ : Mv (fun _ => False) a4 (a4.alloc (.cells ipN.cs.toArray 28)) := (Mv.refl _ a4).alloc _
  generalize a4.alloc (.cells ipN.cs.toArray 28) = a5 at hx4 n5_
  have lx_ := hx3.lt
  obtain ⟨b4, hc_⟩ : ∃ b4, b4 = a4.heap.size := ⟨_, rfl⟩
  rw [← hc_] at hx4
  rw [← hc_]
  have hp := hp.moved n5_ fun e => e
  have hq := hq.moved n5_ fun e => e
  have hr := hr.moved n5_ fun e => e
  have hx3 := hx3.moved n5_ fun e => e
  have m4 := m4.trans n5_
  refine Ls.store LO rfl rfl rfl rfl rfl (vs := ecs g f e.t) rfl rfl rfl hx3 rfl ?_
  intro a6 hx3 n6_ _
  have hx3 : BX a6 b3 33 (ecs g f e.t) := hx3
  have hp := hp.moved n6_ (by omega)
  have hq := hq.moved n6_ (by omega)
  have hr := hr.moved n6_ (by omega)
  have hx4 := hx4.moved n6_ (by omega)
  have m4 : Mv (fun _ => False) w a6 := m4.cut n6_ fun k hk e => by omega
  refine Ls.store LO rfl rfl rfl rfl rfl (vs := i.back.cs) rfl rfl rfl hx4 rfl ?_
  intro w4x hx4 n7_ _
  have hx4 : BX w4x b4 28 i.back.cs := hx4
  have hp := hp.moved n7_ (by omega)
  have hq := hq.moved n7_ (by omega)
  have hr := hr.moved n7_ (by omega)
  have hx3 := hx3.moved n7_ (by omega)
  have m4 : Mv (fun _ => False) w w4x := m4.cut n7_ fun k hk e => by omega
  refine Ls.nil (N.to ?_)
  clear n4_ n5_ n6_ n7_ hb_ hc_ lx_ lw_ r3_ l0_ l1_ l2_
  refine W.seq (W.list ?_)
  have c1 : CellsAt w4x p 0 13 (ecs f g e.t) := hp.cells
  have c2 : CellsAt w4x q 0 10 i.cs := hq.cells
  apply Ls.runK LO [3, 4, 5, 6, 7, 8, 13, 14, 30, 31] 2
  · repeat' (first | rfl | with_reducible assumption | assumption | constructor)
  intro a1 e1_ r1_ he1_
  replace he1_ : e1_ = [(3, _), (4, _), (5, _), (6, _), (7, _), (8, _), (13, _), (14, _), (30, _), (31, _)] := he1_
  subst he1_
  refine Ls.call LO rfl rfl rfl rfl rfl (vs := [.agg (ecs f g e.t).toArray, .agg i.cs.toArray]) rfl (rback_walk f g e.t i a1) ?_
  rintro _ a2 ⟨rfl, n1_⟩
  refine ⟨_, rfl, ?_⟩
  have hp := (hp.same r1_).moved n1_ fun e => e
  have hq := (hq.same r1_).moved n1_ fun e => e
  have hr := (hr.same r1_).moved n1_ fun e => e
  have hx3 := (hx3.same r1_).moved n1_ fun e => e
  have hx4 := (hx4.same r1_).moved n1_ fun e => e
  have m4 := (m4.same r1_).trans n1_
  clear c1 c2 r1_ n1_
  apply Ls.runK LO [3, 4, 5, 6, 7, 8, 13, 14, 33, 34] 3
  · repeat' (first | rfl | with_reducible assumption | assumption | constructor)
  intro a3 e3_ r3_ he3_
  replace he3_ : e3_ = [(3, _), (4, _), (5, _), (6, _), (7, _), (8, _), (13, _), (14, _), (33, _), (34, _)] := he3_
  subst he3_
  have hp := hp.same r3_
  have hq := hq.same r3_
  have hr := hr.same r3_
  have hx3 := hx3.same r3_
  have hx4 := hx4.same r3_
  have m4 := m4.same r3_
  refine Ls.alloc LO rfl rfl rfl rfl (zs := ecs e0 e0 0) rfl ?_
  have hx5 : BX (a3.alloc (.cells (ecs e0 e0 0).toArray 33)) a3.heap.size 33 (ecs e0 e0 0) := heap_alloc_new a3 (.cells (ecs e0 e0 0).toArray 33)
  have n4_ : Mv (fun _ => False) a3 (a3.alloc (.cells (ecs e0 e0 0).toArray 33)) := (Mv.refl _ a3).alloc _
  generalize a3.alloc (.cells (ecs e0 e0 0).toArray 33) = a4 at hx5 n4_
  have l0_ := hp.lt
  have l1_ := hq.lt
  have l2_ := hr.lt
  have l3_ := hx3.lt
  have l4_ := hx4.lt
  have lw_ := m4.size
  obtain ⟨b5, hb_⟩ : ∃ b5, b5 = a3.heap.size := ⟨_, rfl⟩
  rw [← hb_] at hx5
  rw [← hb_]
  have hp := hp.moved n4_ fun e => e
  have hq := hq.moved n4_ fun e => e
  have hr := hr.moved n4_ fun e => e
  have hx3 := hx3.moved n4_ fun e => e
  have hx4 := hx4.moved n4_ fun e => e
  have m4 := m4.trans n4_
  refine Ls.alloc LO rfl rfl rfl rfl (zs := ipN.cs) rfl ?_
  have hx6 : BX (a4.alloc (.cells ipN.cs.toArray 28)) a4.heap.size 28 ipN.cs := heap_alloc_new a4 (.cells ipN.cs.toArray 28)
  have n5_ : Mv (fun _ => False) a4 (a4.alloc (.cells ipN.cs.toArray 28)) := (Mv.refl _ a4).alloc _
  generalize a4.alloc (.cells ipN.cs.toArray 28) = a5 at hx6 n5_
  have lx_ := hx5.lt
  obtain ⟨b6, hc_⟩ : ∃ b6, b6 = a4.heap.size := ⟨_, rfl⟩
  rw [← hc_] at hx6
  rw [← hc_]
  have hp := hp.moved n5_ fun e => e
  have hq := hq.moved n5_ fun e => e
  have hr := hr.moved n5_ fun e => e
  have hx3 := hx3.moved n5_ fun e => e
  have hx4 := hx4.moved n5_ fun e => e
  have hx5 := hx5.moved n5_ fun e => e
  have m4 := m4.trans n5_
  refine Ls.store LO rfl rfl rfl rfl rfl (vs := ecs g f e.t) rfl rfl rfl hx5 rfl ?_
  intro a6 hx5 n6_ _
  have hx5 : BX a6 b5 33 (ecs g f e.t) := hx5
  have hp := hp.moved n6_ (by omega)
  have hq := hq.moved n6_ (by omega)
  have hr := hr.moved n6_ (by omega)
  have hx3 := hx3.moved n6_ (by omega)
  have hx4 := hx4.moved n6_ (by omega)
  have hx6 := hx6.moved n6_ (by omega)
  have m4 : Mv (fun _ => False) w a6 := m4.cut n6_ fun k hk e => by omega
  refine Ls.store LO rfl rfl rfl rfl rfl (vs := i.back.cs) rfl rfl rfl hx6 rfl ?_
  intro w4xx hx6 n7_ _
  have hx6 : BX w4xx b6 28 i.back.cs := hx6
  have hp := hp.moved n7_ (by omega)
  have hq := hq.moved n7_ (by omega)
  have hr := hr.moved n7_ (by omega)
  have hx3 := hx3.moved n7_ (by omega)
  have hx4 := hx4.moved n7_ (by omega)
  have hx5 := hx5.moved n7_ (by omega)
  have m4 : Mv (fun _ => False) w w4xx := m4.cut n7_ fun k hk e => by omega
  refine Ls.nil (N.to ?_)
  clear n4_ n5_ n6_ n7_ hb_ hc_ lx_ lw_ r3_ l0_ l1_ l2_ l3_ l4_
  obtain ⟨v, hv⟩ : ∃ v, v = w4xx := ⟨_, rfl⟩
  rw [← hv] at m4 hp hq hr hx3 hx4 hx5 hx6
  rw [← hv]
  have P : ∀ w', Mv (fun _ => False) v w' → CellsAt w' p 0 13 (ecs f g e.t) := fun w' m => (hp.moved m fun e => e).cells
  have Q : ∀ w', Mv (fun _ => False) v w' → CellsAt w' q 0 10 i.cs := fun w' m => (hq.moved m fun e => e).cells
  have R : ∀ w', Mv (fun _ => False) v w' → CellsAt w' r 0 7 h.cs := fun w' m => (hr.moved m fun e => e).cells
  have G3 : ∀ w', Mv (fun _ => False) v w' → CellsAt w' b3 0 13 (ecs g f e.t) := fun w' m => (hx3.moved m fun e => e).cells
  have G4 : ∀ w', Mv (fun _ => False) v w' → CellsAt w' b4 0 10 i.back.cs := fun w' m => (hx4.moved m fun e => e).cells
  have G5 : ∀ w', Mv (fun _ => False) v w' → CellsAt w' b5 0 13 (ecs g f e.t) := fun w' m => (hx5.moved m fun e => e).cells
  have G6 : ∀ w', Mv (fun _ => False) v w' → CellsAt w' b6 0 10 i.back.cs := fun w' m => (hx6.moved m fun e => e).cells
  clear hx3 hx4 hx5 hx6
  have bz : body.size ≤ 1000000000000000 := by omega
  obtain ⟨D, hD⟩ : ∃ D, D = datS e i body := ⟨_, rfl⟩
  obtain ⟨S, hS⟩ : ∃ S, S = segS e i h body := ⟨_, rfl⟩
  obtain ⟨T, hT⟩ : ∃ T, T = resetS e i h seq ack true := ⟨_, rfl⟩
  obtain ⟨F, hF⟩ : ∃ F, F = resetS e i h seq ack false := ⟨_, rfl⟩
  obtain ⟨U, hU⟩ : ∃ U, U = unrS e i body := ⟨_, rfl⟩
  have kD : Kn (D.toList == D.toList) true := .of (by simp)
  have kS : Kn (S.toList == S.toList) true := .of (by simp)
  have kT : Kn (T.toList == T.toList) true := .of (by simp)
  have kF : Kn (F.toList == F.toList) true := .of (by simp)
  have kU : Kn (U.toList == U.toList) true := .of (by simp)
  have cD := fun x : World => dat_walk e i body x ok iok bz hcs0.symm
  have rD := fun x : World => rdat_walk e i body x ok iok bz hcs0.symm
  have cS := fun x : World => seg_walk e i h body x ok iok hok bz hcs0.symm
  have rS := fun x : World => rseg_walk e i h body x ok iok hok bz hcs0.symm
  have cT := fun x : World => reset_walk e i h seq ack true x ok iok hs ha
  have rT := fun x : World => rreset_walk e i h seq ack true x ok iok hs ha
  have cF := fun x : World => reset_walk e i h seq ack false x ok iok hs ha
  have rF := fun x : World => rreset_walk e i h seq ack false x ok iok hs ha
  have cU := fun x : World => unr_walk e i body x ok iok bz
  have rU := fun x : World => runr_walk e i body x ok iok bz
  rw [← hD] at cD rD
  rw [← hS] at cS rS
  rw [← hT, hcs0] at cT rT
  rw [← hF, hcs0] at cF rF
  rw [← hU, hcs0] at cU rU
  refine W.cutS (fun w' g_ => Mv (fun _ => False) v w' ∧ g_ = [(3, .string body), (4, .int .u32 seq), (5, .int .u32 ack), (6, .pointer (some ⟨p, 0, none⟩)), (7, .pointer (some ⟨q, 0, none⟩)), (8, .pointer (some ⟨r, 0, none⟩))]) ?_ ?_
  · refine W.seq (W.held mixed (fun w' => Mv (fun _ => False) v w') [] 34 rfl (fun w' s => (Mv.refl _ v).same s) ?_)
    intro x0 s0
    have m0 : Mv (fun _ => False) v x0 := (Mv.refl _ v).same s0
    apply H.takesK LO true [3, 4, 5, 6, 7, 8, 14, 16, 35, 36] [0, 1] (k := 32) rfl (by kernel_rfl)
    · repeat' (first | rfl | with_reducible assumption | assumption | (intro w' hw'; replace hw' := hw' rfl; have h0' := G3 w' hw'; have h1' := G5 w' hw') | constructor)
    intro g_ hg_
    replace hg_ : g_ = [(3, _), (4, _), (5, _), (6, _), (7, _), (8, _), (14, _), (16, _), (35, _), (36, _)] := hg_
    subst hg_
    refine H.only (i := 2) rfl (by kernel_rfl) ?_
    refine Ls.call LO rfl rfl rfl rfl rfl (vs := [.agg (ecs g f e.t).toArray, .agg (ecs g f e.t).toArray]) rfl (same2_walk g f e.t x0) ?_
    rintro _ x1 ⟨rfl, n1⟩
    have n1 := m0.trans n1
    refine ⟨_, rfl, Ls.nil (N.goOn (fun _ => n1) ?_)⟩
    apply H.takesK LO true [3, 4, 5, 6, 7, 8, 39, 40, 41] [3, 4, 5, 6] (k := 27) rfl (by kernel_rfl)
    · repeat' (first | rfl | with_reducible assumption | assumption | (intro w' hw'; replace hw' := hw' rfl; have h0' := G4 w' hw'; have h1' := G6 w' hw') | constructor)
    intro g_ hg_
    replace hg_ : g_ = [(3, _), (4, _), (5, _), (6, _), (7, _), (8, _), (39, _), (40, _), (41, _)] := hg_
    subst hg_
    refine H.only (i := 7) rfl (by kernel_rfl) ?_
    refine Ls.call LO rfl rfl rfl rfl rfl (vs := [.agg i.back.cs.toArray, .agg i.back.cs.toArray]) rfl (same3_walk i.back x1) ?_
    rintro _ x2 ⟨rfl, n2⟩
    have n2 := n1.trans n2
    refine ⟨_, rfl, Ls.nil (N.goOn (fun _ => n2) ?_)⟩
    apply H.takesK LO true [3, 4, 5, 6, 7, 8, 45, 46, 47, 48, 50, 51, 52] [8, 9, 10, 11, 12, 13, 15, 16, 17] (k := 17) rfl (by kernel_rfl)
    · repeat' (first | rfl | with_reducible assumption | assumption | (intro w' hw'; replace hw' := hw' rfl; have h0' := P w' hw'; have h1' := Q w' hw') | constructor)
    intro g_ hg_
    replace hg_ : g_ = [(3, _), (4, _), (5, _), (6, _), (7, _), (8, _), (45, _), (46, _), (47, _), (48, _), (50, _), (51, _), (52, _)] := hg_
    subst hg_
    refine H.only (i := 14) rfl (by kernel_rfl) ?_
    refine Ls.call LO rfl rfl rfl rfl rfl (vs := [.agg (ecs f g e.t).toArray, .agg i.cs.toArray, .string body]) rfl (cD x2) ?_
    rintro _ x3 ⟨rfl, n3⟩
    have n3 := n2.trans n3
    refine ⟨_, rfl, Ls.nil (N.goOn (fun _ => n3) ?_)⟩
    refine H.only (i := 18) rfl (by kernel_rfl) ?_
    refine Ls.call LO rfl rfl rfl rfl rfl (vs := [.agg (ecs f g e.t).toArray, .agg i.cs.toArray, .string body]) rfl (rD x3) ?_
    rintro _ x4 ⟨rfl, n4'⟩
    have n4' := n3.trans n4'
    refine ⟨_, rfl, Ls.nil (N.goOn (fun _ => n4') ?_)⟩
    apply H.takesK LO true [3, 4, 5, 6, 7, 8, 56, 57, 58, 59, 60, 62, 63, 64, 65] [19, 20, 21, 22, 23, 24, 25, 27, 28, 29, 30] (k := 4) rfl (by kernel_rfl)
    · repeat' (first | rfl | with_reducible assumption | assumption | (intro w' hw'; replace hw' := hw' rfl; have h0' := P w' hw'; have h1' := Q w' hw'; have h2' := R w' hw') | constructor)
    intro g_ hg_
    replace hg_ : g_ = [(3, _), (4, _), (5, _), (6, _), (7, _), (8, _), (56, _), (57, _), (58, _), (59, _), (60, _), (62, _), (63, _), (64, _), (65, _)] := hg_
    subst hg_
    refine H.only (i := 26) rfl (by kernel_rfl) ?_
    refine Ls.call LO rfl rfl rfl rfl rfl (vs := [.agg (ecs f g e.t).toArray, .agg i.cs.toArray, .agg h.cs.toArray, .string body]) rfl (cS x4) ?_
    rintro _ x5 ⟨rfl, n5⟩
    have n5 := n4'.trans n5
    refine ⟨_, rfl, Ls.nil (N.goOn (fun _ => n5) ?_)⟩
    refine H.only (i := 31) rfl (by kernel_rfl) ?_
    refine Ls.call LO rfl rfl rfl rfl rfl (vs := [.agg (ecs f g e.t).toArray, .agg i.cs.toArray, .agg h.cs.toArray, .string body]) rfl (rS x5) ?_
    rintro _ x6 ⟨rfl, n6⟩
    have n6 := n5.trans n6
    refine ⟨_, rfl, Ls.nil (N.goOn (fun _ => n6) ?_)⟩
    apply H.takesK LO true [3, 4, 5, 6, 7, 8, 68] [32, 33] (k := 0) rfl (by kernel_rfl)
    · repeat' (first | rfl | with_reducible assumption | assumption | (intro w' hw'; replace hw' := hw' rfl) | constructor)
    intro g_ hg_
    replace hg_ : g_ = [(3, _), (4, _), (5, _), (6, _), (7, _), (8, _), (68, _)] := hg_
    subst hg_
    refine H.done (by kernel_rfl) (N.to ?_)
    refine W.cond (b := false) rfl (fun h => by cases h) (fun _ => W.skip ?_)
    exact N.cut ⟨n6, rfl⟩ (sub_keys rfl)
  rintro y _ ⟨my, rfl⟩
  have P : ∀ w', Mv (fun _ => False) y w' → CellsAt w' p 0 13 (ecs f g e.t) := fun w' m => P w' (my.trans m)
  have Q : ∀ w', Mv (fun _ => False) y w' → CellsAt w' q 0 10 i.cs := fun w' m => Q w' (my.trans m)
  have R : ∀ w', Mv (fun _ => False) y w' → CellsAt w' r 0 7 h.cs := fun w' m => R w' (my.trans m)
  refine W.seq (W.held mixed (fun w' => Mv (fun _ => False) y w') [] 43 rfl (fun w' s => (Mv.refl _ y).same s) ?_)
  intro x0 s0
  have m0 : Mv (fun _ => False) y x0 := (Mv.refl _ y).same s0
  apply H.takesK LO true [3, 4, 5, 6, 7, 8, 69, 70, 71, 72, 73, 75, 76, 77, 78, 79] [0, 1, 2, 3, 4, 6, 7, 8, 9, 10] (k := 33) rfl (by kernel_rfl)
  · repeat' (first | rfl | with_reducible assumption | assumption | (intro w' hw'; replace hw' := hw' rfl; have h0' := P w' hw'; have h1' := Q w' hw'; have h2' := R w' hw') | constructor)
  intro g_ hg_
  replace hg_ : g_ = [(3, _), (4, _), (5, _), (6, _), (7, _), (8, _), (69, _), (70, _), (71, _), (72, _), (73, _), (75, _), (76, _), (77, _), (78, _), (79, _)] := hg_
  subst hg_
  refine H.only (i := 5) rfl (by kernel_rfl) ?_
  refine Ls.call LO rfl rfl rfl rfl rfl (vs := [.agg (ecs f g e.t).toArray, .agg i.cs.toArray, .agg h.cs.toArray, .int .u32 seq, .int .u32 ack, .bool true]) rfl (cT x0) ?_
  rintro _ x1 ⟨rfl, n1⟩
  have n1 := m0.trans n1
  refine ⟨_, rfl, Ls.nil (N.goOn (fun _ => n1) ?_)⟩
  refine H.only (i := 11) rfl (by kernel_rfl) ?_
  refine Ls.call LO rfl rfl rfl rfl rfl (vs := [.agg (ecs f g e.t).toArray, .agg i.cs.toArray, .agg h.cs.toArray, .int .u32 seq, .int .u32 ack, .bool true]) rfl (rT x1) ?_
  rintro _ x2 ⟨rfl, n2⟩
  have n2 := n1.trans n2
  refine ⟨_, rfl, Ls.nil (N.goOn (fun _ => n2) ?_)⟩
  apply H.takesK LO true [3, 6, 7, 8, 82, 83, 84, 85, 86, 87, 89, 90, 91, 92, 93] [12, 13, 14, 15, 16, 17, 18, 20, 21, 22, 23, 24] (k := 19) rfl (by kernel_rfl)
  · repeat' (first | rfl | with_reducible assumption | assumption | (intro w' hw'; replace hw' := hw' rfl; have h0' := P w' hw'; have h1' := Q w' hw'; have h2' := R w' hw') | constructor)
  intro g_ hg_
  replace hg_ : g_ = [(3, _), (6, _), (7, _), (8, _), (82, _), (83, _), (84, _), (85, _), (86, _), (87, _), (89, _), (90, _), (91, _), (92, _), (93, _)] := hg_
  subst hg_
  refine H.only (i := 19) rfl (by kernel_rfl) ?_
  refine Ls.call LO rfl rfl rfl rfl rfl (vs := [.agg (ecs f g e.t).toArray, .agg i.cs.toArray, .agg h.cs.toArray, .int .u32 seq, .int .u32 ack, .bool false]) rfl (cF x2) ?_
  rintro _ x3 ⟨rfl, n3⟩
  have n3 := n2.trans n3
  refine ⟨_, rfl, Ls.nil (N.goOn (fun _ => n3) ?_)⟩
  refine H.only (i := 25) rfl (by kernel_rfl) ?_
  refine Ls.call LO rfl rfl rfl rfl rfl (vs := [.agg (ecs f g e.t).toArray, .agg i.cs.toArray, .agg h.cs.toArray, .int .u32 seq, .int .u32 ack, .bool false]) rfl (rF x3) ?_
  rintro _ x4 ⟨rfl, n4'⟩
  have n4' := n3.trans n4'
  refine ⟨_, rfl, Ls.nil (N.goOn (fun _ => n4') ?_)⟩
  apply H.takesK LO true [97, 98, 99, 100, 102, 103, 104] [26, 27, 28, 29, 30, 31, 33, 34, 35] (k := 8) rfl (by kernel_rfl)
  · repeat' (first | rfl | with_reducible assumption | assumption | (intro w' hw'; replace hw' := hw' rfl; have h0' := P w' hw'; have h1' := Q w' hw') | constructor)
  intro g_ hg_
  replace hg_ : g_ = [(97, _), (98, _), (99, _), (100, _), (102, _), (103, _), (104, _)] := hg_
  subst hg_
  refine H.only (i := 32) rfl (by kernel_rfl) ?_
  refine Ls.call LO rfl rfl rfl rfl rfl (vs := [.agg (ecs f g e.t).toArray, .agg i.cs.toArray, .string body]) rfl (cU x4) ?_
  rintro _ x5 ⟨rfl, n5⟩
  have n5 := n4'.trans n5
  refine ⟨_, rfl, Ls.nil (N.goOn (fun _ => n5) ?_)⟩
  refine H.only (i := 36) rfl (by kernel_rfl) ?_
  refine Ls.call LO rfl rfl rfl rfl rfl (vs := [.agg (ecs f g e.t).toArray, .agg i.cs.toArray, .string body]) rfl (rU x5) ?_
  rintro _ x6 ⟨rfl, n6⟩
  have n6 := n5.trans n6
  refine ⟨_, rfl, Ls.nil (N.goOn (fun _ => n6) ?_)⟩
  apply H.takesK LO true [108] [37, 38, 39] (k := 3) rfl (by kernel_rfl)
  · repeat' (first | rfl | with_reducible assumption | assumption | (intro w' hw'; replace hw' := hw' rfl) | constructor)
  intro g_ hg_
  replace hg_ : g_ = [(108, _)] := hg_
  subst hg_
  refine H.only (i := 40) rfl (by kernel_rfl) ?_
  refine Ls.call LO rfl rfl rfl rfl rfl (vs := []) rfl (awake_walk x6) ?_
  rintro _ x7 ⟨rfl, n7⟩
  have n7 := n6.trans n7
  refine ⟨_, rfl, Ls.nil (N.goOn (fun _ => n7) ?_)⟩
  apply H.takesK LO true [12] [41, 42] (k := 0) rfl (by kernel_rfl)
  · repeat' (first | rfl | with_reducible assumption | assumption | (intro w' hw'; replace hw' := hw' rfl) | constructor)
  intro g_ hg_
  replace hg_ : g_ = [(12, _)] := hg_
  subst hg_
  refine H.done (by kernel_rfl) (N.to ?_)
  exact W.ret (fin _ _ ((m4.trans my).trans n7) rfl)
theorem u32_of {x : Int} (h : (Lit.int .u32 x).wf = true) : 0 ≤ x ∧ x ≤ 4294967295 := by have := bounds_u32 h; omega
theorem all_law (e : EthV) (i : IpV) (h : SegV) (body : ByteArray) (seq ack : Int) (w : World) (h0 : e.Ok) (h1 : (0 ≤ i.src ∧ i.src ≤ 4294967295) ∧ (0 ≤ i.dst ∧ i.dst ≤ 4294967295) ∧ i.o.size ≤ maxLen) (h2 : (0 ≤ h.seq ∧ h.seq ≤ 4294967295) ∧ (0 ≤ h.ack ∧ h.ack ≤ 4294967295) ∧ h.o.size ≤ maxLen) (_ : body.size ≤ 140737488351232) (hs : (Lit.int .u32 seq).wf = true) (ha : (Lit.int .u32 ack).wf = true) :
    Calls Try.prog 5 #[.agg e.cs.toArray, .agg i.cs.toArray, .agg h.cs.toArray, .string body, .int .u32 seq, .int .u32 ack] w (Yes w) :=
  crall_walk e i h body seq ack w h0 h1.1 h1.2.1 h2.1 h2.2.1 (u32_of hs) (u32_of ha)
end Go.Proofs.Ytbidgeaigiijpaa
