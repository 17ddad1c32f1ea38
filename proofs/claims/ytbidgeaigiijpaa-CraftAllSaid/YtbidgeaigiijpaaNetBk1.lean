/- What is proved: not too much (few); heads that go back; a datagram's head is the same as itself. Conditions: those that stand in each theorem. -/
import Derived.Test.YtbidgeaigiijpaaNetCr4
namespace Go.Proofs.Ytbidgeaigiijpaa
set_option linter.unusedVariables false
set_option linter.unusedSimpArgs false
set_option linter.unusedSectionVars false
open Go.RowKit Fw Nt
def fewB (i : IpV) (h : SegV) (body : ByteArray) : Bool := decide (i.o.size ≤ 100 ∧ h.o.size ≤ 100 ∧ body.size ≤ 2200)
set_option maxRecDepth 100000 in
set_option maxHeartbeats 4000000 in
theorem few_walk (i : IpV) (h : SegV) (body : ByteArray) (w : World) : Calls Try.prog 15 #[.agg i.cs.toArray, .agg h.cs.toArray, .string body] w fun e w' => e = .returned (.bool (fewB i h body)) ∧ Mv (fun _ => False) w w' := by
  refine calls_W (n := 22) (vs := [.agg i.cs.toArray, .agg h.cs.toArray, .string body]) Try.func15 rfl rfl rfl ?_
  refine W.seq (W.list ?_)
  refine Ls.box rfl rfl rfl rfl rfl (vs := i.cs) rfl ?_
  have hb1 : BX (w.alloc (.cells i.cs.toArray 28)) w.heap.size 28 i.cs := heap_alloc_new w (.cells i.cs.toArray 28)
  have m1 : Mv (fun _ => False) w (w.alloc (.cells i.cs.toArray 28)) := (Mv.refl _ w).alloc _
  generalize w.alloc (.cells i.cs.toArray 28) = w1 at hb1 m1
  generalize w.heap.size = p at hb1
  refine Ls.box rfl rfl rfl rfl rfl (vs := h.cs) rfl ?_
  have hq2 : BX (w1.alloc (.cells h.cs.toArray 26)) w1.heap.size 26 h.cs := heap_alloc_new w1 (.cells h.cs.toArray 26)
  have m2 : Mv (fun _ => False) w1 (w1.alloc (.cells h.cs.toArray 26)) := (Mv.refl _ w1).alloc _
  generalize w1.alloc (.cells h.cs.toArray 26) = w2 at hq2 m2
  generalize w1.heap.size = q at hq2
  have hb2 := hb1.moved m2 fun e => e
  have m2 := m1.trans m2
  apply Ls.runK LO [2, 3, 4] 1
  · repeat' (first | rfl | with_reducible assumption | assumption | constructor)
  intro w3 f3 s3 hf3
  replace hf3 : f3 = [(2, _), (3, _), (4, _)] := hf3
  subst hf3
  refine Ls.nil (N.to ?_)
  have m3 := m2.same s3
  have d1 : Cl w3 ⟨p, 0 + 9, none⟩ (.string i.o) := (hb2.same s3).cl rfl
  have d2 : Cl w3 ⟨q, 0 + 6, none⟩ (.string h.o) := (hq2.same s3).cl rfl
  have fin : ∀ (b : Bool) w' f, b = fewB i h body → Mv (fun _ => False) w w' → fget f 6 = some (.bool b) → N 22 f w' (bodyPost Try.prog Try.f15 fun e w' => e = .returned (.bool (fewB i h body)) ∧ Mv (fun _ => False) w w') .ret := fun b w' f e m hf => by
    rw [← e]
    exact post LO (rs := [.tmp 6]) rfl (vs := [.bool b]) (.tmp hf .nil) ⟨rfl, m⟩
  by_cases h1 : i.o.size ≤ 100
  · have k1 : Kn (decide ((i.o.size : Int) ≤ 100)) true := .yes (by omega)
    by_cases h2 : h.o.size ≤ 100
    · have k2 : Kn (decide ((h.o.size : Int) ≤ 100)) true := .yes (by omega)
      have k3 : Kn (decide ((body.size : Int) ≤ 2200)) (fewB i h body) := .of (by unfold fewB; exact decide_eq_decide.2 (by omega))
      apply W.readS LO mixed [6] (by kernel_rfl)
      · repeat' (first | rfl | with_reducible assumption | assumption | constructor)
      intro w4 f4 s4 hf4
      replace hf4 : f4 = [(6, _)] := hf4
      subst hf4
      exact W.ret (fin _ _ _ rfl (m3.same s4) rfl)
    · have k2 : Kn (decide ((h.o.size : Int) ≤ 100)) false := .no (by omega)
      apply W.readS LO mixed [6] (by kernel_rfl)
      · repeat' (first | rfl | with_reducible assumption | assumption | constructor)
      intro w4 f4 s4 hf4
      replace hf4 : f4 = [(6, _)] := hf4
      subst hf4
      exact W.ret (fin false _ _ (by unfold fewB; exact (decide_eq_false (by omega)).symm) (m3.same s4) rfl)
  · have k1 : Kn (decide ((i.o.size : Int) ≤ 100)) false := .no (by omega)
    apply W.readS LO mixed [6] (by kernel_rfl)
    · repeat' (first | rfl | with_reducible assumption | assumption | constructor)
    intro w4 f4 s4 hf4
    replace hf4 : f4 = [(6, _)] := hf4
    subst hf4
    exact W.ret (fin false _ _ (by unfold fewB; exact (decide_eq_false (by omega)).symm) (m3.same s4) rfl)
set_option maxRecDepth 100000 in
set_option maxHeartbeats 4000000 in
theorem cback_walk (f g : Nat → Int) (t : Int) (i : IpV) (w : World) : Calls Try.prog 17 #[.agg (ecs f g t).toArray, .agg i.cs.toArray] w fun e w' => e = .returned (.tuple #[.agg (ecs g f t).toArray, .agg i.back.cs.toArray]) ∧ Mv (fun _ => False) w w' := by
  refine calls_W (n := 15) (vs := [.agg (ecs f g t).toArray, .agg i.cs.toArray]) Try.func17 rfl rfl rfl ?_
  refine W.seq (W.list ?_)
  refine Ls.box rfl rfl rfl rfl rfl (vs := ecs f g t) rfl ?_
  have hb1 : BX (w.alloc (.cells (ecs f g t).toArray 33)) w.heap.size 33 (ecs f g t) := heap_alloc_new w (.cells (ecs f g t).toArray 33)
  have m1 : Mv (fun _ => False) w (w.alloc (.cells (ecs f g t).toArray 33)) := (Mv.refl _ w).alloc _
  generalize w.alloc (.cells (ecs f g t).toArray 33) = w1 at hb1 m1
  generalize w.heap.size = p at hb1
  refine Ls.box rfl rfl rfl rfl rfl (vs := i.cs) rfl ?_
  have hq2 : BX (w1.alloc (.cells i.cs.toArray 28)) w1.heap.size 28 i.cs := heap_alloc_new w1 (.cells i.cs.toArray 28)
  have m2 : Mv (fun _ => False) w1 (w1.alloc (.cells i.cs.toArray 28)) := (Mv.refl _ w1).alloc _
  generalize w1.alloc (.cells i.cs.toArray 28) = w2 at hq2 m2
  generalize w1.heap.size = q at hq2
  have hb2 := hb1.moved m2 fun e => e
  have m2 := m1.trans m2
  refine Ls.alloc LO rfl rfl rfl rfl (zs := ecs e0 e0 0) rfl ?_
  have hr3 : BX (w2.alloc (.cells (ecs e0 e0 0).toArray 33)) w2.heap.size 33 (ecs e0 e0 0) := heap_alloc_new w2 (.cells (ecs e0 e0 0).toArray 33)
  have m3 : Mv (fun _ => False) w2 (w2.alloc (.cells (ecs e0 e0 0).toArray 33)) := (Mv.refl _ w2).alloc _
  generalize w2.alloc (.cells (ecs e0 e0 0).toArray 33) = w3 at hr3 m3
  have hz2 := m2.size
  obtain ⟨r, hr⟩ : ∃ r, r = w2.heap.size := ⟨_, rfl⟩
  rw [← hr] at hr3 hz2
  rw [← hr]
  have hb3 := hb2.moved m3 fun e => e
  have hq3 := hq2.moved m3 fun e => e
  have m3 := m2.trans m3
  refine Ls.alloc LO rfl rfl rfl rfl (zs := ipN.cs) rfl ?_
  have hx4 : BX (w3.alloc (.cells ipN.cs.toArray 28)) w3.heap.size 28 ipN.cs := heap_alloc_new w3 (.cells ipN.cs.toArray 28)
  have m4 : Mv (fun _ => False) w3 (w3.alloc (.cells ipN.cs.toArray 28)) := (Mv.refl _ w3).alloc _
  generalize w3.alloc (.cells ipN.cs.toArray 28) = w4 at hx4 m4
  have hrl := hr3.lt
  obtain ⟨x, hx⟩ : ∃ x, x = w3.heap.size := ⟨_, rfl⟩
  rw [← hx] at hx4 hrl
  rw [← hx]
  have hb4 := hb3.moved m4 fun e => e
  have hq4 := hq3.moved m4 fun e => e
  have hr4 := hr3.moved m4 fun e => e
  have m4 := m3.trans m4
  refine Ls.nil (N.to ?_)
  clear m1 m2 m3 hb1 hb2 hb3 hq2 hq3 hr3 hr hx
  refine W.seq (W.list ?_)
  have c1 : CellsAt w4 p 0 13 (ecs f g t) := hb4.cells
  have c2 : CellsAt w4 q 0 10 i.cs := hq4.cells
  apply Ls.runK LO [4, 5, 9] 3
  · repeat' (first | rfl | with_reducible assumption | assumption | constructor)
  intro w5 f5 s5 hf5
  replace hf5 : f5 = [(4, _), (5, _), (9, _)] := hf5
  subst hf5
  refine Ls.call LO rfl rfl rfl rfl rfl (vs := [.agg (two f g t i).toArray]) rfl (back_walk f g t i w5) ?_
  rintro _ w6 ⟨rfl, m6⟩
  refine ⟨_, rfl, ?_⟩
  have hr6 := (hr4.same s5).moved m6 fun e => e
  have hx6 := (hx4.same s5).moved m6 fun e => e
  have m6 := (m4.same s5).trans m6
  refine Ls.alloc LO rfl rfl rfl rfl (zs := two e0 e0 0 ipN) rfl ?_
  have hy7 : BX (w6.alloc (.cells (two e0 e0 0 ipN).toArray 65)) w6.heap.size 65 (two e0 e0 0 ipN) := heap_alloc_new w6 (.cells (two e0 e0 0 ipN).toArray 65)
  have m7 : Mv (fun _ => False) w6 (w6.alloc (.cells (two e0 e0 0 ipN).toArray 65)) := (Mv.refl _ w6).alloc _
  generalize w6.alloc (.cells (two e0 e0 0 ipN).toArray 65) = w7 at hy7 m7
  have hxl := hx6.lt
  obtain ⟨y, hy⟩ : ∃ y, y = w6.heap.size := ⟨_, rfl⟩
  rw [← hy] at hy7 hxl
  rw [← hy]
  refine Ls.store LO rfl rfl rfl rfl rfl (vs := two g f t i.back) rfl rfl rfl hy7 rfl ?_
  intro w8 hy8 m8 _
  have hy8 : BX w8 y 65 (two g f t i.back) := hy8
  have hr8 := (hr6.moved m7 fun e => e).moved m8 (by omega)
  have hx8 := (hx6.moved m7 fun e => e).moved m8 (by omega)
  have m8 : Mv (fun _ => False) w w8 := (m6.trans m7).cut m8 fun k hk e => by omega
  refine Ls.nil (N.to ?_)
  clear c1 c2 m4 hb4 hq4 hr4 hx4 s5 hr6 hx6 m6 hy7 m7 hy
  have hyr : ¬ y = r := by omega
  have F1 : ∀ w', Mv (· = r) w8 w' → CellsAt w' y 0 13 (ecs g f t) := fun w' m => (hy8.moved m hyr).part (x := []) (y := ecs g f t) (z := i.back.cs) rfl rfl rfl
  have F2 : ∀ w', Mv (· = r) w8 w' → CellsAt w' y 13 10 i.back.cs := fun w' m => (hy8.moved m hyr).part (x := ecs g f t) (y := i.back.cs) (z := []) rfl rfl rfl
  refine W.seq (W.held mixed (fun w' => Mv (· = r) w8 w') [5] 6 rfl (fun w' s => (Mv.refl _ w8).same s) ?_)
  intro x0 s0
  apply H.takesK LO true [4, 5, 12, 14] [0, 1, 2, 3] (k := 2) rfl (by kernel_rfl)
  · repeat' (first | rfl | with_reducible assumption | assumption | (intro w' hw'; replace hw' := hw' rfl; have h0' := F1 w' hw'; have h1' := F2 w' hw') | constructor)
  intro g_ hg_
  replace hg_ : g_ = [(4, _), (5, _), (12, _), (14, _)] := hg_
  subst hg_
  refine H.only (i := 4) rfl (by kernel_rfl) ?_
  refine Ls.store LO rfl rfl rfl rfl rfl (vs := ecs g f t) rfl rfl rfl (hr8.same s0) rfl ?_
  intro x1 hr9 n1 _
  have hr9 : BX x1 r 33 (ecs g f t) := hr9
  have hx9 := (hx8.same s0).moved n1 (by omega)
  refine Ls.nil (N.goOn (fun _ => ((Mv.refl _ w8).same s0).trans n1) ?_)
  have n1 : Mv (fun _ => False) w x1 := (m8.same s0).cut n1 fun k hk e => by omega
  refine H.only (i := 5) rfl (by kernel_rfl) ?_
  refine Ls.store LO rfl rfl rfl rfl rfl (vs := i.back.cs) rfl rfl rfl hx9 rfl ?_
  intro x2 hx10 n2 _
  have hx10 : BX x2 x 28 i.back.cs := hx10
  have hr10 := hr9.moved n2 (by omega)
  have n2 : Mv (fun _ => False) w x2 := n1.cut n2 fun k hk e => by omega
  refine Ls.nil (N.goOn (fun hint => absurd (show true = false from hint 5 List.mem_cons_self) (by decide)) ?_)
  refine H.done (by kernel_rfl) (N.to (W.ret ?_))
  have l1 : CellsAt x2 r 0 13 (ecs g f t) := hr10.cells
  have l2 : CellsAt x2 x 0 10 i.back.cs := hx10.cells
  exact post LO (rs := [.cell 4 33, .cell 5 28]) rfl (vs := [.agg (ecs g f t).toArray, .agg i.back.cs.toArray]) (.cell rfl rfl (.agg l1) (.cell rfl rfl (.agg l2) .nil)) ⟨rfl, n2⟩
set_option maxRecDepth 100000 in
set_option maxHeartbeats 4000000 in
theorem same3_walk (i : IpV) (w : World) : Calls Try.prog 21 #[.agg i.cs.toArray, .agg i.cs.toArray] w fun e w' => e = .returned (.bool true) ∧ Mv (fun _ => False) w w' := by
  refine calls_W (n := 73) (vs := [.agg i.cs.toArray, .agg i.cs.toArray]) Try.func21 rfl rfl rfl ?_
  refine W.seq (W.list ?_)
  refine Ls.box rfl rfl rfl rfl rfl (vs := i.cs) rfl ?_
  have hb1 : BX (w.alloc (.cells i.cs.toArray 28)) w.heap.size 28 i.cs := heap_alloc_new w (.cells i.cs.toArray 28)
  have m1 : Mv (fun _ => False) w (w.alloc (.cells i.cs.toArray 28)) := (Mv.refl _ w).alloc _
  generalize w.alloc (.cells i.cs.toArray 28) = w1 at hb1 m1
  generalize w.heap.size = p at hb1
  refine Ls.box rfl rfl rfl rfl rfl (vs := i.cs) rfl ?_
  have hq2 : BX (w1.alloc (.cells i.cs.toArray 28)) w1.heap.size 28 i.cs := heap_alloc_new w1 (.cells i.cs.toArray 28)
  have m2 : Mv (fun _ => False) w1 (w1.alloc (.cells i.cs.toArray 28)) := (Mv.refl _ w1).alloc _
  generalize w1.alloc (.cells i.cs.toArray 28) = w2 at hq2 m2
  generalize w1.heap.size = q at hq2
  have hb2 := hb1.moved m2 fun e => e
  have m2 := m1.trans m2
  apply Ls.runK LO [2, 3] 1
  · repeat' (first | rfl | with_reducible assumption | assumption | constructor)
  intro w3 f3 s3 hf3
  replace hf3 : f3 = [(2, _), (3, _)] := hf3
  subst hf3
  refine Ls.nil (N.to ?_)
  have m3 := m2.same s3
  have hb3 := hb2.same s3
  have hq3 := hq2.same s3
  have a0 : Cl w3 ⟨p, 0 + 0, none⟩ (.int .i64 i.tos) := hb3.cl rfl
  have b0 : Cl w3 ⟨q, 0 + 0, none⟩ (.int .i64 i.tos) := hq3.cl rfl
  have k0 : Kn (i.tos == i.tos) true := .of (by simp)
  have a1 : Cl w3 ⟨p, 0 + 1, none⟩ (.int .i64 i.id) := hb3.cl rfl
  have b1 : Cl w3 ⟨q, 0 + 1, none⟩ (.int .i64 i.id) := hq3.cl rfl
  have k1 : Kn (i.id == i.id) true := .of (by simp)
  have a2 : Cl w3 ⟨p, 0 + 2, none⟩ (.bool i.more) := hb3.cl rfl
  have b2 : Cl w3 ⟨q, 0 + 2, none⟩ (.bool i.more) := hq3.cl rfl
  have k2 : Kn (i.more == i.more) true := .of (by simp)
  have a3 : Cl w3 ⟨p, 0 + 3, none⟩ (.bool i.keep) := hb3.cl rfl
  have b3 : Cl w3 ⟨q, 0 + 3, none⟩ (.bool i.keep) := hq3.cl rfl
  have k3 : Kn (i.keep == i.keep) true := .of (by simp)
  have a4 : Cl w3 ⟨p, 0 + 4, none⟩ (.int .i64 i.off) := hb3.cl rfl
  have b4 : Cl w3 ⟨q, 0 + 4, none⟩ (.int .i64 i.off) := hq3.cl rfl
  have k4 : Kn (i.off == i.off) true := .of (by simp)
  have a5 : Cl w3 ⟨p, 0 + 5, none⟩ (.int .i64 i.ttl) := hb3.cl rfl
  have b5 : Cl w3 ⟨q, 0 + 5, none⟩ (.int .i64 i.ttl) := hq3.cl rfl
  have k5 : Kn (i.ttl == i.ttl) true := .of (by simp)
  have a6 : Cl w3 ⟨p, 0 + 6, none⟩ (.int .i64 i.proto) := hb3.cl rfl
  have b6 : Cl w3 ⟨q, 0 + 6, none⟩ (.int .i64 i.proto) := hq3.cl rfl
  have k6 : Kn (i.proto == i.proto) true := .of (by simp)
  have a7 : Cl w3 ⟨p, 0 + 7, none⟩ (.int .u32 i.src) := hb3.cl rfl
  have b7 : Cl w3 ⟨q, 0 + 7, none⟩ (.int .u32 i.src) := hq3.cl rfl
  have k7 : Kn (i.src == i.src) true := .of (by simp)
  have a8 : Cl w3 ⟨p, 0 + 8, none⟩ (.int .u32 i.dst) := hb3.cl rfl
  have b8 : Cl w3 ⟨q, 0 + 8, none⟩ (.int .u32 i.dst) := hq3.cl rfl
  have k8 : Kn (i.dst == i.dst) true := .of (by simp)
  have a9 : Cl w3 ⟨p, 0 + 9, none⟩ (.string i.o) := hb3.cl rfl
  have b9 : Cl w3 ⟨q, 0 + 9, none⟩ (.string i.o) := hq3.cl rfl
  have k9 : Kn (i.o.toList == i.o.toList) true := .of (by simp)
  apply W.readS LO mixed [4] (by kernel_rfl)
  · repeat' (first | rfl | with_reducible assumption | assumption | constructor)
  intro w4 f4 s4 hf4
  replace hf4 : f4 = [(4, _)] := hf4
  subst hf4
  exact W.ret (post LO (rs := [.tmp 4]) rfl (vs := [.bool true]) (.tmp rfl .nil) ⟨rfl, m3.same s4⟩)
end Go.Proofs.Ytbidgeaigiijpaa
