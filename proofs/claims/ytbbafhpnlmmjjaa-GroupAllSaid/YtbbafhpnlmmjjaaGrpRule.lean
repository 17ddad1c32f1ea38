/- What is proved: a rule's two ends. Conditions: those that stand in each theorem. -/
import Derived.Test.YtbbafhpnlmmjjaaGrpPort
namespace Go.Proofs.Ytbbafhpnlmmjjaa
set_option linter.unusedVariables false
set_option linter.unusedSimpArgs false
set_option linter.unusedSectionVars false
open Go.RowKit Fw
structure RuleV where
  action : Int
  proto : Int
  fn : SetV
  fp : SetV
  tn : SetV
  tp : SetV
  both : Bool
  flow : Int
  cv : Value
  sid : Int
  rev : Int
def RuleV.cs (r : RuleV) : List Value := [.int .i64 r.action, .int .i64 r.proto, .bool r.fn.not, r.fn.v, .bool r.fp.not, r.fp.v, .bool r.tn.not, r.tn.v, .bool r.tp.not, r.tp.v, .bool r.both, .int .i64 r.flow, r.cv, .int .i64 r.sid, .int .i64 r.rev]
structure RuleAt (w : World) (r : RuleV) : Prop where
  fn : NetsAt w r.fn
  fp : SpansAt w r.fp
  tn : NetsAt w r.tn
  tp : SpansAt w r.tp
  cv : ∃ a n c, r.cv = .slice a n c
  few : r.fn.l.length ≤ 1000000000 ∧ r.fp.l.length ≤ 1000000000 ∧ r.tn.l.length ≤ 1000000000 ∧ r.tp.l.length ≤ 1000000000
theorem RuleAt.moved {w w' : World} {r : RuleV} (h : RuleAt w r) (m : Mv (fun _ => False) w w') : RuleAt w' r := ⟨Rd.moved h.fn m, Rd.moved h.fp m, Rd.moved h.tn m, Rd.moved h.tp m, h.cv, h.few⟩
theorem RuleAt.one {w : World} {r : RuleV} (h : RuleAt w r) : r.fn.v.oneCell' = true ∧ r.fp.v.oneCell' = true ∧ r.tn.v.oneCell' = true ∧ r.tp.v.oneCell' = true ∧ r.cv.oneCell' = true := by
  obtain ⟨a, n, c, e⟩ := h.cv
  exact ⟨(Rd.one h.fn).1, (Rd.one h.fp).1, (Rd.one h.tn).1, (Rd.one h.tp).1, by rw [e]; rfl⟩
theorem RuleAt.all {w : World} {r : RuleV} (h : RuleAt w r) : r.cs.all (fun u => u.oneCell') = true := by
  obtain ⟨h1, h2, h3, h4, h5⟩ := h.one
  simp only [RuleV.cs, List.all_cons, List.all_nil, h1, h2, h3, h4, h5]
  rfl
/-- A box of cells. -/
def BX (w : World) (b T : Nat) (cs : List Value) : Prop := w.heap[b]? = some (.cells cs.toArray T (0, 0))
theorem BX.moved {S : Nat → Prop} {w w' : World} {b T : Nat} {cs : List Value} (h : BX w b T cs) (m : Mv S w w') (hs : ¬ S b) : BX w' b T cs := (m.block b (Array.getElem?_eq_some_iff.1 h).1 hs).trans h
theorem BX.same {w w' : World} {b T : Nat} {cs : List Value} (h : BX w b T cs) (s : Same w w') : BX w' b T cs := by unfold BX; rw [s.heap]; exact h
theorem BX.lt {w : World} {b T : Nat} {cs : List Value} (h : BX w b T cs) : b < w.heap.size := (Array.getElem?_eq_some_iff.1 h).1
theorem BX.cl {w : World} {b T : Nat} {cs : List Value} (h : BX w b T cs) {j : Nat} {u : Value} (hj : cs[j]? = some u) : Cl w ⟨b, j, none⟩ u := ⟨by
  unfold BX at h
  unfold World.cell?; rw [h]
  show cs.toArray[j]? = _
  rw [List.getElem?_toArray]; exact hj⟩
theorem BX.cells {w : World} {b T : Nat} {cs : List Value} (h : BX w b T cs) : CellsAt w b 0 cs.length cs := cellsAt_of fun j u hj => by rw [Nat.zero_add]; exact (h.cl hj).h
structure EndV where
  addr : Int
  port : Int
def EndV.cs (x : EndV) : List Value := [.int .u32 x.addr, .int .i64 x.port]
def RuleV.send (r : RuleV) (x : EndV) : Bool := r.fn.has x.addr && r.fp.hasS x.port
def RuleV.recv (r : RuleV) (x : EndV) : Bool := r.tn.has x.addr && r.tp.hasS x.port
set_option maxRecDepth 100000 in
set_option maxHeartbeats 2000000 in
theorem send_walk (r : RuleV) (x : EndV) (w : World) (h : RuleAt w r) : Calls Try.prog 17 #[.agg r.cs.toArray, .agg x.cs.toArray] w fun e w' => e = .returned (.bool (r.send x)) ∧ Mv (fun _ => False) w w' := by
  refine calls_W (n := 17) (vs := [.agg r.cs.toArray, .agg x.cs.toArray]) Try.func17 rfl rfl rfl ?_
  refine W.seq (W.list ?_)
  refine Ls.box rfl rfl rfl rfl rfl (vs := r.cs) rfl ?_
  have hb1 : BX (w.alloc (.cells r.cs.toArray 58)) w.heap.size 58 r.cs := heap_alloc_new w (.cells r.cs.toArray 58)
  have m1 : Mv (fun _ => False) w (w.alloc (.cells r.cs.toArray 58)) := (Mv.refl _ w).alloc _
  generalize w.alloc (.cells r.cs.toArray 58) = w1 at hb1 m1
  obtain ⟨p, hp⟩ : ∃ p, p = w.heap.size := ⟨_, rfl⟩
  rw [← hp] at hb1
  rw [← hp]
  refine Ls.box rfl rfl rfl rfl rfl (vs := x.cs) rfl ?_
  have hc1 : BX (w1.alloc (.cells x.cs.toArray 56)) w1.heap.size 56 x.cs := heap_alloc_new w1 (.cells x.cs.toArray 56)
  have m2 : Mv (fun _ => False) w1 (w1.alloc (.cells x.cs.toArray 56)) := (Mv.refl _ w1).alloc _
  generalize w1.alloc (.cells x.cs.toArray 56) = w2 at hc1 m2
  obtain ⟨q, hq⟩ : ∃ q, q = w1.heap.size := ⟨_, rfl⟩
  rw [← hq] at hc1
  rw [← hq]
  have hb2 := hb1.moved m2 (fun e => e)
  have m2 := m1.trans m2
  apply Ls.runK LO [2, 3] 1
  · repeat' (first | rfl | with_reducible assumption | assumption | constructor)
  intro w3 f3 s3 hf3
  replace hf3 : f3 = [(2, _), (3, _)] := hf3
  subst hf3
  refine Ls.nil (N.to ?_)
  have m3 := m2.same s3
  have hb3 := hb2.same s3
  have hc3 := hc1.same s3
  clear hb1 m1 hb2 hc1 m2 s3
  refine W.seq (W.list ?_)
  have d0 : CellsAt w3 p 2 2 [.bool r.fn.not, r.fn.v] := .cons (hb3.cl rfl) (.cons (hb3.cl rfl) .nil)
  have d1 : Cl w3 ⟨q, 0, none⟩ (.int .u32 x.addr) := hc3.cl rfl
  apply Ls.runK LO [2, 3, 6, 8] 4
  · repeat' (first | rfl | with_reducible assumption | assumption | constructor)
  intro w4 f4 s4 hf4
  replace hf4 : f4 = [(2, _), (3, _), (6, _), (8, _)] := hf4
  subst hf4
  have m4 := m3.same s4
  have hb4 := hb3.same s4
  have hc4 := hc3.same s4
  clear d0 d1 m3 hb3 hc3 s4
  refine Ls.call LO rfl rfl rfl rfl rfl (vs := [.agg r.fn.cs.toArray, .int .u32 x.addr]) rfl (nhas_walk r.fn x.addr w4 (h.moved m4).fn h.few.1) ?_
  rintro _ w5 ⟨rfl, m5⟩
  refine ⟨_, rfl, ?_⟩
  have hb5 := hb4.moved m5 (fun e => e)
  have hc5 := hc4.moved m5 (fun e => e)
  have m5 := m4.trans m5
  obtain ⟨b1, hb1⟩ : ∃ b1, b1 = r.fn.has x.addr := ⟨_, rfl⟩
  rw [← hb1]
  cases b1 with
  | false =>
    apply Ls.runK LO [4] 8
    · repeat' (first | rfl | with_reducible assumption | assumption | constructor)
    intro w6 f6 s6 hf6
    replace hf6 : f6 = [(4, _)] := hf6
    subst hf6
    have e : r.send x = false := by unfold RuleV.send; rw [← hb1]; rfl
    exact Ls.nil (N.to (W.ret (post LO (rs := [.tmp 4]) rfl (vs := [.bool false]) (.tmp rfl .nil) ⟨by rw [e]; rfl, m5.same s6⟩)))
  | true =>
    have d2 : CellsAt w5 p 4 2 [.bool r.fp.not, r.fp.v] := .cons (hb5.cl rfl) (.cons (hb5.cl rfl) .nil)
    have d3 : Cl w5 ⟨q, 1, none⟩ (.int .i64 x.port) := hc5.cl rfl
    apply Ls.runK LO [10, 12, 14] 5
    · repeat' (first | rfl | with_reducible assumption | assumption | constructor)
    intro w6 f6 s6 hf6
    replace hf6 : f6 = [(10, _), (12, _), (14, _)] := hf6
    subst hf6
    have m6 := m5.same s6
    refine Ls.call LO rfl rfl rfl rfl rfl (vs := [.agg r.fp.cs.toArray, .int .i64 x.port]) rfl (shas_walk r.fp x.port w6 (h.moved m6).fp h.few.2.1) ?_
    rintro _ w7 ⟨rfl, m7⟩
    refine ⟨_, rfl, ?_⟩
    apply Ls.runK LO [4] 2
    · repeat' (first | rfl | with_reducible assumption | assumption | constructor)
    intro w8 f8 s8 hf8
    replace hf8 : f8 = [(4, _)] := hf8
    subst hf8
    have e : r.send x = r.fp.hasS x.port := by unfold RuleV.send; rw [← hb1]; rfl
    exact Ls.nil (N.to (W.ret (post LO (rs := [.tmp 4]) rfl (vs := [.bool (r.fp.hasS x.port)]) (.tmp rfl .nil) ⟨by rw [e]; rfl, (m6.trans m7).same s8⟩)))
set_option maxRecDepth 100000 in
set_option maxHeartbeats 2000000 in
theorem recv_walk (r : RuleV) (x : EndV) (w : World) (h : RuleAt w r) : Calls Try.prog 18 #[.agg r.cs.toArray, .agg x.cs.toArray] w fun e w' => e = .returned (.bool (r.recv x)) ∧ Mv (fun _ => False) w w' := by
  refine calls_W (n := 17) (vs := [.agg r.cs.toArray, .agg x.cs.toArray]) Try.func18 rfl rfl rfl ?_
  refine W.seq (W.list ?_)
  refine Ls.box rfl rfl rfl rfl rfl (vs := r.cs) rfl ?_
  have hb1 : BX (w.alloc (.cells r.cs.toArray 58)) w.heap.size 58 r.cs := heap_alloc_new w (.cells r.cs.toArray 58)
  have m1 : Mv (fun _ => False) w (w.alloc (.cells r.cs.toArray 58)) := (Mv.refl _ w).alloc _
  generalize w.alloc (.cells r.cs.toArray 58) = w1 at hb1 m1
  obtain ⟨p, hp⟩ : ∃ p, p = w.heap.size := ⟨_, rfl⟩
  rw [← hp] at hb1
  rw [← hp]
  refine Ls.box rfl rfl rfl rfl rfl (vs := x.cs) rfl ?_
  have hc1 : BX (w1.alloc (.cells x.cs.toArray 56)) w1.heap.size 56 x.cs := heap_alloc_new w1 (.cells x.cs.toArray 56)
  have m2 : Mv (fun _ => False) w1 (w1.alloc (.cells x.cs.toArray 56)) := (Mv.refl _ w1).alloc _
  generalize w1.alloc (.cells x.cs.toArray 56) = w2 at hc1 m2
  obtain ⟨q, hq⟩ : ∃ q, q = w1.heap.size := ⟨_, rfl⟩
  rw [← hq] at hc1
  rw [← hq]
  have hb2 := hb1.moved m2 (fun e => e)
  have m2 := m1.trans m2
  apply Ls.runK LO [2, 3] 1
  · repeat' (first | rfl | with_reducible assumption | assumption | constructor)
  intro w3 f3 s3 hf3
  replace hf3 : f3 = [(2, _), (3, _)] := hf3
  subst hf3
  refine Ls.nil (N.to ?_)
  have m3 := m2.same s3
  have hb3 := hb2.same s3
  have hc3 := hc1.same s3
  clear hb1 m1 hb2 hc1 m2 s3
  refine W.seq (W.list ?_)
  have d0 : CellsAt w3 p 6 2 [.bool r.tn.not, r.tn.v] := .cons (hb3.cl rfl) (.cons (hb3.cl rfl) .nil)
  have d1 : Cl w3 ⟨q, 0, none⟩ (.int .u32 x.addr) := hc3.cl rfl
  apply Ls.runK LO [2, 3, 6, 8] 4
  · repeat' (first | rfl | with_reducible assumption | assumption | constructor)
  intro w4 f4 s4 hf4
  replace hf4 : f4 = [(2, _), (3, _), (6, _), (8, _)] := hf4
  subst hf4
  have m4 := m3.same s4
  have hb4 := hb3.same s4
  have hc4 := hc3.same s4
  clear d0 d1 m3 hb3 hc3 s4
  refine Ls.call LO rfl rfl rfl rfl rfl (vs := [.agg r.tn.cs.toArray, .int .u32 x.addr]) rfl (nhas_walk r.tn x.addr w4 (h.moved m4).tn h.few.2.2.1) ?_
  rintro _ w5 ⟨rfl, m5⟩
  refine ⟨_, rfl, ?_⟩
  have hb5 := hb4.moved m5 (fun e => e)
  have hc5 := hc4.moved m5 (fun e => e)
  have m5 := m4.trans m5
  obtain ⟨b1, hb1⟩ : ∃ b1, b1 = r.tn.has x.addr := ⟨_, rfl⟩
  rw [← hb1]
  cases b1 with
  | false =>
    apply Ls.runK LO [4] 8
    · repeat' (first | rfl | with_reducible assumption | assumption | constructor)
    intro w6 f6 s6 hf6
    replace hf6 : f6 = [(4, _)] := hf6
    subst hf6
    have e : r.recv x = false := by unfold RuleV.recv; rw [← hb1]; rfl
    exact Ls.nil (N.to (W.ret (post LO (rs := [.tmp 4]) rfl (vs := [.bool false]) (.tmp rfl .nil) ⟨by rw [e]; rfl, m5.same s6⟩)))
  | true =>
    have d2 : CellsAt w5 p 8 2 [.bool r.tp.not, r.tp.v] := .cons (hb5.cl rfl) (.cons (hb5.cl rfl) .nil)
    have d3 : Cl w5 ⟨q, 1, none⟩ (.int .i64 x.port) := hc5.cl rfl
    apply Ls.runK LO [10, 12, 14] 5
    · repeat' (first | rfl | with_reducible assumption | assumption | constructor)
    intro w6 f6 s6 hf6
    replace hf6 : f6 = [(10, _), (12, _), (14, _)] := hf6
    subst hf6
    have m6 := m5.same s6
    refine Ls.call LO rfl rfl rfl rfl rfl (vs := [.agg r.tp.cs.toArray, .int .i64 x.port]) rfl (shas_walk r.tp x.port w6 (h.moved m6).tp h.few.2.2.2) ?_
    rintro _ w7 ⟨rfl, m7⟩
    refine ⟨_, rfl, ?_⟩
    apply Ls.runK LO [4] 2
    · repeat' (first | rfl | with_reducible assumption | assumption | constructor)
    intro w8 f8 s8 hf8
    replace hf8 : f8 = [(4, _)] := hf8
    subst hf8
    have e : r.recv x = r.tp.hasS x.port := by unfold RuleV.recv; rw [← hb1]; rfl
    exact Ls.nil (N.to (W.ret (post LO (rs := [.tmp 4]) rfl (vs := [.bool (r.tp.hasS x.port)]) (.tmp rfl .nil) ⟨by rw [e]; rfl, (m6.trans m7).same s8⟩)))
end Go.Proofs.Ytbbafhpnlmmjjaa
