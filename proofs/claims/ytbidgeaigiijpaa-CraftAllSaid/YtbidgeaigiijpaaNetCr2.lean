/- What is proved: frames that the wall makes: datagrams, segments, resets. Conditions: those that stand in each theorem. -/
import Derived.Test.YtbidgeaigiijpaaNetCr1
import Derived.Test.YtbidgeaigiijpaaNetTcp2
namespace Go.Proofs.Ytbidgeaigiijpaa
set_option linter.unusedVariables false
set_option linter.unusedSimpArgs false
set_option linter.unusedSectionVars false
open Go.RowKit Fw Nt
def ipOf (pr : Int) : IpV := ⟨0, 0, false, false, 0, 64, pr, 167772161, 167772162, ⟨#[]⟩⟩
def ipN : IpV := ⟨0, 0, false, false, 0, 0, 0, 0, 0, ⟨#[]⟩⟩
set_option maxRecDepth 100000 in
set_option maxHeartbeats 4000000 in
theorem lip_walk (pr : Int) (w : World) : Calls Try.prog 8 #[.int .i64 0, .int .i64 pr] w fun e w' => e = .returned (.agg (ipOf pr).cs.toArray) ∧ Mv (fun _ => False) w w' := by
  refine calls_W (n := 17) (vs := [.int .i64 0, .int .i64 pr]) Try.func8 rfl rfl rfl ?_
  refine W.seq (W.list ?_)
  refine Ls.alloc LO rfl rfl rfl rfl (zs := ipN.cs) rfl ?_
  have hb1 : BX (w.alloc (.cells ipN.cs.toArray 28)) w.heap.size 28 ipN.cs := heap_alloc_new w (.cells ipN.cs.toArray 28)
  have m1 : Mv (fun _ => False) w (w.alloc (.cells ipN.cs.toArray 28)) := (Mv.refl _ w).alloc _
  generalize w.alloc (.cells ipN.cs.toArray 28) = w1 at hb1 m1
  obtain ⟨p, hp⟩ : ∃ p, p = w.heap.size := ⟨_, rfl⟩
  rw [← hp] at hb1
  rw [← hp]
  refine Ls.nil (N.to ?_)
  refine W.seq (W.list ?_)
  apply Ls.runK LO [0, 4, 7] 2
  · repeat' (first | rfl | with_reducible assumption | assumption | constructor)
  intro w2 f2 s2 hf2
  replace hf2 : f2 = [(0, _), (4, _), (7, _)] := hf2
  subst hf2
  refine Ls.alloc LO rfl rfl rfl rfl (zs := ipN.cs) rfl ?_
  have hq3 : BX (w2.alloc (.cells ipN.cs.toArray 28)) w2.heap.size 28 ipN.cs := heap_alloc_new w2 (.cells ipN.cs.toArray 28)
  have m3 : Mv (fun _ => False) w2 (w2.alloc (.cells ipN.cs.toArray 28)) := (Mv.refl _ w2).alloc _
  generalize w2.alloc (.cells ipN.cs.toArray 28) = w3 at hq3 m3
  obtain ⟨q, hq⟩ : ∃ q, q = w2.heap.size := ⟨_, rfl⟩
  rw [← hq] at hq3
  rw [← hq]
  have hp2 := hb1.same s2
  have hpq : p < q := by have := hp2.lt; omega
  refine Ls.store LO rfl rfl rfl rfl rfl (vs := (ipOf pr).cs) rfl rfl rfl hq3 rfl ?_
  intro w4 hq4 m4 _
  have hq4 : BX w4 q 28 (ipOf pr).cs := hq4
  have hp4 := (hp2.moved m3 fun e => e).moved m4 (by omega)
  have m4 : Mv (fun _ => False) w w4 := ((m1.same s2).trans m3).cut m4 fun k hk e => by omega
  refine Ls.nil (N.to ?_)
  refine W.seq ?_
  apply W.readS LO mixed [4, 5, 9] (by kernel_rfl)
  · repeat' (first | rfl | with_reducible assumption | assumption | constructor)
  intro w5 f5 s5 hf5
  replace hf5 : f5 = [(4, _), (5, _), (9, _)] := hf5
  subst hf5
  refine W.cond (b := false) rfl (fun h => by cases h) (fun _ => W.skip (N.to ?_))
  refine W.seq (W.list ?_)
  have hc : CellsAt w5 q 0 10 (ipOf pr).cs := (hq4.same s5).cells
  apply Ls.runK LO [4, 16] 1
  · repeat' (first | rfl | with_reducible assumption | assumption | constructor)
  intro w6 f6 s6 hf6
  replace hf6 : f6 = [(4, _), (16, _)] := hf6
  subst hf6
  refine Ls.store LO rfl rfl rfl rfl rfl (vs := (ipOf pr).cs) rfl rfl rfl ((hp4.same s5).same s6) rfl ?_
  intro w7 hp7 m7 _
  have hp7 : BX w7 p 28 (ipOf pr).cs := hp7
  refine Ls.nil (N.to (W.ret ?_))
  have hl : CellsAt w7 p 0 10 (ipOf pr).cs := hp7.cells
  exact post LO (rs := [.cell 4 28]) rfl (vs := [.agg (ipOf pr).cs.toArray]) (.cell rfl rfl (.agg hl) .nil) ⟨rfl, ((m4.same s5).same s6).cut m7 fun k hk e => by omega⟩
/-- Its last is x. -/
def e5 (x : Int) : Nat → Int
  | 5 => x
  | _ => 0
def e0 : Nat → Int := fun _ => 0
def eth0 : EthV := ⟨⟨#[0, 0, 0, 0, 0, 2]⟩, ⟨#[0, 0, 0, 0, 0, 1]⟩, 2048⟩
theorem eth0_ok : eth0.Ok := ⟨rfl, rfl⟩
theorem eth0_cs : eth0.cs = ecs (e5 2) (e5 1) 2048 := by
  unfold EthV.cs eth0 bcs ecs
  rfl
set_option maxRecDepth 100000 in
set_option maxHeartbeats 4000000 in
theorem leth_walk (w : World) : Calls Try.prog 10 #[.int .i64 0] w fun e w' => e = .returned (.agg eth0.cs.toArray) ∧ Mv (fun _ => False) w w' := by
  rw [eth0_cs]
  refine calls_W (n := 16) (vs := [.int .i64 0]) Try.func10 rfl rfl rfl ?_
  refine W.seq (W.list ?_)
  refine Ls.alloc LO rfl rfl rfl rfl (zs := ecs e0 e0 0) rfl ?_
  have hb1 : BX (w.alloc (.cells (ecs e0 e0 0).toArray 33)) w.heap.size 33 (ecs e0 e0 0) := heap_alloc_new w (.cells (ecs e0 e0 0).toArray 33)
  have m1 : Mv (fun _ => False) w (w.alloc (.cells (ecs e0 e0 0).toArray 33)) := (Mv.refl _ w).alloc _
  generalize w.alloc (.cells (ecs e0 e0 0).toArray 33) = w1 at hb1 m1
  obtain ⟨p, hp⟩ : ∃ p, p = w.heap.size := ⟨_, rfl⟩
  rw [← hp] at hb1
  rw [← hp]
  refine Ls.nil (N.to ?_)
  refine W.seq (W.list ?_)
  apply Ls.runK LO [0, 2, 4] 1
  · repeat' (first | rfl | with_reducible assumption | assumption | constructor)
  intro w2 f2 s2 hf2
  replace hf2 : f2 = [(0, _), (2, _), (4, _)] := hf2
  subst hf2
  refine Ls.alloc LO rfl rfl rfl rfl (zs := ecs e0 e0 0) rfl ?_
  have hq3 : BX (w2.alloc (.cells (ecs e0 e0 0).toArray 33)) w2.heap.size 33 (ecs e0 e0 0) := heap_alloc_new w2 (.cells (ecs e0 e0 0).toArray 33)
  have m3 : Mv (fun _ => False) w2 (w2.alloc (.cells (ecs e0 e0 0).toArray 33)) := (Mv.refl _ w2).alloc _
  generalize w2.alloc (.cells (ecs e0 e0 0).toArray 33) = w3 at hq3 m3
  obtain ⟨q, hq⟩ : ∃ q, q = w2.heap.size := ⟨_, rfl⟩
  rw [← hq] at hq3
  rw [← hq]
  have hp2 := hb1.same s2
  have hpq : p < q := by have := hp2.lt; omega
  refine Ls.store LO rfl rfl rfl rfl rfl (vs := ecs e0 e0 2048) rfl rfl rfl hq3 rfl ?_
  intro w4 hq4 m4 _
  have hq4 : BX w4 q 33 (ecs e0 e0 2048) := hq4
  have hp4 := (hp2.moved m3 fun e => e).moved m4 (by omega)
  have m4 : Mv (fun _ => False) w w4 := ((m1.same s2).trans m3).cut m4 fun k hk e => by omega
  refine Ls.nil (N.to ?_)
  have k1 : Kn (IntKind.i64.wrap ((1 : Int) + 0)) 1 := .of rfl
  have k2 : Kn (IntKind.u8.wrap (1 : Int)) 1 := .of rfl
  have k3 : Kn (IntKind.i64.wrap ((2 : Int) - 0)) 2 := .of rfl
  have k4 : Kn (IntKind.u8.wrap (2 : Int)) 2 := .of rfl
  have j0 : (0 : Int) ≤ 5 := by decide
  have j1 : (5 : Int) < ((6 : Nat) : Int) := by decide
  refine W.seq (W.list ?_)
  apply Ls.runK LO [2, 3, 7, 10, 12] 8
  · repeat' (first | rfl | with_reducible assumption | assumption | constructor)
  intro w5 f5 s5 hf5
  replace hf5 : f5 = [(2, _), (3, _), (7, _), (10, _), (12, _)] := hf5
  subst hf5
  refine Ls.store LO rfl rfl rfl rfl rfl (vs := [.int .u8 1]) rfl rfl rfl (hq4.same s5) rfl ?_
  intro w6 hq6 m6 _
  have hq6 : BX w6 q 33 (ecs e0 (e5 1) 2048) := hq6
  have hp6 := (hp4.same s5).moved m6 (by omega)
  have m6 : Mv (fun _ => False) w w6 := (m4.same s5).cut m6 fun k hk e => by omega
  apply Ls.runK LO [2, 3, 10, 14] 2
  · repeat' (first | rfl | with_reducible assumption | assumption | constructor)
  intro w7 f7 s7 hf7
  replace hf7 : f7 = [(2, _), (3, _), (10, _), (14, _)] := hf7
  subst hf7
  refine Ls.store LO rfl rfl rfl rfl rfl (vs := [.int .u8 2]) rfl rfl rfl (hq6.same s7) rfl ?_
  intro w8 hq8 m8 _
  have hq8 : BX w8 q 33 (ecs (e5 2) (e5 1) 2048) := hq8
  have hp8 := (hp6.same s7).moved m8 (by omega)
  have m8 : Mv (fun _ => False) w w8 := (m6.same s7).cut m8 fun k hk e => by omega
  refine Ls.nil (N.to ?_)
  refine W.seq (W.list ?_)
  have hc : CellsAt w8 q 0 13 (ecs (e5 2) (e5 1) 2048) := hq8.cells
  apply Ls.runK LO [2, 15] 1
  · repeat' (first | rfl | with_reducible assumption | assumption | constructor)
  intro w9 f9 s9 hf9
  replace hf9 : f9 = [(2, _), (15, _)] := hf9
  subst hf9
  refine Ls.store LO rfl rfl rfl rfl rfl (vs := ecs (e5 2) (e5 1) 2048) rfl rfl rfl (hp8.same s9) rfl ?_
  intro w10 hp10 m10 _
  have hp10 : BX w10 p 33 (ecs (e5 2) (e5 1) 2048) := hp10
  refine Ls.nil (N.to (W.ret ?_))
  have hl : CellsAt w10 p 0 13 (ecs (e5 2) (e5 1) 2048) := hp10.cells
  exact post LO (rs := [.cell 2 33]) rfl (vs := [.agg (ecs (e5 2) (e5 1) 2048).toArray]) (.cell rfl rfl (.agg hl) .nil) ⟨rfl, (m8.same s9).cut m10 fun k hk e => by omega⟩
/-! ### Frames -/
def datS (e : EthV) (i : IpV) (body : ByteArray) : ByteArray := if (i.put body).2 = 0 then putE e (i.put body).1 else ⟨#[]⟩
theorem iput_size {i : IpV} {body : ByteArray} (h : (i.put body).2 = 0) : (i.put body).1.size ≤ 2060 := by
  unfold IpV.put putI at *
  split at h
  · rename_i hc
    have := (chkI_all hc)
    split at h
    · cases h
    · rw [if_pos hc, if_neg (by assumption)]
      show (headI _ _ _ _ _ _ _ _ _ _ _ ++ body).size ≤ 2060
      rw [ByteArray.size_append, headI_size]
      omega
  · cases h
set_option maxRecDepth 100000 in
set_option maxHeartbeats 4000000 in
theorem dat_walk (e : EthV) (i : IpV) (body : ByteArray) (w : World) (ok : e.Ok) (iok : i.Ok) (hbody : body.size ≤ 1000000000000000) {cs : List Value} (hcs : cs = e.cs) : Calls Try.prog 23 #[.agg cs.toArray, .agg i.cs.toArray, .string body] w fun e' w' => e' = .returned (.string (datS e i body)) ∧ Mv (fun _ => False) w w' := by
  subst hcs
  refine calls_W (n := 20) (vs := [.agg e.cs.toArray, .agg i.cs.toArray, .string body]) Try.func23 rfl rfl rfl ?_
  refine W.seq (W.list ?_)
  refine Ls.box rfl rfl rfl rfl rfl (vs := e.cs) rfl ?_
  have hb1 : BX (w.alloc (.cells e.cs.toArray 33)) w.heap.size 33 e.cs := heap_alloc_new w (.cells e.cs.toArray 33)
  have m1 : Mv (fun _ => False) w (w.alloc (.cells e.cs.toArray 33)) := (Mv.refl _ w).alloc _
  generalize w.alloc (.cells e.cs.toArray 33) = w1 at hb1 m1
  generalize w.heap.size = p at hb1
  refine Ls.box rfl rfl rfl rfl rfl (vs := i.cs) rfl ?_
  have hq2 : BX (w1.alloc (.cells i.cs.toArray 28)) w1.heap.size 28 i.cs := heap_alloc_new w1 (.cells i.cs.toArray 28)
  have m2 : Mv (fun _ => False) w1 (w1.alloc (.cells i.cs.toArray 28)) := (Mv.refl _ w1).alloc _
  generalize w1.alloc (.cells i.cs.toArray 28) = w2 at hq2 m2
  generalize w1.heap.size = q at hq2
  have hb2 := hb1.moved m2 fun e => e
  have m2 := m1.trans m2
  apply Ls.runK LO [2, 3, 4] 1
  · repeat' (first | rfl | with_reducible assumption | assumption | constructor)
  intro w3 f3 s3 hf3
  replace hf3 : f3 = [(2, _), (3, _), (4, _)] := hf3
  subst hf3
  refine Ls.nil (N.to ?_)
  have m3 := m2.same s3
  have hb3 := hb2.same s3
  have hq3 := hq2.same s3
  clear m1 m2 hb1 hb2 hq2 s3
  refine W.seq (W.list ?_)
  have hc : CellsAt w3 q 0 10 i.cs := hq3.cells
  apply Ls.runK LO [2, 3, 10, 11] 2
  · repeat' (first | rfl | with_reducible assumption | assumption | constructor)
  intro w4 f4 s4 hf4
  replace hf4 : f4 = [(2, _), (3, _), (10, _), (11, _)] := hf4
  subst hf4
  refine Ls.call LO rfl rfl rfl rfl rfl (vs := [.agg i.cs.toArray, .string body]) rfl (iput_walk i body w4 iok hbody) ?_
  rintro _ w5 ⟨rfl, m5⟩
  refine ⟨_, rfl, ?_⟩
  obtain ⟨r, hr⟩ : ∃ r, r = i.put body := ⟨_, rfl⟩
  rw [← hr]
  apply Ls.runK LO [3, 7, 8] 5
  · repeat' (first | rfl | with_reducible assumption | assumption | constructor)
  intro w6 f6 s6 hf6
  replace hf6 : f6 = [(3, _), (7, _), (8, _)] := hf6
  subst hf6
  refine Ls.nil (N.to ?_)
  have m6 := ((m3.same s4).trans m5).same s6
  have hb6 := ((hb3.same s4).moved m5 fun e => e).same s6
  clear m3 hb3 hq3 hc s4 m5 s6
  by_cases h0 : r.2 = 0
  · have k1 : Kn (r.2 != 0) false := .of (by rw [h0]; rfl)
    have hsz : r.1.size ≤ 2060 := by rw [hr]; exact iput_size (by rw [← hr]; exact h0)
    refine W.seq ?_
    apply W.readS LO mixed [3, 7, 16] (by kernel_rfl)
    · repeat' (first | rfl | with_reducible assumption | assumption | constructor)
    intro w7 f7 s7 hf7
    replace hf7 : f7 = [(3, _), (7, _), (16, _)] := hf7
    subst hf7
    refine W.cond (b := false) rfl (fun h => by cases h) (fun _ => W.skip (N.to ?_))
    refine W.seq (W.list ?_)
    have hl := (hb6.same s7).cells
    rw [ok.len] at hl
    apply Ls.runK LO [17, 18] 2
    · repeat' (first | rfl | with_reducible assumption | assumption | constructor)
    intro w8 f8 s8 hf8
    replace hf8 : f8 = [(17, _), (18, _)] := hf8
    subst hf8
    refine Ls.call LO rfl rfl rfl rfl rfl (vs := [.agg e.cs.toArray, .string r.1]) rfl (eput_walk e r.1 w8 ok (by omega)) ?_
    rintro _ w9 ⟨rfl, m9⟩
    refine ⟨_, rfl, ?_⟩
    have e1 : putE e r.1 = datS e i body := by unfold datS; rw [← hr, if_pos h0]
    rw [e1]
    apply Ls.runK LO [6] 1
    · repeat' (first | rfl | with_reducible assumption | assumption | constructor)
    intro w10 f10 s10 hf10
    replace hf10 : f10 = [(6, _)] := hf10
    subst hf10
    exact Ls.nil (N.to (W.ret (post LO (rs := [.tmp 6]) rfl (vs := [.string (datS e i body)]) (.tmp rfl .nil) ⟨rfl, (((m6.same s7).same s8).trans m9).same s10⟩)))
  · have k1 : Kn (r.2 != 0) true := .of (by rw [bne_iff_ne]; exact h0)
    have e1 : datS e i body = ⟨#[]⟩ := by unfold datS; rw [← hr, if_neg h0]
    rw [e1]
    refine W.seq ?_
    apply W.readS LO mixed [3, 7, 16] (by kernel_rfl)
    · repeat' (first | rfl | with_reducible assumption | assumption | constructor)
    intro w7 f7 s7 hf7
    replace hf7 : f7 = [(3, _), (7, _), (16, _)] := hf7
    subst hf7
    refine W.cond (b := true) rfl (fun _ => ?_) (fun h => by cases h)
    apply W.readS LO mixed [6] (by kernel_rfl)
    · repeat' (first | rfl | with_reducible assumption | assumption | constructor)
    intro w8 f8 s8 hf8
    replace hf8 : f8 = [(6, _)] := hf8
    subst hf8
    exact W.ret (N.thenR (post LO (rs := [.tmp 6]) rfl (vs := [.string ⟨#[]⟩]) (.tmp rfl .nil) ⟨rfl, (m6.same s7).same s8⟩))
def segS (e : EthV) (i : IpV) (h : SegV) (body : ByteArray) : ByteArray := if (h.put i.src i.dst body).2 = 0 then datS e i (h.put i.src i.dst body).1 else ⟨#[]⟩
theorem tput_size {h : SegV} {a b : Int} {body : ByteArray} (h0 : (h.put a b body).2 = 0) : (h.put a b body).1.size ≤ 2000 := by
  unfold SegV.put putT at *
  split at h0
  · rename_i hc
    split at h0
    · cases h0
    · rw [if_pos hc, if_neg (by assumption)]
      show (segT _ _ _ _ _ _ _ _ _ _).size ≤ 2000
      rw [segT_size]
      omega
  · cases h0
set_option maxRecDepth 100000 in
set_option maxHeartbeats 4000000 in
theorem seg_walk (e : EthV) (i : IpV) (h : SegV) (body : ByteArray) (w : World) (ok : e.Ok) (iok : i.Ok) (hok : h.Ok) (hbody : body.size ≤ 1000000000000000) {cs : List Value} (hcs : cs = e.cs) : Calls Try.prog 16 #[.agg cs.toArray, .agg i.cs.toArray, .agg h.cs.toArray, .string body] w fun e' w' => e' = .returned (.string (segS e i h body)) ∧ Mv (fun _ => False) w w' := by
  subst hcs
  refine calls_W (n := 27) (vs := [.agg e.cs.toArray, .agg i.cs.toArray, .agg h.cs.toArray, .string body]) Try.func16 rfl rfl rfl ?_
  refine W.seq (W.list ?_)
  refine Ls.box rfl rfl rfl rfl rfl (vs := e.cs) rfl ?_
  have hb1 : BX (w.alloc (.cells e.cs.toArray 33)) w.heap.size 33 e.cs := heap_alloc_new w (.cells e.cs.toArray 33)
  have m1 : Mv (fun _ => False) w (w.alloc (.cells e.cs.toArray 33)) := (Mv.refl _ w).alloc _
  generalize w.alloc (.cells e.cs.toArray 33) = w1 at hb1 m1
  generalize w.heap.size = p at hb1
  refine Ls.box rfl rfl rfl rfl rfl (vs := i.cs) rfl ?_
  have hq2 : BX (w1.alloc (.cells i.cs.toArray 28)) w1.heap.size 28 i.cs := heap_alloc_new w1 (.cells i.cs.toArray 28)
  have m2 : Mv (fun _ => False) w1 (w1.alloc (.cells i.cs.toArray 28)) := (Mv.refl _ w1).alloc _
  generalize w1.alloc (.cells i.cs.toArray 28) = w2 at hq2 m2
  generalize w1.heap.size = q at hq2
  have hb2 := hb1.moved m2 fun e => e
  have m2 := m1.trans m2
  refine Ls.box rfl rfl rfl rfl rfl (vs := h.cs) rfl ?_
  have hr3 : BX (w2.alloc (.cells h.cs.toArray 26)) w2.heap.size 26 h.cs := heap_alloc_new w2 (.cells h.cs.toArray 26)
  have m3 : Mv (fun _ => False) w2 (w2.alloc (.cells h.cs.toArray 26)) := (Mv.refl _ w2).alloc _
  generalize w2.alloc (.cells h.cs.toArray 26) = w3 at hr3 m3
  generalize w2.heap.size = r at hr3
  have hb3 := hb2.moved m3 fun e => e
  have hq3 := hq2.moved m3 fun e => e
  have m3 := m2.trans m3
  apply Ls.runK LO [3, 4, 5, 6] 1
  · repeat' (first | rfl | with_reducible assumption | assumption | constructor)
  intro w4 f4 s4 hf4
  replace hf4 : f4 = [(3, _), (4, _), (5, _), (6, _)] := hf4
  subst hf4
  refine Ls.nil (N.to ?_)
  have m4 := m3.same s4
  have hb4 := hb3.same s4
  have hq4 := hq3.same s4
  have hr4 := hr3.same s4
  clear m1 m2 m3 hb1 hb2 hb3 hq2 hq3 hr3 s4
  refine W.seq (W.list ?_)
  have d7 : Cl w4 ⟨q, 0 + 7, none⟩ (.int .u32 i.src) := hq4.cl rfl
  have d8 : Cl w4 ⟨q, 0 + 8, none⟩ (.int .u32 i.dst) := hq4.cl rfl
  have hc : CellsAt w4 r 0 7 h.cs := hr4.cells
  apply Ls.runK LO [4, 5, 13, 15, 16, 17] 6
  · repeat' (first | rfl | with_reducible assumption | assumption | constructor)
  intro w5 f5 s5 hf5
  replace hf5 : f5 = [(4, _), (5, _), (13, _), (15, _), (16, _), (17, _)] := hf5
  subst hf5
  refine Ls.call LO rfl rfl rfl rfl rfl (vs := [.int .u32 i.src, .int .u32 i.dst, .agg h.cs.toArray, .string body]) rfl (tput_walk h i.src i.dst body w5 hok iok.src iok.dst hbody) ?_
  rintro _ w6 ⟨rfl, m6⟩
  refine ⟨_, rfl, ?_⟩
  obtain ⟨x, hx⟩ : ∃ x, x = h.put i.src i.dst body := ⟨_, rfl⟩
  rw [← hx]
  apply Ls.runK LO [4, 5, 9, 10] 5
  · repeat' (first | rfl | with_reducible assumption | assumption | constructor)
  intro w7 f7 s7 hf7
  replace hf7 : f7 = [(4, _), (5, _), (9, _), (10, _)] := hf7
  subst hf7
  refine Ls.nil (N.to ?_)
  have m7 := ((m4.same s5).trans m6).same s7
  have hb7 := ((hb4.same s5).moved m6 fun e => e).same s7
  have hq7 := ((hq4.same s5).moved m6 fun e => e).same s7
  clear m4 hb4 hq4 hr4 d7 d8 hc s5 m6 s7
  by_cases h0 : x.2 = 0
  · have k1 : Kn (x.2 != 0) false := .of (by rw [h0]; rfl)
    have hsz : x.1.size ≤ 2000 := by rw [hx]; exact tput_size (by rw [← hx]; exact h0)
    refine W.seq ?_
    apply W.readS LO mixed [4, 5, 9, 22] (by kernel_rfl)
    · repeat' (first | rfl | with_reducible assumption | assumption | constructor)
    intro w8 f8 s8 hf8
    replace hf8 : f8 = [(4, _), (5, _), (9, _), (22, _)] := hf8
    subst hf8
    refine W.cond (b := false) rfl (fun h => by cases h) (fun _ => W.skip (N.to ?_))
    refine W.seq (W.list ?_)
    have hl := (hb7.same s8).cells
    rw [ok.len] at hl
    have hl2 : CellsAt w8 q 0 10 i.cs := (hq7.same s8).cells
    apply Ls.runK LO [23, 24, 25] 3
    · repeat' (first | rfl | with_reducible assumption | assumption | constructor)
    intro w9 f9 s9 hf9
    replace hf9 : f9 = [(23, _), (24, _), (25, _)] := hf9
    subst hf9
    refine Ls.call LO rfl rfl rfl rfl rfl (vs := [.agg e.cs.toArray, .agg i.cs.toArray, .string x.1]) rfl (dat_walk e i x.1 w9 ok iok (by omega) rfl) ?_
    rintro _ w10 ⟨rfl, m10⟩
    refine ⟨_, rfl, ?_⟩
    have e1 : datS e i x.1 = segS e i h body := by unfold segS; rw [← hx, if_pos h0]
    rw [e1]
    apply Ls.runK LO [8] 1
    · repeat' (first | rfl | with_reducible assumption | assumption | constructor)
    intro w11 f11 s11 hf11
    replace hf11 : f11 = [(8, _)] := hf11
    subst hf11
    exact Ls.nil (N.to (W.ret (post LO (rs := [.tmp 8]) rfl (vs := [.string (segS e i h body)]) (.tmp rfl .nil) ⟨rfl, (((m7.same s8).same s9).trans m10).same s11⟩)))
  · have k1 : Kn (x.2 != 0) true := .of (by rw [bne_iff_ne]; exact h0)
    have e1 : segS e i h body = ⟨#[]⟩ := by unfold segS; rw [← hx, if_neg h0]
    rw [e1]
    refine W.seq ?_
    apply W.readS LO mixed [4, 5, 9, 22] (by kernel_rfl)
    · repeat' (first | rfl | with_reducible assumption | assumption | constructor)
    intro w8 f8 s8 hf8
    replace hf8 : f8 = [(4, _), (5, _), (9, _), (22, _)] := hf8
    subst hf8
    refine W.cond (b := true) rfl (fun _ => ?_) (fun h => by cases h)
    apply W.readS LO mixed [8] (by kernel_rfl)
    · repeat' (first | rfl | with_reducible assumption | assumption | constructor)
    intro w9 f9 s9 hf9
    replace hf9 : f9 = [(8, _)] := hf9
    subst hf9
    exact W.ret (N.thenR (post LO (rs := [.tmp 8]) rfl (vs := [.string ⟨#[]⟩]) (.tmp rfl .nil) ⟨rfl, (m7.same s8).same s9⟩))
end Go.Proofs.Ytbidgeaigiijpaa
