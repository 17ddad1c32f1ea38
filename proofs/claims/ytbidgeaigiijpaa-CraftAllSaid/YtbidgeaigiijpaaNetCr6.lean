/- What is proved: what tells that a datagram cannot reach where it goes. Conditions: those that stand in each theorem. -/
import Derived.Test.YtbidgeaigiijpaaNetIc
namespace Go.Proofs.Ytbidgeaigiijpaa
set_option linter.unusedVariables false
set_option linter.unusedSimpArgs false
set_option linter.unusedSectionVars false
open Go.RowKit Fw Nt
def icI (i : IpV) : IpV := ⟨i.tos, 0, false, false, 0, 64, 1, i.dst, i.src, ⟨#[]⟩⟩
/-- What is told of a datagram: its head and eight bytes. -/
def quote (i : IpV) (body : ByteArray) : ByteArray := (i.put body).1.extract 0 (min (i.put body).1.size (28 + i.o.size))
def unrS (e : EthV) (i : IpV) (body : ByteArray) : ByteArray := datS ⟨e.s, e.d, e.t⟩ (icI i) (icmpS 3 3 0 (quote i body))
theorem quote_le (i : IpV) (body : ByteArray) : (quote i body).size ≤ 68 := by
  unfold quote
  rw [ByteArray.size_extract]
  by_cases h : i.chk = true
  · have h' := h
    unfold IpV.chk at h'
    have := chkI_all h'
    omega
  · have : (i.put body).1.size = 0 := by
      unfold IpV.put putI
      unfold IpV.chk at h
      rw [if_neg h]
      rfl
    omega
theorem put_none (i : IpV) (body : ByteArray) (h : (i.put body).2 ≠ 0) : (i.put body).1 = ⟨#[]⟩ := by
  unfold IpV.put putI at *
  split at h
  · rename_i hc
    split at h
    · rename_i h2
      rw [if_pos hc, if_pos h2]
    · exact absurd rfl h
  · rename_i hc
    rw [if_neg hc]
set_option maxRecDepth 100000 in
set_option maxHeartbeats 8000000 in
theorem unr_walk (e : EthV) (i : IpV) (body : ByteArray) (w : World) (ok : e.Ok) (iok : i.Ok) (hbody : body.size ≤ 1000000000000000) : Calls Try.prog 27 #[.agg e.cs.toArray, .agg i.cs.toArray, .string body] w fun e' w' => e' = .returned (.string (unrS e i body)) ∧ Mv (fun _ => False) w w' := by
  obtain ⟨f, hf⟩ : ∃ f : Nat → Int, f = fun j : Nat => bt e.d (j : Int) := ⟨_, rfl⟩
  obtain ⟨g, hg⟩ : ∃ g : Nat → Int, g = fun j : Nat => bt e.s (j : Int) := ⟨_, rfl⟩
  have hcs : e.cs = ecs f g e.t := by rw [hf, hg]; exact EthV.ecs ok
  have hcs2 : ecs g f e.t = (EthV.mk e.s e.d e.t).cs := by rw [hf, hg]; exact (EthV.ecs (h := ⟨e.s, e.d, e.t⟩) ⟨ok.s, ok.d⟩).symm
  rw [hcs]
  have oko := iok.o
  refine calls_W (n := 48) (vs := [.agg (ecs f g e.t).toArray, .agg i.cs.toArray, .string body]) Try.func27 rfl rfl rfl ?_
  refine W.seq (W.list ?_)
  refine Ls.box rfl rfl rfl rfl rfl (vs := ecs f g e.t) rfl ?_
  have hb1 : BX (w.alloc (.cells (ecs f g e.t).toArray 33)) w.heap.size 33 (ecs f g e.t) := heap_alloc_new w (.cells (ecs f g e.t).toArray 33)
  have m1 : Mv (fun _ => False) w (w.alloc (.cells (ecs f g e.t).toArray 33)) := (Mv.refl _ w).alloc _
  generalize w.alloc (.cells (ecs f g e.t).toArray 33) = w1 at hb1 m1
  generalize w.heap.size = p at hb1
  refine Ls.box rfl rfl rfl rfl rfl (vs := i.cs) rfl ?_
  have hq2 : BX (w1.alloc (.cells i.cs.toArray 28)) w1.heap.size 28 i.cs := heap_alloc_new w1 (.cells i.cs.toArray 28)
  have m2 : Mv (fun _ => False) w1 (w1.alloc (.cells i.cs.toArray 28)) := (Mv.refl _ w1).alloc _
  generalize w1.alloc (.cells i.cs.toArray 28) = w2 at hq2 m2
  generalize w1.heap.size = q at hq2
  have hb2 := hb1.moved m2 fun e => e
  have m2 := m1.trans m2
  apply Ls.runK LO [2, 3, 4] 1
  · repeat' (first | rfl | with_reducible assumption | assumption | constructor)
  intro w3 f3 s3 hf3
  replace hf3 : f3 = [(2, _), (3, _), (4, _)] := hf3
  subst hf3
  refine Ls.nil (N.to ?_)
  have m3 := m2.same s3
  have hb3 := hb2.same s3
  have hq3 := hq2.same s3
  clear m1 m2 hb1 hb2 hq2 s3
  refine W.seq (W.list ?_)
  have hc : CellsAt w3 q 0 10 i.cs := hq3.cells
  apply Ls.runK LO [3, 4, 12, 13] 2
  · repeat' (first | rfl | with_reducible assumption | assumption | constructor)
  intro w4 f4 s4 hf4
  replace hf4 : f4 = [(3, _), (4, _), (12, _), (13, _)] := hf4
  subst hf4
  refine Ls.call LO rfl rfl rfl rfl rfl (vs := [.agg i.cs.toArray, .string body]) rfl (iput_walk i body w4 iok hbody) ?_
  rintro _ w5 ⟨rfl, m5⟩
  refine ⟨_, rfl, ?_⟩
  obtain ⟨r, hr⟩ : ∃ r, r = i.put body := ⟨_, rfl⟩
  have hno := put_none i body
  have hql := quote_le i body
  unfold quote at hql
  rw [← hr] at hno hql
  rw [← hr]
  apply Ls.runK LO [3, 4, 7, 8] 5
  · repeat' (first | rfl | with_reducible assumption | assumption | constructor)
  intro w6 f6 s6 hf6
  replace hf6 : f6 = [(3, _), (4, _), (7, _), (8, _)] := hf6
  subst hf6
  refine Ls.nil (N.to ?_)
  have m6 := ((m3.same s4).trans m5).same s6
  have hb6 := ((hb3.same s4).moved m5 fun e => e).same s6
  have hq6 := ((hq3.same s4).moved m5 fun e => e).same s6
  clear m3 hb3 hq3 hc s4 m5 s6
  refine W.cutS (fun w' g_ => (Mv (fun _ => False) w w' ∧ BX w' p 33 (ecs f g e.t) ∧ BX w' q 28 i.cs) ∧ g_ = [(3, .pointer (some ⟨p, 0, none⟩)), (4, .pointer (some ⟨q, 0, none⟩)), (7, .string r.1)]) ?_ ?_
  · by_cases h0 : r.2 = 0
    · have k1 : Kn (r.2 != 0) false := .of (by rw [h0]; rfl)
      apply W.readS LO mixed [3, 4, 7, 18] (by kernel_rfl)
      · repeat' (first | rfl | with_reducible assumption | assumption | constructor)
      intro w7 f7 s7 hf7
      replace hf7 : f7 = [(3, _), (4, _), (7, _), (18, _)] := hf7
      subst hf7
      refine W.cond (b := false) rfl (fun h => by cases h) (fun _ => W.skip ?_)
      exact N.cut ⟨⟨m6.same s7, hb6.same s7, hq6.same s7⟩, rfl⟩ (sub_keys rfl)
    · have k1 : Kn (r.2 != 0) true := .of (by rw [bne_iff_ne]; exact h0)
      rw [hno h0]
      apply W.readS LO mixed [3, 4, 18] (by kernel_rfl)
      · repeat' (first | rfl | with_reducible assumption | assumption | constructor)
      intro w7 f7 s7 hf7
      replace hf7 : f7 = [(3, _), (4, _), (18, _)] := hf7
      subst hf7
      refine W.cond (b := true) rfl (fun _ => ?_) (fun h => by cases h)
      apply W.readN LO mixed [3, 4, 7] (by kernel_rfl)
      · repeat' (first | rfl | with_reducible assumption | assumption | constructor)
      intro w8 f8 s8 hf8
      replace hf8 : f8 = [(3, _), (4, _), (7, _)] := hf8
      subst hf8
      exact N.cut ⟨⟨(m6.same s7).same s8, (hb6.same s7).same s8, (hq6.same s7).same s8⟩, rfl⟩ (sub_keys rfl)
  clear m6 hb6 hq6
  rintro w7 _ ⟨⟨m7, hb7, hq7⟩, rfl⟩
  -- the message
  have hL : ∃ L : Nat, L = min r.1.size (28 + i.o.size) := ⟨_, rfl⟩
  obtain ⟨L, hL⟩ := hL
  rw [← hL] at hql
  have hLs : L ≤ r.1.size := by omega
  have d9 : Cl w7 ⟨q, 0 + 9, none⟩ (.string i.o) := hq7.cl rfl
  have k1 : Kn (IntKind.i64.wrap (20 + (i.o.size : Int))) ((20 + i.o.size : Nat) : Int) := .of (by rw [show 20 + (i.o.size : Int) = ((20 + i.o.size : Nat) : Int) by omega]; exact IntWalk.i64_in _ (by omega))
  have k2 : Kn (IntKind.i64.wrap (((20 + i.o.size : Nat) : Int) + 8)) ((28 + i.o.size : Nat) : Int) := .of (by rw [show ((20 + i.o.size : Nat) : Int) + 8 = ((28 + i.o.size : Nat) : Int) by omega]; exact IntWalk.i64_in _ (by omega))
  have k3 : Kn (if ((28 + i.o.size : Nat) : Int) < (r.1.size : Int) then ((28 + i.o.size : Nat) : Int) else (r.1.size : Int)) (L : Int) := .of (by split <;> omega)
  have l0 : (0 : Int) ≤ (L : Int) := by omega
  have l1 : (L : Int) ≤ (r.1.size : Int) := by omega
  refine W.seq (W.list ?_)
  apply Ls.runK LO [3, 4, 20, 30] 11
  · repeat' (first | rfl | with_reducible assumption | assumption | constructor)
  intro w8 f8 s8 hf8
  replace hf8 : f8 = [(3, _), (4, _), (20, _), (30, _)] := hf8
  subst hf8
  rw [Int.toNat_natCast]
  obtain ⟨M, hM⟩ : ∃ M, M = r.1.extract 0 L := ⟨_, rfl⟩
  rw [← hM] at hql
  rw [← hM]
  have hb8 := hb7.same s8
  have hq8 := hq7.same s8
  have m8 := m7.same s8
  refine Ls.call LO rfl rfl rfl rfl rfl (vs := [.agg (dgC 3 3 0).toArray, .string M]) rfl (cput_walk 3 3 0 M w8 (by decide) (by decide) (by decide) (by omega)) ?_
  rintro _ w9 ⟨rfl, m9⟩
  refine ⟨_, rfl, ?_⟩
  have hb9 := hb8.moved m9 fun e => e
  have hq9 := hq8.moved m9 fun e => e
  have m9 := m8.trans m9
  obtain ⟨I, hI⟩ : ∃ I, I = icmpS 3 3 0 M := ⟨_, rfl⟩
  have hIs : I.size ≤ 1000 := by rw [hI, icmpS_size]; omega
  have eU : unrS e i body = datS ⟨e.s, e.d, e.t⟩ (icI i) I := by unfold unrS quote; rw [← hr, ← hL, ← hM, ← hI]
  rw [← hI]
  apply Ls.runK LO [3, 4, 8, 9] 5
  · repeat' (first | rfl | with_reducible assumption | assumption | constructor)
  intro w10 f10 s10 hf10
  replace hf10 : f10 = [(3, _), (4, _), (8, _), (9, _)] := hf10
  subst hf10
  refine Ls.nil (N.to ?_)
  have m10 := m9.same s10
  have hb10 := hb9.same s10
  have hq10 := hq9.same s10
  clear m7 hb7 hq7 d9 k1 k2 k3 s8 m8 hb8 hq8 m9 hb9 hq9 s10
  have k0 : Kn ((0 : Int) != 0) false := .of rfl
  refine W.seq ?_
  apply W.readS LO mixed [3, 4, 9, 35] (by kernel_rfl)
  · repeat' (first | rfl | with_reducible assumption | assumption | constructor)
  intro w11 f11 s11 hf11
  replace hf11 : f11 = [(3, _), (4, _), (9, _), (35, _)] := hf11
  subst hf11
  refine W.cond (b := false) rfl (fun h => by cases h) (fun _ => W.skip (N.to ?_))
  have m11 := m10.same s11
  have hb11 := hb10.same s11
  have hq11 := hq10.same s11
  -- turned round
  refine W.seq (W.list ?_)
  have c1 : CellsAt w11 p 0 13 (ecs f g e.t) := hb11.cells
  have c2 : CellsAt w11 q 0 10 i.cs := hq11.cells
  apply Ls.runK LO [9, 38] 3
  · repeat' (first | rfl | with_reducible assumption | assumption | constructor)
  intro w12 f12 s12 hf12
  replace hf12 : f12 = [(9, _), (38, _)] := hf12
  subst hf12
  refine Ls.call LO rfl rfl rfl rfl rfl (vs := [.agg (two f g e.t i).toArray]) rfl (back_walk f g e.t i w12) ?_
  rintro _ w13 ⟨rfl, m13⟩
  refine ⟨_, rfl, ?_⟩
  have m13 := (m11.same s12).trans m13
  clear m10 hb10 hq10 k0 s11 m11 hb11 hq11 c1 c2 s12
  refine Ls.alloc LO rfl rfl rfl rfl (zs := two e0 e0 0 ipN) rfl ?_
  have hx14 : BX (w13.alloc (.cells (two e0 e0 0 ipN).toArray 65)) w13.heap.size 65 (two e0 e0 0 ipN) := heap_alloc_new w13 (.cells (two e0 e0 0 ipN).toArray 65)
  have m14 : Mv (fun _ => False) w13 (w13.alloc (.cells (two e0 e0 0 ipN).toArray 65)) := (Mv.refl _ w13).alloc _
  generalize w13.alloc (.cells (two e0 e0 0 ipN).toArray 65) = w14 at hx14 m14
  have hz13 := m13.size
  obtain ⟨x, hx⟩ : ∃ x, x = w13.heap.size := ⟨_, rfl⟩
  rw [← hx] at hx14 hz13
  rw [← hx]
  refine Ls.store LO rfl rfl rfl rfl rfl (vs := two g f e.t i.back) rfl rfl rfl hx14 rfl ?_
  intro w15 hx15 m15 _
  have hx15 : BX w15 x 65 (two g f e.t i.back) := hx15
  have m15 : Mv (fun _ => False) w w15 := (m13.trans m14).cut m15 fun k hk e => by omega
  refine Ls.nil (N.to ?_)
  refine W.seq (W.list ?_)
  apply Ls.runK LO [9, 10, 41] 2
  · repeat' (first | rfl | with_reducible assumption | assumption | constructor)
  intro w16 f16 s16 hf16
  replace hf16 : f16 = [(9, _), (10, _), (41, _)] := hf16
  subst hf16
  refine Ls.store LO rfl rfl rfl rfl rfl (vs := [.int .i64 1]) rfl rfl rfl (hx15.same s16) rfl ?_
  intro w17 hx17 m17 _
  have hx17 : BX w17 x 65 (two g f e.t (icI i)) := hx17
  have m17 : Mv (fun _ => False) w w17 := (m15.same s16).cut m17 fun k hk e => by omega
  refine Ls.nil (N.to ?_)
  clear m13 hx14 m14 hx hx15 m15 s16
  refine W.seq (W.list ?_)
  have c1 : CellsAt w17 x 0 13 (ecs g f e.t) := hx17.part (x := []) (y := ecs g f e.t) (z := (icI i).cs) rfl rfl rfl
  have c2 : CellsAt w17 x 13 10 (icI i).cs := hx17.part (x := ecs g f e.t) (y := (icI i).cs) (z := []) rfl rfl rfl
  apply Ls.runK LO [43, 45, 46] 5
  · repeat' (first | rfl | with_reducible assumption | assumption | constructor)
  intro w18 f18 s18 hf18
  replace hf18 : f18 = [(43, _), (45, _), (46, _)] := hf18
  subst hf18
  refine Ls.call LO rfl rfl rfl rfl rfl (vs := [.agg (ecs g f e.t).toArray, .agg (icI i).cs.toArray, .string I]) rfl (dat_walk ⟨e.s, e.d, e.t⟩ (icI i) I w18 ⟨ok.s, ok.d⟩ ⟨iok.dst, iok.src, Nat.zero_le _⟩ (by omega) hcs2) ?_
  rintro _ w19 ⟨rfl, m19⟩
  refine ⟨_, rfl, ?_⟩
  rw [← eU]
  apply Ls.runK LO [6] 1
  · repeat' (first | rfl | with_reducible assumption | assumption | constructor)
  intro w20 f20 s20 hf20
  replace hf20 : f20 = [(6, _)] := hf20
  subst hf20
  exact Ls.nil (N.to (W.ret (post LO (rs := [.tmp 6]) rfl (vs := [.string (unrS e i body)]) (.tmp rfl .nil) ⟨rfl, ((m17.same s18).trans m19).same s20⟩)))
end Go.Proofs.Ytbidgeaigiijpaa
