/- What is proved: the wall makes a reset that is got again (awake). Conditions: those that stand in each theorem. -/
import Derived.Test.YtbidgeaigiijpaaNetCr3
namespace Go.Proofs.Ytbidgeaigiijpaa
set_option linter.unusedVariables false
set_option linter.unusedSimpArgs false
set_option linter.unusedSectionVars false
open Go.RowKit Fw Nt
theorem eget_as {s b : ByteArray} {e : EthV} {x : Int} {cs : List Value} (w : World) (hs : s.size ≤ 4611686018427387904) (h : getE s = (e, b, x)) (hc : e.cs = cs) : Calls Try.prog 11 #[.string s] w fun e' w' => e' = .returned (.tuple #[.agg cs.toArray, .string b, .int .i64 x]) ∧ Mv (fun _ => False) w w' := by
  have := eget_walk s w hs
  rw [h] at this
  subst hc
  exact this
theorem iget_as {s b : ByteArray} {i : IpV} {x : Int} (w : World) (hs : s.size ≤ 1000000000000000) (h : gotOf (getI s) = (i, b, x)) : Calls Try.prog 12 #[.string s] w fun e' w' => e' = .returned (.tuple #[.agg i.cs.toArray, .string b, .int .i64 x]) ∧ Mv (fun _ => False) w w' := by
  have := iget_walk s w hs
  rw [h] at this
  exact this
theorem tget_as {s b : ByteArray} {g : SegV} {p q x : Int} (w : World) (hp : 0 ≤ p ∧ p ≤ 4294967295) (hq : 0 ≤ q ∧ q ≤ 4294967295) (hs : s.size ≤ 1000000000000000) (h : gotT (getT p q s) = (g, b, x)) : Calls Try.prog 13 #[.int .u32 p, .int .u32 q, .string s] w fun e' w' => e' = .returned (.tuple #[.agg g.cs.toArray, .string b, .int .i64 x]) ∧ Mv (fun _ => False) w w' := by
  have := tget_walk p q s w hp hq hs
  rw [h] at this
  exact this
def ethB : EthV := ⟨eth0.s, eth0.d, 2048⟩
theorem ethB_cs : ethB.cs = ecs (e5 1) (e5 2) 2048 := by
  unfold ethB EthV.cs eth0 bcs ecs
  rfl
def ipB : IpV := ⟨0, 0, false, false, 0, 64, 6, 167772162, 167772161, ⟨#[]⟩⟩
def segA : SegV := ⟨80, 5, 7, 9, 20, 0, ⟨#[]⟩⟩
set_option maxRecDepth 100000 in
set_option maxHeartbeats 8000000 in
theorem awake_walk (w : World) : Calls Try.prog 14 #[] w (Yes w) := by
  refine calls_W (n := 71) (vs := []) Try.func14 rfl rfl rfl ?_
  apply W.readS LO mixed [] (by kernel_rfl)
  · repeat' (first | rfl | with_reducible assumption | assumption | constructor)
  intro w1 f1 s1 hf1
  replace hf1 : f1 = [] := hf1
  subst hf1
  have m1 : Mv (fun _ => False) w w1 := (Mv.refl _ w).same s1
  refine W.seq (W.list ?_)
  refine Ls.call LO rfl rfl rfl rfl rfl (vs := [.int .i64 0]) rfl (leth_walk w1) ?_
  rintro _ w2 ⟨rfl, m2⟩
  have m2 := m1.trans m2
  refine ⟨_, rfl, ?_⟩
  refine Ls.call LO rfl rfl rfl rfl rfl (vs := [.int .i64 0, .int .i64 6]) rfl (lip_walk 6 w2) ?_
  rintro _ w3 ⟨rfl, m3⟩
  have m3 := m2.trans m3
  refine ⟨_, rfl, ?_⟩
  apply Ls.runK LO [10, 11, 12] 1
  · repeat' (first | rfl | with_reducible assumption | assumption | constructor)
  intro w4 f4 s4 hf4
  replace hf4 : f4 = [(10, _), (11, _), (12, _)] := hf4
  subst hf4
  have m4 := m3.same s4
  refine Ls.call LO rfl rfl rfl rfl rfl (vs := [.agg eth0.cs.toArray, .agg (ipOf 6).cs.toArray, .agg (SegV.mk 5 80 0 0 0 0 ⟨#[]⟩).cs.toArray, .int .u32 7, .int .u32 9, .bool true]) rfl (reset_walk eth0 (ipOf 6) ⟨5, 80, 0, 0, 0, 0, ⟨#[]⟩⟩ 7 9 true w4 eth0_ok ⟨by decide, by decide, by decide⟩ (by decide) (by decide)) ?_
  rintro _ w5 ⟨rfl, m5⟩
  have m5 := m4.trans m5
  refine ⟨_, rfl, ?_⟩
  have hS : resetS eth0 (ipOf 6) ⟨5, 80, 0, 0, 0, 0, ⟨#[]⟩⟩ 7 9 true = segS ethB ipB segA ⟨#[]⟩ := rfl
  rw [hS]
  have kc : ipB.chk = true := by decide
  have kh : segA.chk = true := by decide
  obtain ⟨b1, b2, g1, g2, g3, hz, z1, z2⟩ := seg_round (e := ethB) (i := ipB) (h := segA) (body := ⟨#[]⟩) ⟨rfl, rfl⟩ (by decide) (by decide) kc ⟨by decide, by decide, by decide⟩ kh ⟨by decide, by decide, by decide⟩ (by decide)
  obtain ⟨s, hs⟩ : ∃ s, s = segS ethB ipB segA ⟨#[]⟩ := ⟨_, rfl⟩
  rw [← hs] at g1 hz
  rw [← hs]
  have hz54 : s.size ≤ 1000 := by rw [hz]; decide
  apply Ls.runK LO [1] 1
  · repeat' (first | rfl | with_reducible assumption | assumption | constructor)
  intro w6 f6 s6 hf6
  replace hf6 : f6 = [(1, _)] := hf6
  subst hf6
  have m6 := m5.same s6
  refine Ls.nil (N.to ?_)
  clear m1 m2 m3 m4 m5 s1 s4 s6 hz hS hs
  -- the frame
  refine W.seq (W.list ?_)
  apply Ls.runK LO [15] 1
  · repeat' (first | rfl | with_reducible assumption | assumption | constructor)
  intro w7 f7 s7 hf7
  replace hf7 : f7 = [(15, _)] := hf7
  subst hf7
  refine Ls.call LO rfl rfl rfl rfl rfl (vs := [.string s]) rfl (eget_as w7 (by omega) g1 ethB_cs) ?_
  rintro _ w8 ⟨rfl, m8⟩
  have m8 := (m6.same s7).trans m8
  refine ⟨_, rfl, ?_⟩
  apply Ls.runK LO [17, 18, 19] 4
  · repeat' (first | rfl | with_reducible assumption | assumption | constructor)
  intro w9 f9 s9 hf9
  replace hf9 : f9 = [(17, _), (18, _), (19, _)] := hf9
  subst hf9
  refine Ls.alloc LO rfl rfl rfl rfl (zs := ecs e0 e0 0) rfl ?_
  have hx10 : BX (w9.alloc (.cells (ecs e0 e0 0).toArray 33)) w9.heap.size 33 (ecs e0 e0 0) := heap_alloc_new w9 (.cells (ecs e0 e0 0).toArray 33)
  have m10 : Mv (fun _ => False) w9 (w9.alloc (.cells (ecs e0 e0 0).toArray 33)) := (Mv.refl _ w9).alloc _
  generalize w9.alloc (.cells (ecs e0 e0 0).toArray 33) = w10 at hx10 m10
  have m9 := m8.same s9
  have hz9 := m9.size
  obtain ⟨x, hx⟩ : ∃ x, x = w9.heap.size := ⟨_, rfl⟩
  rw [← hx] at hx10 hz9
  rw [← hx]
  refine Ls.store LO rfl rfl rfl rfl rfl (vs := ecs (e5 1) (e5 2) 2048) rfl rfl rfl hx10 rfl ?_
  intro w11 hx11 m11 _
  have m11 : Mv (fun _ => False) w w11 := (m9.trans m10).cut m11 fun k hk e => by omega
  apply Ls.runK LO [3, 4] 2
  · repeat' (first | rfl | with_reducible assumption | assumption | constructor)
  intro w12 f12 s12 hf12
  replace hf12 : f12 = [(3, _), (4, _)] := hf12
  subst hf12
  have m12 := m11.same s12
  refine Ls.nil (N.to ?_)
  clear m6 s7 m8 s9 hx10 m10 m9 hz9 hx hx11 m11 s12
  -- the datagram
  refine W.seq (W.list ?_)
  apply Ls.runK LO [4, 21] 1
  · repeat' (first | rfl | with_reducible assumption | assumption | constructor)
  intro w7 f7 s7 hf7
  replace hf7 : f7 = [(4, _), (21, _)] := hf7
  subst hf7
  refine Ls.call LO rfl rfl rfl rfl rfl (vs := [.string b1]) rfl (iget_as w7 (by omega) g2) ?_
  rintro _ w8 ⟨rfl, m8⟩
  have m8 := (m12.same s7).trans m8
  refine ⟨_, rfl, ?_⟩
  apply Ls.runK LO [4, 23, 24, 25] 4
  · repeat' (first | rfl | with_reducible assumption | assumption | constructor)
  intro w9 f9 s9 hf9
  replace hf9 : f9 = [(4, _), (23, _), (24, _), (25, _)] := hf9
  subst hf9
  refine Ls.alloc LO rfl rfl rfl rfl (zs := ipN.cs) rfl ?_
  have hx10 : BX (w9.alloc (.cells ipN.cs.toArray 28)) w9.heap.size 28 ipN.cs := heap_alloc_new w9 (.cells ipN.cs.toArray 28)
  have m10 : Mv (fun _ => False) w9 (w9.alloc (.cells ipN.cs.toArray 28)) := (Mv.refl _ w9).alloc _
  generalize w9.alloc (.cells ipN.cs.toArray 28) = w10 at hx10 m10
  have m9 := m8.same s9
  have hz9 := m9.size
  obtain ⟨x, hx⟩ : ∃ x, x = w9.heap.size := ⟨_, rfl⟩
  rw [← hx] at hx10 hz9
  rw [← hx]
  refine Ls.store LO rfl rfl rfl rfl rfl (vs := ipB.cs) rfl rfl rfl hx10 rfl ?_
  intro w11 hx11 m11 _
  have hx11 : BX w11 x 28 ipB.cs := hx11
  have m11 : Mv (fun _ => False) w w11 := (m9.trans m10).cut m11 fun k hk e => by omega
  apply Ls.runK LO [3, 4, 5, 6] 2
  · repeat' (first | rfl | with_reducible assumption | assumption | constructor)
  intro w12 f12 s12 hf12
  replace hf12 : f12 = [(3, _), (4, _), (5, _), (6, _)] := hf12
  subst hf12
  have m12 := m11.same s12
  have hx12 := hx11.same s12
  refine Ls.nil (N.to ?_)
  clear s7 m8 s9 hx10 m10 m9 hz9 hx hx11 m11 s12
  -- the segment
  refine W.seq (W.list ?_)
  have d7 : Cl w12 ⟨x, 0 + 7, none⟩ (.int .u32 167772162) := hx12.cl rfl
  have d8 : Cl w12 ⟨x, 0 + 8, none⟩ (.int .u32 167772161) := hx12.cl rfl
  apply Ls.runK LO [4, 5, 6, 28, 30, 31] 5
  · repeat' (first | rfl | with_reducible assumption | assumption | constructor)
  intro w7 f7 s7 hf7
  replace hf7 : f7 = [(4, _), (5, _), (6, _), (28, _), (30, _), (31, _)] := hf7
  subst hf7
  refine Ls.call LO rfl rfl rfl rfl rfl (vs := [.int .u32 167772162, .int .u32 167772161, .string b2]) rfl (tget_as w7 (by decide) (by decide) (by omega) g3) ?_
  rintro _ w8 ⟨rfl, m8'⟩
  have hx8 := (hx12.same s7).moved m8' fun e => e
  have m8 := (m12.same s7).trans m8'
  refine ⟨_, rfl, ?_⟩
  apply Ls.runK LO [4, 5, 6, 33, 34, 35] 4
  · repeat' (first | rfl | with_reducible assumption | assumption | constructor)
  intro w9 f9 s9 hf9
  replace hf9 : f9 = [(4, _), (5, _), (6, _), (33, _), (34, _), (35, _)] := hf9
  subst hf9
  have hx9 := hx8.same s9
  refine Ls.alloc LO rfl rfl rfl rfl (zs := segZ.cs) rfl ?_
  have hy10 : BX (w9.alloc (.cells segZ.cs.toArray 26)) w9.heap.size 26 segZ.cs := heap_alloc_new w9 (.cells segZ.cs.toArray 26)
  have m10 : Mv (fun _ => False) w9 (w9.alloc (.cells segZ.cs.toArray 26)) := (Mv.refl _ w9).alloc _
  generalize w9.alloc (.cells segZ.cs.toArray 26) = w10 at hy10 m10
  have m9 := m8.same s9
  have hz9 := m9.size
  have hxl := hx9.lt
  obtain ⟨y, hy⟩ : ∃ y, y = w9.heap.size := ⟨_, rfl⟩
  rw [← hy] at hy10 hz9 hxl
  rw [← hy]
  refine Ls.store LO rfl rfl rfl rfl rfl (vs := segA.cs) rfl rfl rfl hy10 rfl ?_
  intro w11 hy11 m11 _
  have hy11 : BX w11 y 26 segA.cs := hy11
  have hx11 := (hx9.moved m10 fun e => e).moved m11 (by omega)
  have m11 : Mv (fun _ => False) w w11 := (m9.trans m10).cut m11 fun k hk e => by omega
  apply Ls.runK LO [4, 5, 6, 7, 9] 2
  · repeat' (first | rfl | with_reducible assumption | assumption | constructor)
  intro w13 f13 s13 hf13
  replace hf13 : f13 = [(4, _), (5, _), (6, _), (7, _), (9, _)] := hf13
  subst hf13
  have m13 := m11.same s13
  have hx13 := hx11.same s13
  have hy13 := hy11.same s13
  refine Ls.nil (N.to ?_)
  clear d7 d8 s7 m8 m8' hx8 s9 hx9 hy10 m10 m9 hz9 hxl hy hy11 hx11 m11 s13
  -- all of it
  have a0 : Cl w13 ⟨y, 0 + 0, none⟩ (.int .i64 80) := hy13.cl rfl
  have a1 : Cl w13 ⟨y, 0 + 1, none⟩ (.int .i64 5) := hy13.cl rfl
  have a4 : Cl w13 ⟨y, 0 + 4, none⟩ (.int .i64 20) := hy13.cl rfl
  have a2 : Cl w13 ⟨y, 0 + 2, none⟩ (.int .u32 7) := hy13.cl rfl
  have a7 : Cl w13 ⟨x, 0 + 7, none⟩ (.int .u32 167772162) := hx13.cl rfl
  have k0 : Kn ((0 : Int) == 0) true := .of rfl
  have k1 : Kn ((80 : Int) == 80) true := .of rfl
  have k2 : Kn ((5 : Int) == 5) true := .of rfl
  have k3 : Kn ((20 : Int) == 20) true := .of rfl
  have k4 : Kn ((7 : Int) == 7) true := .of rfl
  have k5 : Kn ((167772162 : Int) == 167772162) true := .of rfl
  apply W.readS LO mixed [0] (by kernel_rfl)
  · repeat' (first | rfl | with_reducible assumption | assumption | constructor)
  intro w14 f14 s14 hf14
  replace hf14 : f14 = [(0, _)] := hf14
  subst hf14
  exact W.ret (post LO (rs := [.tmp 0]) rfl (vs := [.bool true]) (.tmp rfl .nil) ⟨rfl, m13.same s14⟩)
end Go.Proofs.Ytbidgeaigiijpaa
