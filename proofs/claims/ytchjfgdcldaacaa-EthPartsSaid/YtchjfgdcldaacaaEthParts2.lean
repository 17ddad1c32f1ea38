/- What is proved: a frame's bytes stand in their places: the law's walk. Conditions: those that stand in each theorem. -/
import Derived.Test.YtchjfgdcldaacaaEthParts1
import Derived.OpenShut
namespace Go.Proofs.Ytchjfgdcldaacaa
set_option linter.unusedVariables false
set_option linter.unusedSimpArgs false
set_option linter.unusedSectionVars false
open Go.RowKit Fw Nt
def aw1 : ByteArray := ⟨#[48, 49, 50, 51, 52, 53, 54, 55, 56, 57, 48, 49, 50]⟩
def aw2 : ByteArray := ⟨#[100, 100, 100, 100, 100, 100, 115, 115, 115, 115, 115, 115, 8, 0, 120]⟩
def awH : EthV := ⟨aw2.extract 0 6, aw2.extract 6 12, numOf (aw2.extract 12 14)⟩
theorem aw1_get : getE aw1 = (E0, ⟨#[]⟩, 2) := rfl
theorem aw2_get : getE aw2 = (awH, aw2.extract 14 aw2.size, 0) := rfl
theorem awH_ok : awH.Ok := ⟨by decide +kernel, by decide +kernel⟩
theorem aw_x : ((aw2.extract 14 aw2.size).toList == (⟨#[120]⟩ : ByteArray).toList) = true := by decide +kernel
theorem aw_t : (awH.t == 2048) = true := by decide +kernel
theorem aw_d : (bt awH.d ((0 : Nat) : Int) == 100) = true := by decide +kernel
theorem aw_s : (bt awH.s ((5 : Nat) : Int) == 115) = true := by decide +kernel
set_option maxRecDepth 100000 in
set_option maxHeartbeats 4000000 in
theorem awake2_walk (w : World) : Calls Try.prog 14 #[] w (Yes w) := by
  refine calls_W (n := 44) (vs := []) Try.func14 rfl rfl rfl ?_
  apply W.readS LO mixed [] (by kernel_rfl)
  · repeat' (first | rfl | with_reducible assumption | assumption | constructor)
  intro w1 f1 s1 hf1
  replace hf1 : f1 = [] := hf1
  subst hf1
  have m1 : Mv (fun _ => False) w w1 := (Mv.refl _ w).same s1
  clear s1
  -- the first
  refine W.seq (W.list ?_)
  refine Ls.call LO rfl rfl rfl rfl rfl (vs := [.string aw1]) rfl (eget_walk aw1 w1 (by decide +kernel)) ?_
  rintro _ w2 ⟨rfl, m2⟩
  rw [aw1_get]
  have m2 := m1.trans m2
  refine ⟨_, rfl, ?_⟩
  apply Ls.runK LO [9, 10, 11] 4
  · repeat' (first | rfl | with_reducible assumption | assumption | constructor)
  intro w3 f3 s3 hf3
  replace hf3 : f3 = [(9, _), (10, _), (11, _)] := hf3
  subst hf3
  have m3 := m2.same s3
  refine Ls.alloc LO rfl rfl rfl rfl (zs := E0.cs) rfl ?_
  have hb4 : BX (w3.alloc (.cells E0.cs.toArray 26)) w3.heap.size 26 E0.cs := heap_alloc_new w3 (.cells E0.cs.toArray 26)
  have m4 : Mv (fun _ => False) w3 (w3.alloc (.cells E0.cs.toArray 26)) := (Mv.refl _ w3).alloc _
  generalize w3.alloc (.cells E0.cs.toArray 26) = w4 at hb4 m4
  refine Ls.store LO rfl rfl rfl rfl rfl (vs := E0.cs) rfl rfl rfl hb4 rfl ?_
  intro w5 _ m5 _
  have m5 : Mv (fun _ => False) w w5 := m3.trans (m4.cut m5 fun k hk e => by omega)
  apply Ls.runK LO [3] 2
  · repeat' (first | rfl | with_reducible assumption | assumption | constructor)
  intro w6 f6 s6 hf6
  replace hf6 : f6 = [(3, _)] := hf6
  subst hf6
  refine Ls.nil (N.to ?_)
  have m6 := m5.same s6
  clear m2 m3 m4 m5 s3 s6 hb4
  -- the second
  refine W.seq (W.list ?_)
  refine Ls.call LO rfl rfl rfl rfl rfl (vs := [.string aw2]) rfl (eget_walk aw2 w6 (by decide +kernel)) ?_
  rintro _ w2 ⟨rfl, m2⟩
  rw [aw2_get]
  have m2 := m6.trans m2
  refine ⟨_, rfl, ?_⟩
  apply Ls.runK LO [3, 14, 15, 16] 4
  · repeat' (first | rfl | with_reducible assumption | assumption | constructor)
  intro w3 f3 s3 hf3
  replace hf3 : f3 = [(3, _), (14, _), (15, _), (16, _)] := hf3
  subst hf3
  have m3 := m2.same s3
  refine Ls.alloc LO rfl rfl rfl rfl (zs := E0.cs) rfl ?_
  have hb4 : BX (w3.alloc (.cells E0.cs.toArray 26)) w3.heap.size 26 E0.cs := heap_alloc_new w3 (.cells E0.cs.toArray 26)
  have m4 : Mv (fun _ => False) w3 (w3.alloc (.cells E0.cs.toArray 26)) := (Mv.refl _ w3).alloc _
  generalize w3.alloc (.cells E0.cs.toArray 26) = w4 at hb4 m4
  obtain ⟨p, hp⟩ : ∃ p, p = w3.heap.size := ⟨_, rfl⟩
  rw [← hp] at hb4
  rw [← hp]
  refine Ls.store LO rfl rfl rfl rfl rfl (vs := awH.cs) rfl (by rw [awH_ok.len]; rfl) (EthV.one awH) hb4 (by rw [awH_ok.len]; rfl) ?_
  intro w5 hb5 m5 _
  have hb5 : BX w5 p 26 awH.cs := by
    have e : wr E0.cs 0 awH.cs = awH.cs := by
      have := wr_mid [] E0.cs [] awH.cs (k := 0) rfl (by rw [awH_ok.len]; rfl)
      simpa using this
    rw [e] at hb5
    exact hb5
  have m5 : Mv (fun _ => False) w w5 := m3.trans (m4.cut m5 fun k hk e => by omega)
  apply Ls.runK LO [3, 4, 5, 6] 2
  · repeat' (first | rfl | with_reducible assumption | assumption | constructor)
  intro w6 f6 s6' hf6
  replace hf6 : f6 = [(3, _), (4, _), (5, _), (6, _)] := hf6
  subst hf6
  refine Ls.nil (N.to ?_)
  have m6 := m5.same s6'
  have hb6 := hb5.same s6'
  clear m2 m3 m4 m5 s3 s6' hb4 hb5
  -- what is asked
  have d1 : Cl w6 ⟨p, 0 + 12, none⟩ (.int .i64 awH.t) := hb6.cl (EthV.at_t awH_ok)
  have d2 : Cl w6 ⟨p, 0 + 0 + (0 : Int).toNat * 1, none⟩ (.int .u8 (bt awH.d ((0 : Nat) : Int))) := hb6.cl (EthV.at_d awH_ok (j := 0) (by decide))
  have d3 : Cl w6 ⟨p, 0 + 6 + (5 : Int).toNat * 1, none⟩ (.int .u8 (bt awH.s ((5 : Nat) : Int))) := hb6.cl (EthV.at_s awH_ok (j := 5) (by decide))
  have k1 : Kn (awH.t == 2048) true := .of aw_t
  have k2 : Kn ((aw2.extract 14 aw2.size).toList == (⟨#[120]⟩ : ByteArray).toList) true := .of aw_x
  have k3 : Kn (bt awH.d ((0 : Nat) : Int) == 100) true := .of aw_d
  have k4 : Kn (bt awH.s ((5 : Nat) : Int) == 115) true := .of aw_s
  have g0 : (0 : Int) ≤ 0 := by decide
  have g1 : (0 : Int) < ((6 : Nat) : Int) := by decide
  have g2 : (0 : Int) ≤ 5 := by decide
  have g3 : (5 : Int) < ((6 : Nat) : Int) := by decide
  apply W.readS LO mixed [0] (by kernel_rfl)
  · repeat' (first | rfl | with_reducible assumption | assumption | constructor)
  intro w7 f7 s7 hf7
  replace hf7 : f7 = [(0, _)] := hf7
  subst hf7
  exact W.ret (post LO (rs := [.tmp 0]) rfl (vs := [.bool true]) (.tmp rfl .nil) ⟨rfl, m6.same s7⟩)
end Go.Proofs.Ytchjfgdcldaacaa
