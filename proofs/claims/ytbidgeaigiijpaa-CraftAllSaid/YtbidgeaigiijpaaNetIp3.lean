/- What is proved: what is wrong of a datagram: each check, their row. Conditions: those that stand in each theorem. -/
import Derived.Test.YtbidgeaigiijpaaNetIp2
namespace Go.Proofs.Ytbidgeaigiijpaa
set_option linter.unusedVariables false
set_option linter.unusedSimpArgs false
set_option linter.unusedSectionVars false
open Go.RowKit Fw Nt
def ckB (s : ByteArray) : Nat → Bool
  | 0 => decide (s.size < 20)
  | 1 => decide (bt s 0 / 16 ≠ 4 ∨ lenI s < 20)
  | 2 => decide (s.size < lenI s)
  | 3 => decide (allI s < (lenI s : Int))
  | 4 => decide ((s.size : Int) < allI s)
  | 5 => decide (bt s 6 / 128 = 1)
  | 6 => decide (allI s - (lenI s : Int) > 2000)
  | _ => decide (sumOf (s.extract 0 (lenI s)).data.toList ≠ 0)
def ckL : List (Nat × Int) := [(54, 2), (55, 3), (56, 2), (57, 3), (58, 2), (59, 3), (60, 5), (61, 4)]
def Gave (w : World) (v : Value) : Ending → World → Prop := fun e w' => e = .returned v ∧ Mv (fun _ => False) w w'
theorem Says.gave {w : World} {v : Value} {e : Ending} {w' : World} (h : Says w v e w') : Gave w v e w' := ⟨h.1, (Mv.refl _ w).same h.2⟩
set_option maxRecDepth 100000 in
theorem ck1 (s : ByteArray) (w : World) : Calls Try.prog 54 #[.string s] w (Gave w (.bool (ckB s 0))) := by
  refine calls_W (n := 6) (vs := [.string s]) Try.func54 rfl rfl rfl ?_
  apply W.readS LO mixed [0] (by kernel_rfl)
  · repeat' (first | rfl | with_reducible assumption | assumption | constructor)
  intro w1 f1 s1 hf1
  replace hf1 : f1 = [(0, _)] := hf1
  subst hf1
  have k : Kn (decide ((s.size : Int) < 20)) (ckB s 0) := .of (decide_eq_decide.2 (by omega))
  apply W.readS LO mixed [2] (by kernel_rfl)
  · repeat' (first | rfl | with_reducible assumption | assumption | constructor)
  intro w2 f2 s2 hf2
  replace hf2 : f2 = [(2, _)] := hf2
  subst hf2
  exact W.ret (post LO (rs := [.tmp 2]) rfl (vs := [.bool (ckB s 0)]) (.tmp rfl .nil) ⟨rfl, (Mv.refl _ w).same (s1.trans s2)⟩)
set_option maxRecDepth 100000 in
theorem ck2 (s : ByteArray) (w : World) (h : 20 ≤ s.size) : Calls Try.prog 55 #[.string s] w (Gave w (.bool (ckB s 1))) := by
  refine calls_W (n := 12) (vs := [.string s]) Try.func55 rfl rfl rfl ?_
  apply W.readS LO mixed [0] (by kernel_rfl)
  · repeat' (first | rfl | with_reducible assumption | assumption | constructor)
  intro w1 f1 s1 hf1
  replace hf1 : f1 = [(0, _)] := hf1
  subst hf1
  have i0 : (0 : Int) ≤ 0 := by decide
  have i1 : (0 : Int) < (s.size : Int) := by omega
  have hb := bt_range s 0
  have b4 : (0 : Int) ≤ 4 := by decide
  have k1 : Kn ((bt s 0).fdiv (2 ^ (min (4 : Int).toNat IntKind.u8.bits))) (bt s 0 / 16) := fdivk (by decide) rfl
  by_cases h4 : bt s 0 / 16 = 4
  · have k2 : Kn (bt s 0 / 16 != 4) false := .of (by rw [h4]; rfl)
    have q := quiet_of (w := w1) fun w' s' => size_says s w' (by omega)
    have k3 : Kn (decide (((lenI s : Nat) : Int) < 20)) (ckB s 1) := .of (decide_eq_decide.2 (by omega))
    apply W.readS LO mixed [2] (by kernel_rfl)
    · repeat' (first | rfl | with_reducible assumption | assumption | constructor)
    intro w2 f2 s2 hf2
    replace hf2 : f2 = [(2, _)] := hf2
    subst hf2
    exact W.ret (post LO (rs := [.tmp 2]) rfl (vs := [.bool (ckB s 1)]) (.tmp rfl .nil) ⟨rfl, (Mv.refl _ w).same (s1.trans s2)⟩)
  · have k2 : Kn (bt s 0 / 16 != 4) true := .of (by rw [bne_iff_ne]; exact h4)
    have e : ckB s 1 = true := decide_eq_true (.inl h4)
    apply W.readS LO mixed [2] (by kernel_rfl)
    · repeat' (first | rfl | with_reducible assumption | assumption | constructor)
    intro w2 f2 s2 hf2
    replace hf2 : f2 = [(2, _)] := hf2
    subst hf2
    rw [e]
    exact W.ret (post LO (rs := [.tmp 2]) rfl (vs := [.bool true]) (.tmp rfl .nil) ⟨rfl, (Mv.refl _ w).same (s1.trans s2)⟩)
set_option maxRecDepth 100000 in
theorem ck3 (s : ByteArray) (w : World) (h : 20 ≤ s.size) : Calls Try.prog 56 #[.string s] w (Gave w (.bool (ckB s 2))) := by
  refine calls_W (n := 8) (vs := [.string s]) Try.func56 rfl rfl rfl ?_
  apply W.readS LO mixed [0] (by kernel_rfl)
  · repeat' (first | rfl | with_reducible assumption | assumption | constructor)
  intro w1 f1 s1 hf1
  replace hf1 : f1 = [(0, _)] := hf1
  subst hf1
  have q := quiet_of (w := w1) fun w' s' => size_says s w' (by omega)
  have k3 : Kn (decide ((s.size : Int) < ((lenI s : Nat) : Int))) (ckB s 2) := .of (decide_eq_decide.2 (by omega))
  apply W.readS LO mixed [2] (by kernel_rfl)
  · repeat' (first | rfl | with_reducible assumption | assumption | constructor)
  intro w2 f2 s2 hf2
  replace hf2 : f2 = [(2, _)] := hf2
  subst hf2
  exact W.ret (post LO (rs := [.tmp 2]) rfl (vs := [.bool (ckB s 2)]) (.tmp rfl .nil) ⟨rfl, (Mv.refl _ w).same (s1.trans s2)⟩)
set_option maxRecDepth 100000 in
theorem ck4 (s : ByteArray) (w : World) (h : 20 ≤ s.size) : Calls Try.prog 57 #[.string s] w (Gave w (.bool (ckB s 3))) := by
  refine calls_W (n := 8) (vs := [.string s]) Try.func57 rfl rfl rfl ?_
  apply W.readS LO mixed [0] (by kernel_rfl)
  · repeat' (first | rfl | with_reducible assumption | assumption | constructor)
  intro w1 f1 s1 hf1
  replace hf1 : f1 = [(0, _)] := hf1
  subst hf1
  refine W.seq (W.list ?_)
  apply Ls.runK LO [0, 3] 1
  · repeat' (first | rfl | with_reducible assumption | assumption | constructor)
  intro w2 f2 s2 hf2
  replace hf2 : f2 = [(0, _), (3, _)] := hf2
  subst hf2
  refine Ls.call LO rfl rfl rfl rfl rfl (vs := [.string s]) rfl (all_walk s w2 (by omega)) ?_
  rintro _ w3 ⟨rfl, m3⟩
  refine ⟨_, rfl, ?_⟩
  have q := quiet_of (w := w3) fun w' s' => size_says s w' (by omega)
  have k3 : Kn (decide (allI s < ((lenI s : Nat) : Int))) (ckB s 3) := .rfl
  apply Ls.runK LO [2] 4
  · repeat' (first | rfl | with_reducible assumption | assumption | constructor)
  intro w4 f4 s4 hf4
  replace hf4 : f4 = [(2, _)] := hf4
  subst hf4
  exact Ls.nil (N.to (W.ret (post LO (rs := [.tmp 2]) rfl (vs := [.bool (ckB s 3)]) (.tmp rfl .nil) ⟨rfl, (((Mv.refl _ w).same (s1.trans s2)).trans m3).same s4⟩)))
set_option maxRecDepth 100000 in
theorem ck5 (s : ByteArray) (w : World) (h : 20 ≤ s.size) : Calls Try.prog 58 #[.string s] w (Gave w (.bool (ckB s 4))) := by
  refine calls_W (n := 8) (vs := [.string s]) Try.func58 rfl rfl rfl ?_
  apply W.readS LO mixed [0] (by kernel_rfl)
  · repeat' (first | rfl | with_reducible assumption | assumption | constructor)
  intro w1 f1 s1 hf1
  replace hf1 : f1 = [(0, _)] := hf1
  subst hf1
  refine W.seq (W.list ?_)
  apply Ls.runK LO [4, 5] 3
  · repeat' (first | rfl | with_reducible assumption | assumption | constructor)
  intro w2 f2 s2 hf2
  replace hf2 : f2 = [(4, _), (5, _)] := hf2
  subst hf2
  refine Ls.call LO rfl rfl rfl rfl rfl (vs := [.string s]) rfl (all_walk s w2 (by omega)) ?_
  rintro _ w3 ⟨rfl, m3⟩
  refine ⟨_, rfl, ?_⟩
  have k3 : Kn (decide ((s.size : Int) < allI s)) (ckB s 4) := .rfl
  apply Ls.runK LO [2] 2
  · repeat' (first | rfl | with_reducible assumption | assumption | constructor)
  intro w4 f4 s4 hf4
  replace hf4 : f4 = [(2, _)] := hf4
  subst hf4
  exact Ls.nil (N.to (W.ret (post LO (rs := [.tmp 2]) rfl (vs := [.bool (ckB s 4)]) (.tmp rfl .nil) ⟨rfl, (((Mv.refl _ w).same (s1.trans s2)).trans m3).same s4⟩)))
set_option maxRecDepth 100000 in
theorem ck6 (s : ByteArray) (w : World) (h : 20 ≤ s.size) : Calls Try.prog 59 #[.string s] w (Gave w (.bool (ckB s 5))) := by
  refine calls_W (n := 7) (vs := [.string s]) Try.func59 rfl rfl rfl ?_
  apply W.readS LO mixed [0] (by kernel_rfl)
  · repeat' (first | rfl | with_reducible assumption | assumption | constructor)
  intro w1 f1 s1 hf1
  replace hf1 : f1 = [(0, _)] := hf1
  subst hf1
  have i0 : (0 : Int) ≤ 6 := by decide
  have i1 : (6 : Int) < (s.size : Int) := by omega
  have b7 : (0 : Int) ≤ 7 := by decide
  have k1 : Kn ((bt s 6).fdiv (2 ^ (min (7 : Int).toNat IntKind.u8.bits))) (bt s 6 / 128) := fdivk (by decide) rfl
  have k2 : Kn (bt s 6 / 128 == 1) (ckB s 5) := beqk
  apply W.readS LO mixed [2] (by kernel_rfl)
  · repeat' (first | rfl | with_reducible assumption | assumption | constructor)
  intro w2 f2 s2 hf2
  replace hf2 : f2 = [(2, _)] := hf2
  subst hf2
  exact W.ret (post LO (rs := [.tmp 2]) rfl (vs := [.bool (ckB s 5)]) (.tmp rfl .nil) ⟨rfl, (Mv.refl _ w).same (s1.trans s2)⟩)
set_option maxRecDepth 100000 in
theorem ck7 (s : ByteArray) (w : World) (h : 20 ≤ s.size) : Calls Try.prog 60 #[.string s] w (Gave w (.bool (ckB s 6))) := by
  refine calls_W (n := 9) (vs := [.string s]) Try.func60 rfl rfl rfl ?_
  apply W.readS LO mixed [0] (by kernel_rfl)
  · repeat' (first | rfl | with_reducible assumption | assumption | constructor)
  intro w1 f1 s1 hf1
  replace hf1 : f1 = [(0, _)] := hf1
  subst hf1
  refine W.seq (W.list ?_)
  apply Ls.runK LO [0, 3] 1
  · repeat' (first | rfl | with_reducible assumption | assumption | constructor)
  intro w2 f2 s2 hf2
  replace hf2 : f2 = [(0, _), (3, _)] := hf2
  subst hf2
  refine Ls.call LO rfl rfl rfl rfl rfl (vs := [.string s]) rfl (all_walk s w2 (by omega)) ?_
  rintro _ w3 ⟨rfl, m3⟩
  refine ⟨_, rfl, ?_⟩
  have q := quiet_of (w := w3) fun w' s' => size_says s w' (by omega)
  have hr := allI_range s
  have hl := lenI_le s
  have k2 : Kn (IntKind.i64.wrap (allI s - ((lenI s : Nat) : Int))) (allI s - ((lenI s : Nat) : Int)) := i64k (by omega)
  have k3 : Kn (decide (2000 < allI s - ((lenI s : Nat) : Int))) (ckB s 6) := .rfl
  apply Ls.runK LO [2] 5
  · repeat' (first | rfl | with_reducible assumption | assumption | constructor)
  intro w4 f4 s4 hf4
  replace hf4 : f4 = [(2, _)] := hf4
  subst hf4
  exact Ls.nil (N.to (W.ret (post LO (rs := [.tmp 2]) rfl (vs := [.bool (ckB s 6)]) (.tmp rfl .nil) ⟨rfl, (((Mv.refl _ w).same (s1.trans s2)).trans m3).same s4⟩)))
set_option maxRecDepth 100000 in
set_option maxHeartbeats 4000000 in
theorem ck8 (s : ByteArray) (w : World) (h : 20 ≤ s.size) (h2 : lenI s ≤ s.size) : Calls Try.prog 61 #[.string s] w (Gave w (.bool (ckB s 7))) := by
  obtain ⟨iS, hiS, hzS, hsS, _⟩ := info_str
  refine calls_W (n := 10) (vs := [.string s]) Try.func61 rfl rfl rfl ?_
  apply W.readS LO mixed [0] (by kernel_rfl)
  · repeat' (first | rfl | with_reducible assumption | assumption | constructor)
  intro w1 f1 s1 hf1
  replace hf1 : f1 = [(0, _)] := hf1
  subst hf1
  refine W.seq (W.list ?_)
  have q := quiet_of (w := w1) fun w' s' => size_says s w' (by omega)
  have b0 : (0 : Int) ≤ ((lenI s : Nat) : Int) := by omega
  have b1 : ((lenI s : Nat) : Int) ≤ (s.size : Int) := by omega
  apply Ls.runK LO [6] 4
  · repeat' (first | rfl | with_reducible assumption | assumption | constructor)
  intro w2 f2 s2 hf2
  replace hf2 : f2 = [(6, _)] := hf2
  rw [Int.toNat_natCast] at hf2
  subst hf2
  obtain ⟨A, hA⟩ : ∃ A, A = s.extract 0 (lenI s) := ⟨_, rfl⟩
  have hAs : A.size ≤ 60 := by have := lenI_le s; rw [hA]; simp; omega
  rw [← hA]
  refine Ls.buildZ [(.string A, [.string A])] rfl rfl rfl rfl und_strs hiS hzS hsS rfl rfl rfl rfl rfl rfl (fun p hp => by
    simp only [List.mem_cons, List.not_mem_nil, or_false] at hp
    rcases hp with rfl
    exact ⟨rfl, rfl⟩) ?_
  have hx2 := heap_alloc_new w2 (.cells [Value.string A].toArray 9)
  have l2 : Mv (fun _ => False) w2 (w2.alloc (.cells [Value.string A].toArray 9)) := (Mv.refl _ w2).alloc _
  show Ls Try.prog 10 _ _ _ (w2.alloc (.cells [Value.string A].toArray 9)) _
  generalize w2.alloc (.cells [Value.string A].toArray 9) = u2 at hx2 l2
  have hst : StrsAt u2 (.slice (some ⟨w2.heap.size, 0, none⟩) 1 1) [A] := Rd.new hx2 rfl
  have hcl : cat [A] = A.data.toList := by simp [cat]
  refine Ls.call LO rfl rfl rfl rfl rfl (vs := [.slice (some ⟨w2.heap.size, 0, none⟩) 1 1]) rfl (of_says _ [A] u2 hst (show 1 ≤ 1000000 by decide) (by rw [hcl, list_len]; omega)) ?_
  rintro _ u3 ⟨rfl, r3⟩
  refine ⟨_, rfl, ?_⟩
  rw [hcl]
  have k3 : Kn (sumOf A.data.toList != 0) (ckB s 7) := by
    show Kn _ (decide (sumOf (s.extract 0 (lenI s)).data.toList ≠ 0))
    rw [← hA]
    exact bnek
  apply Ls.runK LO [2] 2
  · repeat' (first | rfl | with_reducible assumption | assumption | constructor)
  intro w4 f4 s4 hf4
  replace hf4 : f4 = [(2, _)] := hf4
  subst hf4
  exact Ls.nil (N.to (W.ret (post LO (rs := [.tmp 2]) rfl (vs := [.bool (ckB s 7)]) (.tmp rfl .nil) ⟨rfl, ((((Mv.refl _ w).same (s1.trans s2)).trans l2).same r3).same s4⟩)))
/-- Each check answers, where none ahead of it fails. -/
theorem ck_walk (s : ByteArray) (i : Nat) (x : Nat × Int) (hx : ckL[i]? = some x) (hpre : ∀ j, j < i → ckB s j = false) (w : World) : Calls Try.prog x.1 #[.string s] w (Gave w (.bool (ckB s i))) := by
  have h0 : 0 < i → 20 ≤ s.size := fun h => by
    have := of_decide_eq_false (hpre 0 h)
    omega
  match i, hx with
  | 0, hx => cases hx; exact ck1 s w
  | 1, hx => cases hx; exact ck2 s w (h0 (by decide))
  | 2, hx => cases hx; exact ck3 s w (h0 (by decide))
  | 3, hx => cases hx; exact ck4 s w (h0 (by decide))
  | 4, hx => cases hx; exact ck5 s w (h0 (by decide))
  | 5, hx => cases hx; exact ck6 s w (h0 (by decide))
  | 6, hx => cases hx; exact ck7 s w (h0 (by decide))
  | 7, hx =>
    cases hx
    have := of_decide_eq_false (hpre 2 (by decide))
    exact ck8 s w (h0 (by decide)) (by omega)
  | i + 8, hx => simp [ckL] at hx
set_option maxHeartbeats 8000000 in
theorem wrong_at (s : ByteArray) (i : Nat) (x : Nat × Int) (hx : ckL[i]? = some x) (hpre : ∀ j, j < i → ckB s j = false) (h : ckB s i = true) : wrongI s = x.2 := by
  have F : ∀ j, j < i → ckB s j = false := hpre
  unfold wrongI
  match i, hx with
  | 0, hx => cases hx; rw [if_pos (of_decide_eq_true h)]
  | 1, hx => cases hx; rw [if_neg (of_decide_eq_false (F 0 (by decide))), if_pos (of_decide_eq_true h)]
  | 2, hx => cases hx; rw [if_neg (of_decide_eq_false (F 0 (by decide))), if_neg (of_decide_eq_false (F 1 (by decide))), if_pos (of_decide_eq_true h)]
  | 3, hx => cases hx; rw [if_neg (of_decide_eq_false (F 0 (by decide))), if_neg (of_decide_eq_false (F 1 (by decide))), if_neg (of_decide_eq_false (F 2 (by decide))), if_pos (of_decide_eq_true h)]
  | 4, hx => cases hx; rw [if_neg (of_decide_eq_false (F 0 (by decide))), if_neg (of_decide_eq_false (F 1 (by decide))), if_neg (of_decide_eq_false (F 2 (by decide))), if_neg (of_decide_eq_false (F 3 (by decide))), if_pos (of_decide_eq_true h)]
  | 5, hx => cases hx; rw [if_neg (of_decide_eq_false (F 0 (by decide))), if_neg (of_decide_eq_false (F 1 (by decide))), if_neg (of_decide_eq_false (F 2 (by decide))), if_neg (of_decide_eq_false (F 3 (by decide))), if_neg (of_decide_eq_false (F 4 (by decide))), if_pos (of_decide_eq_true h)]
  | 6, hx => cases hx; rw [if_neg (of_decide_eq_false (F 0 (by decide))), if_neg (of_decide_eq_false (F 1 (by decide))), if_neg (of_decide_eq_false (F 2 (by decide))), if_neg (of_decide_eq_false (F 3 (by decide))), if_neg (of_decide_eq_false (F 4 (by decide))), if_neg (of_decide_eq_false (F 5 (by decide))), if_pos (of_decide_eq_true h)]
  | 7, hx => cases hx; rw [if_neg (of_decide_eq_false (F 0 (by decide))), if_neg (of_decide_eq_false (F 1 (by decide))), if_neg (of_decide_eq_false (F 2 (by decide))), if_neg (of_decide_eq_false (F 3 (by decide))), if_neg (of_decide_eq_false (F 4 (by decide))), if_neg (of_decide_eq_false (F 5 (by decide))), if_neg (of_decide_eq_false (F 6 (by decide))), if_pos (of_decide_eq_true h)]
  | i + 8, hx => simp [ckL] at hx
theorem wrong_no (s : ByteArray) (F : ∀ j, j < 8 → ckB s j = false) : wrongI s = 0 := by
  unfold wrongI
  rw [if_neg (of_decide_eq_false (F 0 (by decide))), if_neg (of_decide_eq_false (F 1 (by decide))), if_neg (of_decide_eq_false (F 2 (by decide))), if_neg (of_decide_eq_false (F 3 (by decide))), if_neg (of_decide_eq_false (F 4 (by decide))), if_neg (of_decide_eq_false (F 5 (by decide))), if_neg (of_decide_eq_false (F 6 (by decide))), if_neg (of_decide_eq_false (F 7 (by decide)))]
def ckcs (x : Nat × Int) : List Value := [.func (.func x.1) #[] #[], .int .i64 x.2]
theorem ckcs_len (x : Nat × Int) : (ckcs x).length = 2 := rfl
theorem und_checks : Try.prog.underlying 67 = some (.slice 71) := by kernel_rfl
theorem info_check : ∃ i, Try.prog.info? 71 = some i ∧ i.zero = some (.agg #[.nilFunc, .int .i64 0]) ∧ i.size = 2 := by
  have h : (Try.prog.info? 71).map (fun i => (i.zero, i.size)) = some (some (.agg #[.nilFunc, .int .i64 0]), 2) := by kernel_rfl
  obtain ⟨i, hi, e⟩ := Option.map_eq_some_iff.1 h
  injection e with e1 e2
  exact ⟨i, hi, e1, e2⟩
set_option maxRecDepth 100000 in
set_option maxHeartbeats 4000000 in
theorem checks_walk (w : World) : Calls Try.prog 34 #[] w fun e w' => ∃ v, e = .returned v ∧ Rd w' 2 v ckL.length (ckL.flatMap ckcs) ∧ Mv (fun _ => False) w w' := by
  obtain ⟨iC, hiC, hzC, hsC⟩ := info_check
  refine calls_W (n := 10) (vs := []) Try.func34 rfl rfl rfl ?_
  apply W.readS LO mixed [] (by kernel_rfl)
  · repeat' (first | rfl | with_reducible assumption | assumption | constructor)
  intro w1 f1 s1 hf1
  replace hf1 : f1 = [] := hf1
  subst hf1
  refine W.seq (W.list ?_)
  apply Ls.runK LO [1, 2, 3, 4, 5, 6, 7, 8] 8
  · repeat' (first | rfl | with_reducible assumption | assumption | constructor)
  intro w2 f2 s2 hf2
  replace hf2 : f2 = [(1, _), (2, _), (3, _), (4, _), (5, _), (6, _), (7, _), (8, _)] := hf2
  subst hf2
  refine Ls.buildZ (ckL.map fun x => (.agg (ckcs x).toArray, ckcs x)) rfl rfl rfl rfl und_checks hiC hzC hsC rfl rfl rfl rfl rfl rfl (fun p hp => by
    obtain ⟨x, _, rfl⟩ := List.mem_map.1 hp
    exact ⟨rfl, rfl⟩) ?_
  have e : (ckL.map fun x => ((Value.agg (ckcs x).toArray), ckcs x)).flatMap (·.2) = ckL.flatMap ckcs := rfl
  rw [e]
  have hx := heap_alloc_new w2 (.cells (ckL.flatMap ckcs).toArray 71)
  have l2 : Mv (fun _ => False) w2 (w2.alloc (.cells (ckL.flatMap ckcs).toArray 71)) := (Mv.refl _ w2).alloc _
  generalize w2.alloc (.cells (ckL.flatMap ckcs).toArray 71) = w3 at hx l2
  have hr : Rd w3 2 (.slice (some ⟨w2.heap.size, 0, none⟩) 8 8) 8 (ckL.flatMap ckcs) := Rd.new hx rfl
  apply Ls.runK LO [0] 1
  · repeat' (first | rfl | with_reducible assumption | assumption | constructor)
  intro w4 f4 s4 hf4
  replace hf4 : f4 = [(0, _)] := hf4
  subst hf4
  exact Ls.nil (N.to (W.ret (post LO (rs := [.tmp 0]) rfl (vs := [.slice (some ⟨w2.heap.size, 0, none⟩) 8 8]) (.tmp rfl .nil) ⟨_, rfl, hr.moved ((Mv.refl _ w3).same s4), (((Mv.refl _ w).same (s1.trans s2)).trans l2).same s4⟩)))
end Go.Proofs.Ytbidgeaigiijpaa
