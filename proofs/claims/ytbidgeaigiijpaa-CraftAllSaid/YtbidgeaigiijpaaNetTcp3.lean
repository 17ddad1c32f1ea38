/- What is proved: what is wrong of a segment, what Get of segments gives. Conditions: those that stand in each theorem. -/
import Derived.Test.YtbidgeaigiijpaaNetTcp1
namespace Go.Proofs.Ytbidgeaigiijpaa
set_option linter.unusedVariables false
set_option linter.unusedSimpArgs false
set_option linter.unusedSectionVars false
open Go.RowKit Fw Nt
theorem cat2 (a b : ByteArray) : cat [a, b] = a.data.toList ++ b.data.toList := by simp only [cat, List.append_nil]
set_option maxRecDepth 100000 in
set_option maxHeartbeats 8000000 in
theorem twrong_walk (h : SegV) (a b : Int) (s : ByteArray) (w : World) (ha : 0 ≤ a ∧ a ≤ 4294967295) (hb : 0 ≤ b ∧ b ≤ 4294967295) (hs : s.size ≤ 1000000000000000) : Calls Try.prog 37 #[.agg (h.hd a b).toArray, .string s] w fun e w' => e = .returned (.int .i64 (wrongT a b s)) ∧ Mv (fun _ => False) w w' := by
  obtain ⟨iS, hiS, hzS, hsS, _⟩ := info_str
  refine calls_W (n := 45) (vs := [.agg (h.hd a b).toArray, .string s]) Try.func37 rfl rfl rfl ?_
  refine W.seq (W.list ?_)
  refine Ls.box rfl rfl rfl rfl rfl (vs := h.hd a b) rfl ?_
  have hb1 : BX (w.alloc (.cells (h.hd a b).toArray 73)) w.heap.size 73 (h.hd a b) := heap_alloc_new w (.cells (h.hd a b).toArray 73)
  have m1 : Mv (fun _ => False) w (w.alloc (.cells (h.hd a b).toArray 73)) := (Mv.refl _ w).alloc _
  generalize w.alloc (.cells (h.hd a b).toArray 73) = w1 at hb1 m1
  obtain ⟨p, hp⟩ : ∃ p, p = w.heap.size := ⟨_, rfl⟩
  rw [← hp] at hb1
  rw [← hp]
  apply Ls.runK LO [1, 2] 1
  · repeat' (first | rfl | with_reducible assumption | assumption | constructor)
  intro w2 f2 s2 hf2
  replace hf2 : f2 = [(1, _), (2, _)] := hf2
  subst hf2
  refine Ls.nil (N.to ?_)
  have m2 := m1.same s2
  have hb2 := hb1.same s2
  clear m1 hb1 s2
  have fin : ∀ (r : Int) w' f, wrongT a b s = r → Mv (fun _ => False) w w' → fget f 4 = some (.int .i64 r) → N 45 f w' (bodyPost Try.prog Try.f37 fun e w' => e = .returned (.int .i64 (wrongT a b s)) ∧ Mv (fun _ => False) w w') .ret := fun r w' f e m h4 => by
    rw [e]
    exact post LO (rs := [.tmp 4]) rfl (vs := [.int .i64 r]) (.tmp h4 .nil) ⟨rfl, m⟩
  by_cases h20 : s.size < 20
  · have k2 : Kn (decide ((s.size : Int) < 20)) true := .yes (by omega)
    refine W.seq ?_
    apply W.readS LO mixed [8] (by kernel_rfl)
    · repeat' (first | rfl | with_reducible assumption | assumption | constructor)
    intro w6 f6 s6 hf6
    replace hf6 : f6 = [(8, _)] := hf6
    subst hf6
    refine W.cond (b := true) rfl (fun _ => ?_) (fun h => by cases h)
    apply W.readS LO mixed [4] (by kernel_rfl)
    · repeat' (first | rfl | with_reducible assumption | assumption | constructor)
    intro w7 f7 s7 hf7
    replace hf7 : f7 = [(4, _)] := hf7
    subst hf7
    exact W.ret (N.thenR (fin 2 _ _ (by unfold wrongT; rw [if_pos h20]) ((m2.same s6).same s7) rfl))
  have k2 : Kn (decide ((s.size : Int) < 20)) false := .no (by omega)
  refine W.seq ?_
  apply W.readS LO mixed [1, 2, 8] (by kernel_rfl)
  · repeat' (first | rfl | with_reducible assumption | assumption | constructor)
  intro w3 f3 s3 hf3
  replace hf3 : f3 = [(1, _), (2, _), (8, _)] := hf3
  subst hf3
  refine W.cond (b := false) rfl (fun h => by cases h) (fun _ => W.skip (N.to ?_))
  have m3 := m2.same s3
  have hb3 := hb2.same s3
  clear m2 hb2 s3 k2
  have hbt := bt_range s 12
  have hlT := lenT_int s
  have i0 : (0 : Int) ≤ 12 := by decide
  have i1 : (12 : Int) < (s.size : Int) := by omega
  have p4 : (0 : Int) ≤ 4 := by decide
  have k1 : Kn (IntKind.i64.wrap (bt s 12)) (bt s 12) := i64k (by omega)
  obtain ⟨x, hx⟩ : ∃ x, x = bt s 12 / 16 := ⟨_, rfl⟩
  rw [← hx] at hlT
  have k2 : Kn ((bt s 12).fdiv (2 ^ (min (4 : Int).toNat IntKind.i64.bits))) x := fdivk (by decide) (by rw [hx]; rfl)
  apply W.readS LO mixed [1, 2, 5] (by kernel_rfl)
  · repeat' (first | rfl | with_reducible assumption | assumption | constructor)
  intro w4 f4 s4 hf4
  replace hf4 : f4 = [(1, _), (2, _), (5, _)] := hf4
  subst hf4
  have m4 := m3.same s4
  have hb4 := hb3.same s4
  clear m3 hb3 s4 k1 k2
  refine W.cutS (fun w' g => (Mv (fun _ => False) w w' ∧ g = []) ∧ wrongT a b s = 0) ?_ ?_
  · refine W.block ?_
    by_cases h5 : lenT s < 20
    · have k2 : Kn (decide (x < 5)) true := .yes (by omega)
      apply W.readS LO mixed [13] (by kernel_rfl)
      · repeat' (first | rfl | with_reducible assumption | assumption | constructor)
      intro w6 f6 s6 hf6
      replace hf6 : f6 = [(13, _)] := hf6
      subst hf6
      refine W.cond (b := true) rfl (fun _ => ?_) (fun h => by cases h)
      apply W.readS LO mixed [4] (by kernel_rfl)
      · repeat' (first | rfl | with_reducible assumption | assumption | constructor)
      intro w7 f7 s7 hf7
      replace hf7 : f7 = [(4, _)] := hf7
      subst hf7
      exact W.ret (N.inbR (N.thenR (fin 3 _ _ (by unfold wrongT; rw [if_neg h20, if_pos h5]) ((m4.same s6).same s7) rfl)))
    have k5 : Kn (decide (x < 5)) false := .no (by omega)
    apply W.readS LO mixed [1, 2, 5, 13] (by kernel_rfl)
    · repeat' (first | rfl | with_reducible assumption | assumption | constructor)
    intro w6 f6 s6 hf6
    replace hf6 : f6 = [(1, _), (2, _), (5, _), (13, _)] := hf6
    subst hf6
    refine W.cond (b := false) rfl (fun h => by cases h) (fun _ => ?_)
    have m6 := m4.same s6
    have hb6 := hb4.same s6
    clear m4 hb4 s6 k5
    have k4 : Kn (IntKind.i64.wrap (x * 4)) ((lenT s : Nat) : Int) := .of (by rw [hlT]; exact IntWalk.i64_in _ (by omega))
    by_cases h6 : s.size < lenT s
    · have k2 : Kn (decide ((s.size : Int) < ((lenT s : Nat) : Int))) true := .yes (by omega)
      apply W.readS LO mixed [16] (by kernel_rfl)
      · repeat' (first | rfl | with_reducible assumption | assumption | constructor)
      intro w7 f7 s7 hf7
      replace hf7 : f7 = [(16, _)] := hf7
      subst hf7
      refine W.cond (b := true) rfl (fun _ => ?_) (fun h => by cases h)
      apply W.readS LO mixed [4] (by kernel_rfl)
      · repeat' (first | rfl | with_reducible assumption | assumption | constructor)
      intro w8 f8 s8 hf8
      replace hf8 : f8 = [(4, _)] := hf8
      subst hf8
      exact W.ret (N.inbR (N.thenR (fin 2 _ _ (by unfold wrongT; rw [if_neg h20, if_neg h5, if_pos h6]) ((m6.same s7).same s8) rfl)))
    have k6 : Kn (decide ((s.size : Int) < ((lenT s : Nat) : Int))) false := .no (by omega)
    apply W.readS LO mixed [1, 2, 16] (by kernel_rfl)
    · repeat' (first | rfl | with_reducible assumption | assumption | constructor)
    intro w7 f7 s7 hf7
    replace hf7 : f7 = [(1, _), (2, _), (16, _)] := hf7
    subst hf7
    refine W.cond (b := false) rfl (fun h => by cases h) (fun _ => ?_)
    have m7 := m6.same s7
    have hb7 := hb6.same s7
    clear m6 hb6 s7 k6 k4
    have i2 : (0 : Int) ≤ 13 := by decide
    have i3 : (13 : Int) < (s.size : Int) := by omega
    obtain ⟨c, hc⟩ : ∃ c : Bool, c = decide (bt s 12 % 16 ≠ 0 ∨ bt s 13 > 63) := ⟨_, rfl⟩
    refine W.cutS (fun w' g => Mv (fun _ => False) w w' ∧ BX w' p 73 (h.hd a b) ∧ g = [(1, .string s), (2, .pointer (some ⟨p, 0, none⟩)), (22, .bool c)]) ?_ ?_
    · have k7 : Kn (bits .and .u8 (bt s 12) 15) (bt s 12 % 16) := .of (Nt.and15 s)
      by_cases h7 : bt s 12 % 16 = 0
      · have k8 : Kn (bt s 12 % 16 != 0) false := .of (by rw [h7]; rfl)
        have k9 : Kn (decide (63 < bt s 13)) c := .of (by rw [hc]; exact decide_eq_decide.2 (by omega))
        apply W.readN LO mixed [1, 2, 22] (by kernel_rfl)
        · repeat' (first | rfl | with_reducible assumption | assumption | constructor)
        intro w8 f8 s8 hf8
        replace hf8 : f8 = [(1, _), (2, _), (22, _)] := hf8
        subst hf8
        exact N.cut ⟨m7.same s8, hb7.same s8, rfl⟩ (sub_keys rfl)
      · have k8 : Kn (bt s 12 % 16 != 0) true := .of (by rw [bne_iff_ne]; exact h7)
        have e : c = true := by rw [hc]; exact decide_eq_true (.inl h7)
        apply W.readN LO mixed [1, 2, 22] (by kernel_rfl)
        · repeat' (first | rfl | with_reducible assumption | assumption | constructor)
        intro w8 f8 s8 hf8
        replace hf8 : f8 = [(1, _), (2, _), (22, _)] := hf8
        subst hf8
        rw [e]
        exact N.cut ⟨m7.same s8, hb7.same s8, rfl⟩ (sub_keys rfl)
    clear m7 hb7
    rintro w8 _ ⟨m8, hb8, rfl⟩
    cases c with
    | true =>
      have h7 := of_decide_eq_true hc.symm
      refine W.cond (b := true) rfl (fun _ => ?_) (fun h => by cases h)
      apply W.readS LO mixed [4] (by kernel_rfl)
      · repeat' (first | rfl | with_reducible assumption | assumption | constructor)
      intro w9 f9 s9 hf9
      replace hf9 : f9 = [(4, _)] := hf9
      subst hf9
      exact W.ret (N.inbR (N.thenR (fin 3 _ _ (by unfold wrongT; rw [if_neg h20, if_neg h5, if_neg h6, if_pos h7]) (m8.same s9) rfl)))
    | false =>
      have h7 := of_decide_eq_false hc.symm
      refine W.cond (b := false) rfl (fun h => by cases h) (fun _ => ?_)
      by_cases h8 : s.size > 2000
      · have k2 : Kn (decide (2000 < (s.size : Int))) true := .yes (by omega)
        apply W.readS LO mixed [32] (by kernel_rfl)
        · repeat' (first | rfl | with_reducible assumption | assumption | constructor)
        intro w9 f9 s9 hf9
        replace hf9 : f9 = [(32, _)] := hf9
        subst hf9
        refine W.cond (b := true) rfl (fun _ => ?_) (fun h => by cases h)
        apply W.readS LO mixed [4] (by kernel_rfl)
        · repeat' (first | rfl | with_reducible assumption | assumption | constructor)
        intro w10 f10 s10 hf10
        replace hf10 : f10 = [(4, _)] := hf10
        subst hf10
        exact W.ret (N.inbR (N.thenR (fin 5 _ _ (by unfold wrongT; rw [if_neg h20, if_neg h5, if_neg h6, if_neg h7, if_pos h8]) ((m8.same s9).same s10) rfl)))
      have k8 : Kn (decide (2000 < (s.size : Int))) false := .no (by omega)
      apply W.readS LO mixed [1, 2, 32] (by kernel_rfl)
      · repeat' (first | rfl | with_reducible assumption | assumption | constructor)
      intro w9 f9 s9 hf9
      replace hf9 : f9 = [(1, _), (2, _), (32, _)] := hf9
      subst hf9
      refine W.cond (b := false) rfl (fun h => by cases h) (fun _ => ?_)
      have m9 := m8.same s9
      have hb9 := hb8.same s9
      clear m8 hb8 s9 k8
      refine W.seq (W.list ?_)
      have hc9 : CellsAt w9 p 0 9 (h.hd a b) := hb9.cells
      apply Ls.runK LO [1, 37, 39] 3
      · repeat' (first | rfl | with_reducible assumption | assumption | constructor)
      intro u1 e1 r1 he1
      replace he1 : e1 = [(1, _), (37, _), (39, _)] := he1
      subst he1
      refine Ls.call LO rfl rfl rfl rfl rfl (vs := [.agg (h.hd a b).toArray, .int .i64 (s.size : Int)]) rfl (pseudo_walk h a b (s.size : Int) u1 ha hb) ?_
      rintro _ u2 ⟨rfl, l2⟩
      refine ⟨_, rfl, ?_⟩
      obtain ⟨P, hP⟩ : ∃ P, P = pseudoT a b 6 (s.size : Int) := ⟨_, rfl⟩
      have hPs : P.size ≤ 12 := by rw [hP, pseudoT_size]; exact Nat.le_refl _
      rw [← hP]
      apply Ls.runK LO [40, 41] 1
      · repeat' (first | rfl | with_reducible assumption | assumption | constructor)
      intro u3 e3 r3 he3
      replace he3 : e3 = [(40, _), (41, _)] := he3
      subst he3
      refine Ls.buildZ [(.string P, [.string P]), (.string s, [.string s])] rfl rfl rfl rfl und_strs hiS hzS hsS rfl rfl rfl rfl rfl rfl (fun p hp => by
        simp only [List.mem_cons, List.not_mem_nil, or_false] at hp
        rcases hp with rfl | rfl <;> exact ⟨rfl, rfl⟩) ?_
      have hx4 := heap_alloc_new u3 (.cells [Value.string P, .string s].toArray 9)
      have l4 : Mv (fun _ => False) u3 (u3.alloc (.cells [Value.string P, .string s].toArray 9)) := (Mv.refl _ u3).alloc _
      show Ls Try.prog 45 _ _ _ (u3.alloc (.cells [Value.string P, .string s].toArray 9)) _
      generalize u3.alloc (.cells [Value.string P, .string s].toArray 9) = u4 at hx4 l4
      have hst : StrsAt u4 (.slice (some ⟨u3.heap.size, 0, none⟩) 2 2) [P, s] := Rd.new hx4 rfl
      have m10 := (((m9.same r1).trans l2).same r3).trans l4
      have hcl : cat [P, s] = P.data.toList ++ s.data.toList := cat2 P s
      refine Ls.call LO rfl rfl rfl rfl rfl (vs := [.slice (some ⟨u3.heap.size, 0, none⟩) 2 2]) rfl (of_says _ [P, s] u4 hst (show 2 ≤ 1000000 by decide) (by rw [hcl]; simp only [List.length_append, list_len]; omega)) ?_
      rintro _ u5 ⟨rfl, r5⟩
      refine ⟨_, rfl, ?_⟩
      rw [hcl]
      obtain ⟨S_, hS⟩ : ∃ S_, S_ = sumOf (P.data.toList ++ s.data.toList) := ⟨_, rfl⟩
      have hW : whole a b s = S_ := by rw [hS, hP]; rfl
      rw [← hS]
      have m11 := m10.same r5
      by_cases h9 : S_ = 0
      · have k10 : Kn (S_ != 0) false := .of (by rw [h9]; rfl)
        apply Ls.runK LO [36] 2
        · repeat' (first | rfl | with_reducible assumption | assumption | constructor)
        intro u6 e6 r6 he6
        replace he6 : e6 = [(36, _)] := he6
        subst he6
        refine Ls.nil (N.to ?_)
        refine W.cond (b := false) rfl (fun h => by cases h) (fun _ => W.skip ?_)
        exact N.inb (N.cut ⟨⟨m11.same r6, rfl⟩, by unfold wrongT; rw [if_neg h20, if_neg h5, if_neg h6, if_neg h7, if_neg h8, if_neg (by rw [hW]; exact fun hh => hh h9)]⟩ (sub_keys rfl))
      · have k10 : Kn (S_ != 0) true := .of (by rw [bne_iff_ne]; exact h9)
        apply Ls.runK LO [36] 2
        · repeat' (first | rfl | with_reducible assumption | assumption | constructor)
        intro u6 e6 r6 he6
        replace he6 : e6 = [(36, _)] := he6
        subst he6
        refine Ls.nil (N.to ?_)
        refine W.cond (b := true) rfl (fun _ => ?_) (fun h => by cases h)
        apply W.readS LO mixed [4] (by kernel_rfl)
        · repeat' (first | rfl | with_reducible assumption | assumption | constructor)
        intro w10 f10 s10 hf10
        replace hf10 : f10 = [(4, _)] := hf10
        subst hf10
        exact W.ret (N.inbR (N.thenR (fin 4 _ _ (by unfold wrongT; rw [if_neg h20, if_neg h5, if_neg h6, if_neg h7, if_neg h8, if_pos (by rw [hW]; exact h9)]) ((m11.same r6).same s10) rfl)))
  rintro w5 _ ⟨⟨m5, rfl⟩, h0⟩
  apply W.readS LO mixed [4] (by kernel_rfl)
  · repeat' (first | rfl | with_reducible assumption | assumption | constructor)
  intro w6 f6 s6 hf6
  replace hf6 : f6 = [(4, _)] := hf6
  subst hf6
  exact W.ret (fin 0 _ _ h0 (m5.same s6) rfl)
def segZ : SegV := ⟨0, 0, 0, 0, 0, 0, ⟨#[]⟩⟩
def gotT (g : GotT) : SegV × ByteArray × Int := (⟨g.1, g.2.1, g.2.2.1, g.2.2.2.1, g.2.2.2.2.1, g.2.2.2.2.2.1, g.2.2.2.2.2.2.1⟩, g.2.2.2.2.2.2.2.1, g.2.2.2.2.2.2.2.2)
def GotS (w : World) (r : SegV × ByteArray × Int) (e : Ending) (w' : World) : Prop := e = .returned (.tuple #[.agg r.1.cs.toArray, .string r.2.1, .int .i64 r.2.2]) ∧ Mv (fun _ => False) w w'
set_option maxRecDepth 100000 in
set_option maxHeartbeats 16000000 in
theorem tget_walk (a b : Int) (s : ByteArray) (w : World) (ha : 0 ≤ a ∧ a ≤ 4294967295) (hb : 0 ≤ b ∧ b ≤ 4294967295) (hs : s.size ≤ 1000000000000000) : Calls Try.prog 13 #[.int .u32 a, .int .u32 b, .string s] w (GotS w (gotT (getT a b s))) := by
  refine calls_W (n := 69) (vs := [.int .u32 a, .int .u32 b, .string s]) Try.func13 rfl rfl rfl ?_
  refine W.seq (W.list ?_)
  refine Ls.alloc LO rfl rfl rfl rfl (zs := segZ.cs) rfl ?_
  have hb1 : BX (w.alloc (.cells segZ.cs.toArray 26)) w.heap.size 26 segZ.cs := heap_alloc_new w (.cells segZ.cs.toArray 26)
  have m1 : Mv (fun _ => False) w (w.alloc (.cells segZ.cs.toArray 26)) := (Mv.refl _ w).alloc _
  generalize w.alloc (.cells segZ.cs.toArray 26) = w1 at hb1 m1
  obtain ⟨p, hp⟩ : ∃ p, p = w.heap.size := ⟨_, rfl⟩
  rw [← hp] at hb1
  rw [← hp]
  apply Ls.runK LO [0, 1, 2, 6] 2
  · repeat' (first | rfl | with_reducible assumption | assumption | constructor)
  intro w2 f2 s2 hf2
  replace hf2 : f2 = [(0, _), (1, _), (2, _), (6, _)] := hf2
  subst hf2
  refine Ls.nil (N.to ?_)
  have m2 := m1.same s2
  have hb2 := hb1.same s2
  clear m1 hb1 s2
  have fin : ∀ (r : SegV × ByteArray × Int) w' f, r = gotT (getT a b s) → Mv (fun _ => False) w w' → BX w' p 26 r.1.cs → fget f 6 = some (.pointer (some ⟨p, 0, none⟩)) → fget f 7 = some (.string r.2.1) → fget f 8 = some (.int .i64 r.2.2) → N 69 f w' (bodyPost Try.prog Try.f13 (GotS w (gotT (getT a b s)))) .ret := fun r w' f e m hb h2 h3 h4 => by
    have hl : CellsAt w' p 0 7 r.1.cs := hb.cells
    exact post LO (rs := [.cell 6 26, .tmp 7, .tmp 8]) rfl (vs := [.agg r.1.cs.toArray, .string r.2.1, .int .i64 r.2.2]) (.cell h2 rfl (.agg hl) (.tmp h3 (.tmp h4 .nil))) ⟨by rw [e]; rfl, m⟩
  -- where it goes
  refine W.seq (W.list ?_)
  apply Ls.runK LO [2, 6, 14] 3
  · repeat' (first | rfl | with_reducible assumption | assumption | constructor)
  intro w3 f3 s3 hf3
  replace hf3 : f3 = [(2, _), (6, _), (14, _)] := hf3
  subst hf3
  refine Ls.alloc LO rfl rfl rfl rfl (zs := segZ.hd 0 0) rfl ?_
  have hq3 : BX (w3.alloc (.cells (segZ.hd 0 0).toArray 73)) w3.heap.size 73 (segZ.hd 0 0) := heap_alloc_new w3 (.cells (segZ.hd 0 0).toArray 73)
  have m4 : Mv (fun _ => False) w3 (w3.alloc (.cells (segZ.hd 0 0).toArray 73)) := (Mv.refl _ w3).alloc _
  generalize w3.alloc (.cells (segZ.hd 0 0).toArray 73) = w4 at hq3 m4
  obtain ⟨q, hq⟩ : ∃ q, q = w3.heap.size := ⟨_, rfl⟩
  rw [← hq] at hq3
  rw [← hq]
  refine Ls.store LO rfl rfl rfl rfl rfl (vs := segZ.hd a b) rfl rfl rfl hq3 rfl ?_
  intro w5 hq5 m5 _
  have hq5 : BX w5 q 73 (segZ.hd a b) := hq5
  have hp3 := hb2.same s3
  have hpq : p < q := by have := hp3.lt; omega
  have m5' : Mv (fun _ => False) w3 w5 := m4.cut m5 fun k hk e => by omega
  have hp5 := hp3.moved m5' fun e => e
  have m5'' : Mv (fun _ => False) w w5 := (m2.same s3).trans m5'
  refine Ls.nil (N.to ?_)
  clear m2 hb2 s3 hq3 m4 hq m5 hp3 m5'
  -- what is wrong
  refine W.seq ?_
  refine W.seq (W.list ?_)
  have hc5 : CellsAt w5 q 0 9 (segZ.hd a b) := hq5.cells
  apply Ls.runK LO [2, 6, 9, 15, 16] 2
  · repeat' (first | rfl | with_reducible assumption | assumption | constructor)
  intro w6 f6 s6 hf6
  replace hf6 : f6 = [(2, _), (6, _), (9, _), (15, _), (16, _)] := hf6
  subst hf6
  refine Ls.call LO rfl rfl rfl rfl rfl (vs := [.agg (segZ.hd a b).toArray, .string s]) rfl (twrong_walk segZ a b s w6 ha hb hs) ?_
  rintro _ w7 ⟨rfl, m7⟩
  refine ⟨_, rfl, ?_⟩
  apply Ls.runK LO [2, 6, 9, 10] 1
  · repeat' (first | rfl | with_reducible assumption | assumption | constructor)
  intro w8 f8 s8 hf8
  replace hf8 : f8 = [(2, _), (6, _), (9, _), (10, _)] := hf8
  subst hf8
  refine Ls.nil (N.to ?_)
  have m8 := ((m5''.same s6).trans m7).same s8
  have hp8 := ((hp5.same s6).moved m7 fun e => e).same s8
  have hq8 := ((hq5.same s6).moved m7 fun e => e).same s8
  clear m5'' hp5 hq5 hc5 s6 m7 s8
  by_cases hw0 : wrongT a b s = 0
  case neg =>
    have k1 : Kn (wrongT a b s != 0) true := .of (by rw [bne_iff_ne]; exact hw0)
    apply W.readS LO mixed [6, 10, 19] (by kernel_rfl)
    · repeat' (first | rfl | with_reducible assumption | assumption | constructor)
    intro w9 f9 s9 hf9
    replace hf9 : f9 = [(6, _), (10, _), (19, _)] := hf9
    subst hf9
    refine W.cond (b := true) rfl (fun _ => ?_) (fun h => by cases h)
    refine W.seq (W.list ?_)
    apply Ls.runK LO [6, 20, 21] 2
    · repeat' (first | rfl | with_reducible assumption | assumption | constructor)
    intro w10 f10 s10 hf10
    replace hf10 : f10 = [(6, _), (20, _), (21, _)] := hf10
    subst hf10
    refine Ls.store LO rfl rfl rfl rfl rfl (vs := segZ.cs) rfl rfl rfl ((hp8.same s9).same s10) rfl ?_
    intro w11 hp11 m11 _
    have hp11 : BX w11 p 26 segZ.cs := hp11
    apply Ls.runK LO [6, 7, 8] 2
    · repeat' (first | rfl | with_reducible assumption | assumption | constructor)
    intro w12 f12 s12 hf12
    replace hf12 : f12 = [(6, _), (7, _), (8, _)] := hf12
    subst hf12
    refine Ls.nil (N.to (W.ret (N.thenR (fin (segZ, ⟨#[]⟩, wrongT a b s) _ _ ?_ (((((m8.same s9).same s10).cut m11 fun k hk e => by omega)).same s12) (hp11.same s12) rfl rfl rfl))))
    unfold getT
    rw [if_neg hw0]
    rfl
  have k1 : Kn (wrongT a b s != 0) false := .of (by rw [hw0]; rfl)
  apply W.readS LO mixed [2, 6, 9, 19] (by kernel_rfl)
  · repeat' (first | rfl | with_reducible assumption | assumption | constructor)
  intro w9 f9 s9 hf9
  replace hf9 : f9 = [(2, _), (6, _), (9, _), (19, _)] := hf9
  subst hf9
  refine W.cond (b := false) rfl (fun h => by cases h) (fun _ => W.skip (N.to ?_))
  have m9 := m8.same s9
  have hp9 := hp8.same s9
  have hq9 := hq8.same s9
  clear m8 hp8 hq8 s9 k1
  obtain ⟨h20, hl20, hls, h2000, h16, h63, _⟩ := wrongT_zero hw0
  have hbt := bt_range s 12
  have hb13 := bt_range s 13
  have hlT := lenT_int s
  have i0 : (0 : Int) ≤ 12 := by decide
  have i1 : (12 : Int) < (s.size : Int) := by omega
  have p4 : (0 : Int) ≤ 4 := by decide
  have k1 : Kn (IntKind.i64.wrap (bt s 12)) (bt s 12) := i64k (by omega)
  obtain ⟨x, hx⟩ : ∃ x, x = bt s 12 / 16 := ⟨_, rfl⟩
  rw [← hx] at hlT
  have k2 : Kn ((bt s 12).fdiv (2 ^ (min (4 : Int).toNat IntKind.i64.bits))) x := fdivk (by decide) (by rw [hx]; rfl)
  have k3 : Kn (IntKind.i64.wrap (x * 4)) ((lenT s : Nat) : Int) := .of (by rw [hlT]; exact IntWalk.i64_in _ (by omega))
  apply W.readS LO mixed [2, 6, 9, 11] (by kernel_rfl)
  · repeat' (first | rfl | with_reducible assumption | assumption | constructor)
  intro u0 e0 r0 he0
  replace he0 : e0 = [(2, _), (6, _), (9, _), (11, _)] := he0
  subst he0
  have m0 := m9.same r0
  have hp0 := hp9.same r0
  have hq0 := hq9.same r0
  clear m9 hp9 hq9 r0 k1 k2 k3
  obtain ⟨v0, hv0⟩ : ∃ v, v = numOf (s.extract 0 2) := ⟨_, rfl⟩
  obtain ⟨v1, hv1⟩ : ∃ v, v = numOf (s.extract 2 4) := ⟨_, rfl⟩
  obtain ⟨v2, hv2⟩ : ∃ v, v = numOf (s.extract 4 8) := ⟨_, rfl⟩
  obtain ⟨v3, hv3⟩ : ∃ v, v = numOf (s.extract 8 12) := ⟨_, rfl⟩
  obtain ⟨v4, hv4⟩ : ∃ v, v = bt s 13 := ⟨_, rfl⟩
  obtain ⟨v5, hv5⟩ : ∃ v, v = numOf (s.extract 14 16) := ⟨_, rfl⟩
  obtain ⟨o_, ho_⟩ : ∃ v, v = s.extract 20 (lenT s) := ⟨_, rfl⟩
  have c0 : (0 : Int) ≤ 0 := by decide
  have c2 : (0 : Int) ≤ 2 := by decide
  have c24 : (2 : Int) ≤ 4 := by decide
  have c48 : (4 : Int) ≤ 8 := by decide
  have c8 : (0 : Int) ≤ 8 := by decide
  have c812 : (8 : Int) ≤ 12 := by decide
  have c14 : (0 : Int) ≤ 14 := by decide
  have c1416 : (14 : Int) ≤ 16 := by decide
  have e2 : (2 : Int) ≤ (s.size : Int) := by omega
  have e4 : (4 : Int) ≤ (s.size : Int) := by omega
  have e8 : (8 : Int) ≤ (s.size : Int) := by omega
  have e12 : (12 : Int) ≤ (s.size : Int) := by omega
  have e16 : (16 : Int) ≤ (s.size : Int) := by omega
  -- the ports
  refine W.seq (W.held mixed (fun w' => True) [] 12 rfl (fun w' s => True.intro) ?_)
  intro x0 s0
  apply H.takesK LO false [2, 6, 9, 11, 28, 31] [0, 1, 3, 4] (k := 8) rfl (by kernel_rfl)
  · repeat' (first | rfl | with_reducible assumption | assumption | (intro w' hw'; replace hw' := True.intro) | constructor)
  intro g_ hg_
  replace hg_ : g_ = [(2, _), (6, _), (9, _), (11, _), (28, _), (31, _)] := hg_
  subst hg_
  have n0 : Mv (fun _ => False) u0 x0 := (Mv.refl _ u0).same s0
  refine H.only (i := 2) rfl (by kernel_rfl) ?_
  refine Ls.call LO rfl rfl rfl rfl rfl (vs := [.string (s.extract 0 2)]) rfl (num_walk (s.extract 0 2) x0 (by simp; omega)) ?_
  rintro _ x1 ⟨rfl, n1⟩
  have n1 := n0.trans n1
  rw [← hv0]
  refine ⟨_, rfl, Ls.nil (N.goOn (fun _ => True.intro) ?_)⟩
  apply H.takesK LO false [2, 6, 9, 11, 29, 31, 34] [6, 7] (k := 5) rfl (by kernel_rfl)
  · repeat' (first | rfl | with_reducible assumption | assumption | (intro w' hw'; replace hw' := True.intro) | constructor)
  intro g_ hg_
  replace hg_ : g_ = [(2, _), (6, _), (9, _), (11, _), (29, _), (31, _), (34, _)] := hg_
  subst hg_
  refine H.only (i := 5) rfl (by kernel_rfl) ?_
  refine Ls.call LO rfl rfl rfl rfl rfl (vs := [.string (s.extract 2 4)]) rfl (num_walk (s.extract 2 4) x1 (by simp; omega)) ?_
  rintro _ x2 ⟨rfl, n2⟩
  have n2 := n1.trans n2
  rw [← hv1]
  refine ⟨_, rfl, Ls.nil (N.goOn (fun _ => True.intro) ?_)⟩
  refine H.only (i := 8) rfl (by kernel_rfl) ?_
  refine Ls.store LO rfl rfl rfl rfl rfl (vs := [.int .i64 v0]) rfl rfl rfl (hq0.moved n2 fun e => e) rfl ?_
  intro x3 hq3 n3 _
  have hq3 : BX x3 q 73 ((SegV.mk v0 0 0 0 0 0 ⟨#[]⟩).hd a b) := hq3
  refine Ls.nil (N.goOn (fun _ => True.intro) ?_)
  apply H.takesK LO false [2, 6, 9, 11, 32, 36] [9, 10] (k := 1) rfl (by kernel_rfl)
  · repeat' (first | rfl | with_reducible assumption | assumption | (intro w' hw'; replace hw' := True.intro) | constructor)
  intro g_ hg_
  replace hg_ : g_ = [(2, _), (6, _), (9, _), (11, _), (32, _), (36, _)] := hg_
  subst hg_
  refine H.only (i := 11) rfl (by kernel_rfl) ?_
  refine Ls.store LO rfl rfl rfl rfl rfl (vs := [.int .i64 v1]) rfl rfl rfl hq3 rfl ?_
  intro x4 hq4 n4 _
  have hq4 : BX x4 q 73 ((SegV.mk v0 v1 0 0 0 0 ⟨#[]⟩).hd a b) := hq4
  refine Ls.nil (N.goOn (fun _ => True.intro) ?_)
  have g4 : Mv (· = q) u0 x4 := ((n2.mono fun _ h => h.elim).trans n3).trans n4
  refine H.done (by kernel_rfl) (N.to ?_)
  clear s0 n0 n1 n2 n3 n4 hq3 hq0
  -- the numbers
  have k1 : Kn (IntKind.u32.wrap v2) (v2 % 4294967296) := .of (by rw [IntKind.wrap_u32])
  have k2 : Kn (IntKind.u32.wrap v3) (v3 % 4294967296) := .of (by rw [IntKind.wrap_u32])
  refine W.seq (W.held mixed (fun w' => True) [] 14 rfl (fun w' s => True.intro) ?_)
  intro x0 s0
  apply H.takesK LO false [2, 6, 9, 11, 38, 42] [0, 1, 4, 5] (k := 10) rfl (by kernel_rfl)
  · repeat' (first | rfl | with_reducible assumption | assumption | (intro w' hw'; replace hw' := True.intro) | constructor)
  intro g_ hg_
  replace hg_ : g_ = [(2, _), (6, _), (9, _), (11, _), (38, _), (42, _)] := hg_
  subst hg_
  have n0 : Mv (fun _ => False) x4 x0 := (Mv.refl _ x4).same s0
  refine H.only (i := 2) rfl (by kernel_rfl) ?_
  refine Ls.call LO rfl rfl rfl rfl rfl (vs := [.string (s.extract 4 8)]) rfl (num_walk (s.extract 4 8) x0 (by simp; omega)) ?_
  rintro _ x1 ⟨rfl, n1⟩
  have n1 := n0.trans n1
  rw [← hv2]
  refine ⟨_, rfl, Ls.nil (N.goOn (fun _ => True.intro) ?_)⟩
  apply H.takesK LO false [2, 6, 9, 11, 40, 42, 46] [3, 8, 9] (k := 6) rfl (by kernel_rfl)
  · repeat' (first | rfl | with_reducible assumption | assumption | (intro w' hw'; replace hw' := True.intro) | constructor)
  intro g_ hg_
  replace hg_ : g_ = [(2, _), (6, _), (9, _), (11, _), (40, _), (42, _), (46, _)] := hg_
  subst hg_
  refine H.only (i := 6) rfl (by kernel_rfl) ?_
  refine Ls.call LO rfl rfl rfl rfl rfl (vs := [.string (s.extract 8 12)]) rfl (num_walk (s.extract 8 12) x1 (by simp; omega)) ?_
  rintro _ x2 ⟨rfl, n2⟩
  have n2 := n1.trans n2
  rw [← hv3]
  refine ⟨_, rfl, Ls.nil (N.goOn (fun _ => True.intro) ?_)⟩
  apply H.takesK LO false [2, 6, 9, 11, 40, 44, 46] [7] (k := 4) rfl (by kernel_rfl)
  · repeat' (first | rfl | with_reducible assumption | assumption | (intro w' hw'; replace hw' := True.intro) | constructor)
  intro g_ hg_
  replace hg_ : g_ = [(2, _), (6, _), (9, _), (11, _), (40, _), (44, _), (46, _)] := hg_
  subst hg_
  refine H.only (i := 10) rfl (by kernel_rfl) ?_
  refine Ls.store LO rfl rfl rfl rfl rfl (vs := [.int .u32 (v2 % 4294967296)]) rfl rfl rfl (hq4.moved n2 fun e => e) rfl ?_
  intro x3 hq3 n3 _
  have hq3 : BX x3 q 73 ((SegV.mk v0 v1 (v2 % 4294967296) 0 0 0 ⟨#[]⟩).hd a b) := hq3
  refine Ls.nil (N.goOn (fun _ => True.intro) ?_)
  apply H.takesK LO false [2, 6, 9, 11, 44, 48] [11, 12] (k := 1) rfl (by kernel_rfl)
  · repeat' (first | rfl | with_reducible assumption | assumption | (intro w' hw'; replace hw' := True.intro) | constructor)
  intro g_ hg_
  replace hg_ : g_ = [(2, _), (6, _), (9, _), (11, _), (44, _), (48, _)] := hg_
  subst hg_
  refine H.only (i := 13) rfl (by kernel_rfl) ?_
  refine Ls.store LO rfl rfl rfl rfl rfl (vs := [.int .u32 (v3 % 4294967296)]) rfl rfl rfl hq3 rfl ?_
  intro x5 hq5 n5 _
  have hq5 : BX x5 q 73 ((SegV.mk v0 v1 (v2 % 4294967296) (v3 % 4294967296) 0 0 ⟨#[]⟩).hd a b) := hq5
  refine Ls.nil (N.goOn (fun _ => True.intro) ?_)
  have g5 : Mv (· = q) u0 x5 := g4.trans (((n2.mono fun _ h => h.elim).trans n3).trans n5)
  refine H.done (by kernel_rfl) (N.to ?_)
  clear s0 n0 n1 n2 n3 n5 hq3 hq4 g4 k1 k2
  -- the rest
  have i2 : (0 : Int) ≤ 13 := by decide
  have i3 : (13 : Int) < (s.size : Int) := by omega
  have k1 : Kn (IntKind.i64.wrap (bt s 13)) v4 := .of (by rw [hv4]; exact IntWalk.i64_in _ (by omega))
  have l0 : (0 : Int) ≤ 20 := by decide
  have l1 : (20 : Int) ≤ ((lenT s : Nat) : Int) := by omega
  have l2 : ((lenT s : Nat) : Int) ≤ (s.size : Int) := by omega
  refine W.seq (W.held mixed (fun w' => True) [] 18 rfl (fun w' s => True.intro) ?_)
  intro x0 s0
  apply H.takesK LO false [2, 6, 9, 11, 51, 53, 57, 59] [0, 1, 2, 3, 4, 6, 7, 8, 9, 10] (k := 8) rfl (by kernel_rfl)
  · repeat' (first | rfl | with_reducible assumption | assumption | (intro w' hw'; replace hw' := True.intro) | constructor)
  intro g_ hg_
  replace hg_ : g_ = [(2, _), (6, _), (9, _), (11, _), (51, _), (53, _), (57, _), (59, _)] := hg_
  subst hg_
  have n0 : Mv (fun _ => False) x5 x0 := (Mv.refl _ x5).same s0
  refine H.only (i := 5) rfl (by kernel_rfl) ?_
  refine Ls.call LO rfl rfl rfl rfl rfl (vs := [.string (s.extract 14 16)]) rfl (num_walk (s.extract 14 16) x0 (by simp; omega)) ?_
  rintro _ x1 ⟨rfl, n1⟩
  have n1 := n0.trans n1
  rw [← hv5]
  refine ⟨_, rfl, Ls.nil (N.goOn (fun _ => True.intro) ?_)⟩
  refine H.only (i := 11) rfl (by kernel_rfl) ?_
  refine Ls.store LO rfl rfl rfl rfl rfl (vs := [.int .i64 v4]) rfl rfl rfl (hq5.moved n1 fun e => e) rfl ?_
  intro x2 hq2 n2 _
  have hq2 : BX x2 q 73 ((SegV.mk v0 v1 (v2 % 4294967296) (v3 % 4294967296) v4 0 ⟨#[]⟩).hd a b) := hq2
  refine Ls.nil (N.goOn (fun _ => True.intro) ?_)
  apply H.takesK LO false [2, 6, 9, 11, 54, 57, 61] [12, 13] (k := 4) rfl (by kernel_rfl)
  · repeat' (first | rfl | with_reducible assumption | assumption | (intro w' hw'; replace hw' := True.intro) | constructor)
  intro g_ hg_
  replace hg_ : g_ = [(2, _), (6, _), (9, _), (11, _), (54, _), (57, _), (61, _)] := hg_
  subst hg_
  refine H.only (i := 14) rfl (by kernel_rfl) ?_
  refine Ls.store LO rfl rfl rfl rfl rfl (vs := [.int .i64 v5]) rfl rfl rfl hq2 rfl ?_
  intro x3 hq3 n3 _
  have hq3 : BX x3 q 73 ((SegV.mk v0 v1 (v2 % 4294967296) (v3 % 4294967296) v4 v5 ⟨#[]⟩).hd a b) := hq3
  refine Ls.nil (N.goOn (fun _ => True.intro) ?_)
  apply H.takesK LO false [2, 6, 9, 11, 57, 63] [15, 16] (k := 1) rfl (by kernel_rfl)
  · repeat' (first | rfl | with_reducible assumption | assumption | (intro w' hw'; replace hw' := True.intro) | constructor)
  intro g_ hg_
  replace hg_ : g_ = [(2, _), (6, _), (9, _), (11, _), (57, _), (63, _)] := hg_
  subst hg_
  refine H.only (i := 17) rfl (by kernel_rfl) ?_
  refine Ls.store LO rfl rfl rfl rfl rfl (vs := [.string o_]) (by rw [ho_]; rfl) rfl rfl hq3 rfl ?_
  intro x6 hq6 n6 _
  have hq6 : BX x6 q 73 ((SegV.mk v0 v1 (v2 % 4294967296) (v3 % 4294967296) v4 v5 o_).hd a b) := hq6
  refine Ls.nil (N.goOn (fun _ => True.intro) ?_)
  have g6 : Mv (· = q) u0 x6 := g5.trans ((((n1.mono fun _ h => h.elim).trans n2).trans n3).trans n6)
  refine H.done (by kernel_rfl) (N.to ?_)
  clear s0 n0 n1 n2 n3 n6 hq3 hq2 hq5 g5 k1
  -- the end
  obtain ⟨R, hR⟩ : ∃ R : SegV, R = ⟨v0, v1, v2 % 4294967296, v3 % 4294967296, v4, v5, o_⟩ := ⟨_, rfl⟩
  rw [← hR] at hq6
  have hp6 : BX x6 p 26 segZ.cs := hp0.moved g6 fun e => by omega
  have F1 : ∀ w', Mv (fun _ => False) x6 w' → CellsAt w' q 0 7 R.cs := fun w' m => cellsAt_of fun j u hj => by
    have hlt : j < R.cs.length := (List.getElem?_eq_some_iff.1 hj).1
    have e : (R.hd a b)[j]? = some u := by
      show (R.cs ++ [.int .u32 a, .int .u32 b])[j]? = some u
      rw [List.getElem?_append_left hlt]; exact hj
    rw [Nat.zero_add]
    exact ((hq6.moved m fun e => e).cl e).h
  refine W.seq (W.held mixed (fun w' => Mv (fun _ => False) x6 w') [5] 8 rfl (fun w' s => (Mv.refl _ x6).same s) ?_)
  intro x0 s0
  apply H.takesK LO true [2, 6, 11, 65] [0, 1] (k := 6) rfl (by kernel_rfl)
  · repeat' (first | rfl | with_reducible assumption | assumption | (intro w' hw'; replace hw' := hw' rfl; have h0' := F1 w' hw') | constructor)
  intro g_ hg_
  replace hg_ : g_ = [(2, _), (6, _), (11, _), (65, _)] := hg_
  subst hg_
  apply H.takesK LO false [6, 65, 68] [2, 3, 4] (k := 3) rfl (by kernel_rfl)
  · repeat' (first | rfl | with_reducible assumption | assumption | (intro w' hw'; replace hw' := True.intro) | constructor)
  intro g_ hg_
  replace hg_ : g_ = [(6, _), (65, _), (68, _)] := hg_
  subst hg_
  have n0 : Mv (fun _ => False) x6 x0 := (Mv.refl _ x6).same s0
  refine H.only (i := 5) rfl (by kernel_rfl) ?_
  refine Ls.store LO rfl rfl rfl rfl rfl (vs := R.cs) rfl rfl rfl (hp6.same s0) rfl ?_
  intro x7 hp7 n7 _
  have hp7 : BX x7 p 26 R.cs := hp7
  refine Ls.nil (N.goOn (fun hint => absurd (show true = false from hint 5 List.mem_cons_self) (by decide)) ?_)
  apply H.takesK LO false [6, 7, 8] [6, 7] (k := 0) rfl (by kernel_rfl)
  · repeat' (first | rfl | with_reducible assumption | assumption | (intro w' hw'; replace hw' := True.intro) | constructor)
  intro g_ hg_
  replace hg_ : g_ = [(6, _), (7, _), (8, _)] := hg_
  subst hg_
  refine H.done (by kernel_rfl) (N.to ?_)
  have e2 : s.extract (lenT s) s.size = s.extract (((lenT s : Nat) : Int)).toNat s.size := by rw [Int.toNat_natCast]
  refine W.ret (fin (R, s.extract (lenT s) s.size, 0) _ _ ?_ ?_ hp7 rfl (by rw [e2]; rfl) rfl)
  · unfold getT
    rw [if_pos hw0, hR, hv0, hv1, hv2, hv3, hv4, hv5, ho_]
    rfl
  · have hqw : w.heap.size ≤ q := by omega
    exact ((m0.cut g6 fun k hk e => by omega).same s0).cut n7 fun k hk e => by omega
end Go.Proofs.Ytbidgeaigiijpaa
