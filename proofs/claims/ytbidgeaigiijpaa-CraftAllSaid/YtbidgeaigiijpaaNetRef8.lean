/- What is proved: what the reference's PutICMP makes. Conditions: those that stand in each theorem. -/
import Derived.Test.YtbidgeaigiijpaaNetRef7
import Derived.Test.YtbidgeaigiijpaaNetCr6
namespace Go.Proofs.Ytbidgeaigiijpaa
set_option linter.unusedVariables false
set_option linter.unusedSimpArgs false
set_option linter.unusedSectionVars false
open Go.RowKit Fw Nt
set_option maxRecDepth 100000 in
set_option maxHeartbeats 1000000 in
theorem rcput_walk (k c r : Int) (body : ByteArray) (w : World) (hk : 0 ≤ k ∧ k ≤ 255) (hc : 0 ≤ c ∧ c ≤ 255) (hr : 0 ≤ r ∧ r ≤ 4294967295) (hb : 8 + body.size ≤ 2000) : Calls Try.prog 47 #[.agg (dgC k c r).toArray, .string body] w fun e w' => e = .returned (.tuple #[.string (icmpS k c r body), .int .i64 0]) ∧ Mv (fun _ => False) w w' := by
  refine calls_W (n := 54) (vs := [.agg (dgC k c r).toArray, .string body]) Try.func47 rfl rfl rfl ?_
  refine W.seq (W.list ?_)
  refine Ls.box rfl rfl rfl rfl rfl (vs := dgC k c r) rfl ?_
  have hb1 : BX (w.alloc (.cells (dgC k c r).toArray 56)) w.heap.size 56 (dgC k c r) := heap_alloc_new w (.cells (dgC k c r).toArray 56)
  have m1 : Mv (fun _ => False) w (w.alloc (.cells (dgC k c r).toArray 56)) := (Mv.refl _ w).alloc _
  generalize w.alloc (.cells (dgC k c r).toArray 56) = w1 at hb1 m1
  generalize w.heap.size = p at hb1
  apply Ls.runK LO [1, 2] 2
  · repeat' (first | rfl | with_reducible assumption | assumption | constructor)
  intro w2 f2 s2 hf2
  replace hf2 : f2 = [(1, _), (2, _)] := hf2
  subst hf2
  refine Ls.nil (N.to ?_)
  have m2 := m1.same s2
  have hb2 := hb1.same s2
  clear m1 hb1 s2
  refine W.cutS (fun w' g => Mv (fun _ => False) w w' ∧ BX w' p 56 (dgC k c r) ∧ g = [(1, .string body), (2, .pointer (some ⟨p, 0, none⟩))]) ?_ ?_
  · refine W.block ?_
    have d2 : Cl w2 ⟨p, 0 + 2, none⟩ (.int .i64 k) := hb2.cl rfl
    have d3 : Cl w2 ⟨p, 0 + 3, none⟩ (.int .i64 c) := hb2.cl rfl
    have a1 : Kn (decide (k < 0)) false := .no (by omega)
    have a2 : Kn (decide (255 < k)) false := .no (by omega)
    have a3 : Kn (decide (c < 0)) false := .no (by omega)
    have a4 : Kn (decide (255 < c)) false := .no (by omega)
    apply W.readS LO mixed [1, 2, 8] (by kernel_rfl)
    · repeat' (first | rfl | with_reducible assumption | assumption | constructor)
    intro w6 f6 s6 hf6
    replace hf6 : f6 = [(1, _), (2, _), (8, _)] := hf6
    subst hf6
    refine W.cond (b := false) rfl (fun h => by cases h) (fun _ => ?_)
    have m6 := m2.same s6
    have hb6 := hb2.same s6
    have k2 : Kn (decide (1992 < (body.size : Int))) false := .no (by omega)
    apply W.readS LO mixed [1, 2, 27] (by kernel_rfl)
    · repeat' (first | rfl | with_reducible assumption | assumption | constructor)
    intro w7 f7 s7 hf7
    replace hf7 : f7 = [(1, _), (2, _), (27, _)] := hf7
    subst hf7
    refine W.cond (b := false) rfl (fun h => by cases h) (fun _ => W.skip ?_)
    exact N.inb (N.cut ⟨m6.same s7, hb6.same s7, rfl⟩ (sub_keys rfl))
  clear m2 hb2
  rintro w4 _ ⟨m4, hb4, rfl⟩
  have F2 : ∀ w', Mv (fun _ => False) w4 w' → Cl w' ⟨p, 0 + 2, none⟩ (.int .i64 k) := fun w' m => (hb4.moved m fun e => e).cl rfl
  have F3 : ∀ w', Mv (fun _ => False) w4 w' → Cl w' ⟨p, 0 + 3, none⟩ (.int .i64 c) := fun w' m => (hb4.moved m fun e => e).cl rfl
  refine W.seq (W.held mixed (fun w' => Mv (fun _ => False) w4 w') [] 8 rfl (fun w' s => (Mv.refl _ w4).same s) ?_)
  intro x0 s0
  have m0 : Mv (fun _ => False) w4 x0 := (Mv.refl _ w4).same s0
  apply H.takesK LO true [1, 2, 32, 35] [0, 1, 3, 4] (k := 4) rfl (by kernel_rfl)
  · repeat' (first | rfl | with_reducible assumption | assumption | (intro w' hw'; replace hw' := hw' rfl; have h0' := F2 w' hw'; have h1' := F3 w' hw') | constructor)
  intro g_ hg_
  replace hg_ : g_ = [(1, _), (2, _), (32, _), (35, _)] := hg_
  subst hg_
  refine H.only (i := 2) rfl (by kernel_rfl) ?_
  refine Ls.call LO rfl rfl rfl rfl rfl (vs := [.int .i64 k, .int .i64 1]) rfl (rbig_walk k 1 x0 (by decide)) ?_
  rintro _ x1 ⟨rfl, n1⟩
  have n1 := m0.trans n1
  refine ⟨_, rfl, Ls.nil (N.goOn (fun _ => n1) ?_)⟩
  refine H.only (i := 5) rfl (by kernel_rfl) ?_
  refine Ls.call LO rfl rfl rfl rfl rfl (vs := [.int .i64 c, .int .i64 1]) rfl (rbig_walk c 1 x1 (by decide)) ?_
  rintro _ x2 ⟨rfl, n2⟩
  have n2 := n1.trans n2
  refine ⟨_, rfl, Ls.nil (N.goOn (fun _ => n2) ?_)⟩
  have z1 := sz2 (szb k 1) (szb c 1) (by decide)
  apply H.takesK LO false [1, 2, 6] [6, 7] (k := 0) rfl (by kernel_rfl)
  · repeat' (first | rfl | with_reducible assumption | assumption | (intro w' hw'; replace hw' := True.intro) | constructor)
  intro g_ hg_
  replace hg_ : g_ = [(1, _), (2, _), (6, _)] := hg_
  subst hg_
  refine H.done (by kernel_rfl) (N.to ?_)
  have m5 := m4.trans n2
  have hb5 := hb4.moved n2 fun e => e
  obtain ⟨A, hA⟩ : ∃ A, A = bigS k 1 ++ bigS c 1 := ⟨_, rfl⟩
  have y1 : A.size ≤ 2 := by rw [hA]; exact szap (szb k 1) (szb c 1)
  rw [← hA]
  clear F2 F3 m0 n1 n2 s0 z1 m4 hb4
  have d4 : Cl x2 ⟨p, 0 + 4, none⟩ (.int .u32 r) := hb5.cl rfl
  have kr : Kn (IntKind.i64.wrap r) r := i64k (by omega)
  refine W.seq (W.list ?_)
  apply Ls.runK LO [1, 6, 40] 3
  · repeat' (first | rfl | with_reducible assumption | assumption | constructor)
  intro u0 e0 r0 he0
  replace he0 : e0 = [(1, _), (6, _), (40, _)] := he0
  subst he0
  refine Ls.call LO rfl rfl rfl rfl rfl (vs := [.int .i64 r, .int .i64 4]) rfl (rbig_walk r 4 u0 (by decide)) ?_
  rintro _ u1 ⟨rfl, l1⟩
  refine ⟨_, rfl, ?_⟩
  have hbs : body.size ≤ 1992 := by omega
  have z2 := sz2 (szb r 4) hbs (by decide)
  apply Ls.runK LO [6, 7] 3
  · repeat' (first | rfl | with_reducible assumption | assumption | constructor)
  intro u2 e2 r2 he2
  replace he2 : e2 = [(6, _), (7, _)] := he2
  subst he2
  refine Ls.nil (N.to ?_)
  have m6 := ((m5.same r0).trans l1).same r2
  obtain ⟨B, hB⟩ : ∃ B, B = bigS r 4 ++ body := ⟨_, rfl⟩
  have y2 : B.size ≤ 1996 := by rw [hB]; exact szap (szb r 4) hbs
  rw [← hB]
  clear z2 m5 hb5 d4 kr
  have c2 : (⟨#[0, 0]⟩ : ByteArray).size ≤ 2 := by decide
  have z1 := sz2 y1 c2 (by decide)
  have z2' := sz2 (szap y1 c2) y2 (by decide)
  have q2 := szap (szap y1 c2) y2
  refine W.seq (W.list ?_)
  apply Ls.runK LO [7, 44, 48] 5
  · repeat' (first | rfl | with_reducible assumption | assumption | constructor)
  intro u3 e3 r3 he3
  replace he3 : e3 = [(7, _), (44, _), (48, _)] := he3
  subst he3
  have hcl : (A ++ (⟨#[0, 0]⟩ : ByteArray) ++ B).data.toList = A.data.toList ++ (Nt.z2.data.toList ++ B.data.toList) := by rw [app_list, app_list, List.append_assoc]; rfl
  obtain ⟨X, hX⟩ : ∃ X, X = A ++ (⟨#[0, 0]⟩ : ByteArray) ++ B := ⟨_, rfl⟩
  rw [← hX] at q2 hcl
  rw [← hX]
  refine Ls.call LO rfl rfl rfl rfl rfl (vs := [.string X]) rfl (rof_says X u3 (Nat.le_trans q2 (by decide))) ?_
  rintro _ u4 ⟨rfl, r4⟩
  refine ⟨_, rfl, ?_⟩
  rw [hcl]
  obtain ⟨S_, hS⟩ : ∃ S_, S_ = sumOf (A.data.toList ++ (Nt.z2.data.toList ++ B.data.toList)) := ⟨_, rfl⟩
  rw [← hS]
  refine Ls.call LO rfl rfl rfl rfl rfl (vs := [.int .i64 S_, .int .i64 2]) rfl (rbig_walk S_ 2 u4 (by decide)) ?_
  rintro _ u5 ⟨rfl, l5⟩
  refine ⟨_, rfl, ?_⟩
  have m8 := ((m6.same r3).same r4).trans l5
  have z1 := sz2 y1 (szb S_ 2) (by decide)
  have z2' := sz2 (szap y1 (szb S_ 2)) y2 (by decide)
  apply Ls.runK LO [4, 5] 5
  · repeat' (first | rfl | with_reducible assumption | assumption | constructor)
  intro u6 e6 r6 he6
  replace he6 : e6 = [(4, _), (5, _)] := he6
  subst he6
  have eI : A ++ bigS S_ 2 ++ B = icmpS k c r body := by rw [hS, hA, hB]; rfl
  rw [eI]
  exact Ls.nil (N.to (W.ret (post LO (rs := [.tmp 4, .tmp 5]) rfl (vs := [.string (icmpS k c r body), .int .i64 0]) (.tmp rfl (.tmp rfl .nil)) ⟨rfl, m8.same r6⟩)))
end Go.Proofs.Ytbidgeaigiijpaa
