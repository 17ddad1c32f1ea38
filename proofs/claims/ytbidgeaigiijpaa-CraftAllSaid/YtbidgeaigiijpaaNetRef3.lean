/- What is proved: the reference's bytes of a number. Conditions: those that stand in each theorem. -/
import Derived.Test.YtbidgeaigiijpaaNetRef2
namespace Go.Proofs.Ytbidgeaigiijpaa
set_option linter.unusedVariables false
set_option linter.unusedSimpArgs false
set_option linter.unusedSectionVars false
open Go.RowKit Fw Nt
theorem bigS_app (v : Int) (i : Nat) : strOfNums [(v / 256 ^ i) % 256] ++ bigS v i = bigS v (i + 1) := by
  apply ba_ext
  rw [app_list, bigS_cons]
  simp [strOfNums_data]
theorem div_next (v : Int) (i : Nat) : v / 256 ^ i / 256 = v / 256 ^ (i + 1) := by
  rw [Int.ediv_ediv_of_nonneg (Int.le_of_lt (Int.pow_pos (by decide))), Int.pow_succ]
set_option maxRecDepth 100000 in
set_option maxHeartbeats 4000000 in
theorem rbig_walk (v : Int) (n : Nat) (w : World) (hn : n ≤ 8) : Calls Try.prog 65 #[.int .i64 v, .int .i64 n] w fun e w' => e = .returned (.string (bigS v n)) ∧ Mv (fun _ => False) w w' := by
  obtain ⟨iB, hiB, hzB, hsB, hbB⟩ := info_parts info_u8
  refine calls_W (n := 25) (vs := [.int .i64 v, .int .i64 n]) Try.func65 rfl rfl rfl ?_
  apply W.readS LO mixed [0, 1] (by kernel_rfl)
  · repeat' (first | rfl | with_reducible assumption | assumption | constructor)
  intro w1 f1 s1 hf1
  replace hf1 : f1 = [(0, _), (1, _)] := hf1
  subst hf1
  apply W.readS LO mixed [0, 1, 5] (by kernel_rfl)
  · repeat' (first | rfl | with_reducible assumption | assumption | constructor)
  intro w2 f2 s2 hf2
  replace hf2 : f2 = [(0, _), (1, _), (5, _)] := hf2
  subst hf2
  have s2 := s1.trans s2
  refine W.cutS (fun w' g => Mv (fun _ => False) w w' ∧ g = [(5, .string (bigS v n))]) ?_ ?_
  ·
    apply W.readS LO mixed [0, 1, 5, 6] (by kernel_rfl)
    · repeat' (first | rfl | with_reducible assumption | assumption | constructor)
    intro w3 f3 s3 hf3
    replace hf3 : f3 = [(0, _), (1, _), (5, _), (6, _)] := hf3
    subst hf3
    have m3 := (Mv.refl (fun _ => False) w).same (s2.trans s3)
    refine W.block (W.loop (fun k w' g => ∃ i : Nat, k + i = n ∧ Mv (fun _ => False) w w' ∧ g = [(0, .int .i64 (v / 256 ^ i)), (1, .int .i64 n), (5, .string (bigS v i)), (6, .int .i64 i)]) n _ ⟨0, rfl, m3, by rw [show v / 256 ^ 0 = v from Int.ediv_one v]⟩ (sub_keys rfl) ?_)
    clear s1 s2 s3 m3
    rintro k w4 _ ⟨i, hk, m4, rfl⟩
    by_cases hlt : i < n
    · have k1 : Kn (decide ((i : Int) < (n : Int))) true := .yes (by omega)
      have k2 : Kn (decide ((i : Int) < 8)) true := .yes (by omega)
      refine W.seq ?_
      apply W.readS LO mixed [0, 1, 5, 6, 13] (by kernel_rfl)
      · repeat' (first | rfl | with_reducible assumption | assumption | constructor)
      intro w5 f5 s5 hf5
      replace hf5 : f5 = [(0, _), (1, _), (5, _), (6, _), (13, _)] := hf5
      subst hf5
      have m5 := m4.same s5
      refine W.cond (b := true) rfl (fun _ => W.skip (N.to ?_)) (fun h => by cases h)
      obtain ⟨x, hx⟩ : ∃ x, x = v / 256 ^ i := ⟨_, rfl⟩
      have hx2 : x / 256 = v / 256 ^ (i + 1) := by rw [hx, div_next]
      have happ := bigS_app v i
      rw [← hx] at happ
      rw [← hx]
      have hz := bigS_size v i
      refine W.cutS (fun w' g => Mv (fun _ => False) w w' ∧ g = [(0, .int .i64 (v / 256 ^ (i + 1))), (1, .int .i64 n), (5, .string (bigS v (i + 1))), (6, .int .i64 i)]) ?_ ?_
      · refine W.block ?_
        have q1 : Kn (IntKind.u8.wrap x) (x % 256) := .of (IntKind.wrap_u8 _)
        refine W.seq (W.list ?_)
        apply Ls.runK LO [0, 1, 5, 6, 17] 2
        · repeat' (first | rfl | with_reducible assumption | assumption | constructor)
        intro w6 f6 s6 hf6
        replace hf6 : f6 = [(0, _), (1, _), (5, _), (6, _), (17, _)] := hf6
        subst hf6
        have m6 := m5.same s6
        refine Ls.buildSlice rfl rfl rfl rfl info_sl8 hiB hzB hsB rfl (ps := [(0, .int .u8 (x % 256))]) rfl rfl rfl (cells := [.int .u8 (x % 256)]) (by rw [hsB]; exact fill_one _ _ rfl rfl) ?_
        have hb7 := heap_alloc_new w6 (.cells [Value.int .u8 (x % 256)].toArray 5)
        have m7 : Mv (fun _ => False) w6 (w6.alloc (.cells [.int .u8 (x % 256)].toArray 5)) := (Mv.refl _ w6).alloc _
        generalize w6.alloc (.cells [Value.int .u8 (x % 256)].toArray 5) = w7 at hb7 m7
        generalize w6.heap.size = b at hb7
        have cv := conv_bytes (P := Try.prog) (c := 1) (m := 1) (xs := [x % 256]) info_sl8 und_u8 und_str hb7 rfl
        have m7 := m6.trans m7
        have z1 : (strOfNums [x % 256]).size + (bigS v i).size ≤ 9223372036854775807 := by
          rw [strOfNums_size, bigS_size]
          show 1 + i ≤ _
          omega
        apply Ls.runK LO [0, 1, 5, 6] 4
        · repeat' (first | rfl | with_reducible assumption | assumption | constructor)
        intro w8 f8 s8 hf8
        replace hf8 : f8 = [(0, _), (1, _), (5, _), (6, _)] := hf8
        subst hf8
        rw [happ]
        refine Ls.nil (N.to ?_)
        have p8 : (0 : Int) ≤ 8 := by decide
        have q2 : Kn (x.fdiv (2 ^ (min (8 : Int).toNat IntKind.i64.bits))) (v / 256 ^ (i + 1)) := fdivk (by decide) hx2
        apply W.readN LO mixed [0, 1, 5, 6] (by kernel_rfl)
        · repeat' (first | rfl | with_reducible assumption | assumption | constructor)
        intro w9 f9 s9 hf9
        replace hf9 : f9 = [(0, _), (1, _), (5, _), (6, _)] := hf9
        subst hf9
        exact N.inb (N.cut ⟨(m7.same s8).same s9, rfl⟩ (sub_keys rfl))
      · rintro w6 _ ⟨m6, rfl⟩
        have k6 : Kn (IntKind.i64.wrap ((i : Int) + 1)) ((i + 1 : Nat) : Int) := i64k (by omega)
        apply W.readN LO mixed [0, 1, 5, 6] (by kernel_rfl)
        · repeat' (first | rfl | with_reducible assumption | assumption | constructor)
        intro w7 f7 s7 hf7
        replace hf7 : f7 = [(0, _), (1, _), (5, _), (6, _)] := hf7
        subst hf7
        exact N.round (k - 1) _ (by omega) ⟨i + 1, by omega, m6.same s7, rfl⟩ (sub_keys rfl)
    · have k1 : Kn (decide ((i : Int) < (n : Int))) false := .no (by omega)
      obtain rfl : i = n := by omega
      refine W.seq ?_
      apply W.readS LO mixed [5, 13] (by kernel_rfl)
      · repeat' (first | rfl | with_reducible assumption | assumption | constructor)
      intro w5 f5 s5 hf5
      replace hf5 : f5 = [(5, _), (13, _)] := hf5
      subst hf5
      refine W.cond (b := false) rfl (fun h => by cases h) (fun _ => W.exit ?_)
      exact N.thenE (N.thenE (N.out (N.cut ⟨m4.same s5, rfl⟩ (sub_keys rfl))))
  rintro w3 _ ⟨m3, rfl⟩
  apply W.readS LO mixed [4] (by kernel_rfl)
  · repeat' (first | rfl | with_reducible assumption | assumption | constructor)
  intro w4 f4 s4 hf4
  replace hf4 : f4 = [(4, _)] := hf4
  subst hf4
  exact W.ret (post LO (rs := [.tmp 4]) rfl (vs := [.string (bigS v n)]) (.tmp rfl .nil) ⟨rfl, m3.same s4⟩)
end Go.Proofs.Ytbidgeaigiijpaa
