/- What is proved: a short text by three numbers. Conditions: those that stand in each theorem. -/
import Derived.Test.YtbbafhpnlmmjjaaGrpBoth1
namespace Go.Proofs.Ytbbafhpnlmmjjaa
set_option linter.unusedVariables false
set_option linter.unusedSimpArgs false
set_option linter.unusedSectionVars false
open Go.RowKit Fw
theorem info_u8 : (Try.prog.info? 5).map (fun i => (i.zero, i.size, i.bytes)) = some (some (.int .u8 0), 1, 1) := by kernel_rfl
theorem info_sl8 : Try.prog.underlying 73 = some (.slice 5) := by kernel_rfl
theorem und_u8 : Try.prog.underlying 5 = some (.int .u8) := by kernel_rfl
theorem und_str : Try.prog.underlying 9 = some .string := by kernel_rfl
theorem own_str {P : Program} {w : World} {base n : Nat} {e' src dst e : TypeId} {v : Value} {xs : List Int} (hs : P.underlying src = some (.slice e)) (he : P.underlying e = some (.int .u8)) (hd : P.underlying dst = some .string)
    (h : w.ownsRow base e' 1 v n (xs.map (Value.int .u8))) : (convert src dst v).run P w = .ok (.string (strOfNums xs)) w := by
  have hl : xs.length = n := by have := h.1; simpa using this
  rcases h.2 with ⟨rfl, rfl⟩ | ⟨g, cap, cur, rfl, _⟩
  · obtain rfl : xs = [] := List.eq_nil_of_length_eq_zero hl
    exact run_convert_bytes_nil w src e hs he 0 0 dst hd
  · refine run_convert_bytes_arg w src e hs he g 0 n cap xs hl (fun i hi => ?_) dst hd
    have hc := h.cells (g := g) rfl i (.int .u8 (xs.getD i 0)) (by simp [List.getElem?_eq_getElem (show i < xs.length by omega), List.getD_eq_getElem?_getD])
    have ha : (⟨g, 0, none⟩ : Addr).add i = ⟨g, 0 + i, none⟩ := by unfold Addr.add; split <;> simp_all
    rwa [ha] at hc
theorem size_nums (xs : List Int) : (strOfNums xs).size = xs.length := by
  unfold strOfNums
  show (Array.size _) = _
  simp
def LettersPost (w : World) (e : Ending) (w' : World) : Prop := ∃ s : ByteArray, e = .returned (.string s) ∧ s.size ≤ 1000 ∧ Mv (fun _ => False) w w'
set_option maxRecDepth 100000 in
set_option maxHeartbeats 4000000 in
/-- A short text by two numbers. -/
theorem letters_walk (b : Nat) (c : Nat) (x y z : Int) (n : Nat) (w : World) (hn : n ≤ 100) (hb : w.heap[b]? = some (.cells [.int .i64 x, .int .i64 y, .int .i64 z].toArray 3 (0, 0))) (hx : -9223372036854775808 ≤ x ∧ x ≤ 9223372036854775807) (hy : -9223372036854775808 ≤ y ∧ y ≤ 9223372036854775807) (hz : -9223372036854775808 ≤ z ∧ z ≤ 9223372036854775807) :
    Calls Try.prog 29 #[.slice (some ⟨b, 0, none⟩) 3 c, .int .i64 n] w (LettersPost w) := by
  obtain ⟨iB, hiB, hzB, hsB, hbB⟩ := info_parts info_u8
  refine calls_W (n := 37) (vs := [.slice (some ⟨b, 0, none⟩) 3 c, .int .i64 n]) Try.func29 rfl rfl rfl ?_
  apply W.readS LO mixed [0, 1] (by kernel_rfl)
  · repeat' (first | rfl | with_reducible assumption | assumption | constructor)
  intro w1 f1 s1 hf1
  replace hf1 : f1 = [(0, _), (1, _)] := hf1
  subst hf1
  apply W.readS LO mixed [0, 1, 5] (by kernel_rfl)
  · repeat' (first | rfl | with_reducible assumption | assumption | constructor)
  intro w2 f2 s2 hf2
  replace hf2 : f2 = [(0, _), (1, _), (5, _)] := hf2
  subst hf2
  refine W.cutS (fun w' g => ∃ (v : Value) (xs : List Int), Own w' 5 v (xs.map (.int .u8)) ∧ xs.length ≤ 1000 ∧ Mv (fun _ => False) w w' ∧ g = [(5, v)]) ?_ ?_
  ·
    apply W.readS LO mixed [0, 1, 5, 6] (by kernel_rfl)
    · repeat' (first | rfl | with_reducible assumption | assumption | constructor)
    intro w3 f3 s3 hf3
    replace hf3 : f3 = [(0, _), (1, _), (5, _), (6, _)] := hf3
    subst hf3
    have hb3 : w3.heap[b]? = some (.cells [.int .i64 x, .int .i64 y, .int .i64 z].toArray 3 (0, 0)) := by rw [s3.heap, s2.heap, s1.heap]; exact hb
    have hm3 : Mv (fun _ => False) w w3 := (((Mv.refl _ w).same s1).same s2).same s3
    have hz3 : w3.heap.size = w.heap.size := by rw [s3.heap, s2.heap, s1.heap]
    refine W.block (W.loop (fun k w' g => ∃ (i : Nat) (v : Value) (xs : List Int), k + i = n ∧ Own w' 5 v (xs.map (.int .u8)) ∧ xs.length = i ∧ (∀ k, v.ownBlock = some k → w.heap.size ≤ k) ∧ Mv (fun _ => False) w w' ∧ g = [(0, .slice (some ⟨b, 0, none⟩) 3 c), (1, .int .i64 n), (5, v), (6, .int .i64 i)]) n _ ⟨0, .slice none 0 0, [], rfl, Own.nil _ _, rfl, (fun k h => by cases h), hm3, rfl⟩ (sub_keys rfl) ?_)
    clear hb3 hm3 hz3 s1 s2 s3
    rintro k w4 _ ⟨i, v, xs, hki, hO, hlen, hown, hm4, rfl⟩
    by_cases hlt : i < n
    · have k1 : Kn (decide ((i : Int) < (n : Int))) true := .yes (by omega)
      refine W.seq ?_
      apply W.readS LO mixed [0, 1, 5, 6, 14] (by kernel_rfl)
      · repeat' (first | rfl | with_reducible assumption | assumption | constructor)
      intro w5 f5 s5 hf5
      replace hf5 : f5 = [(0, _), (1, _), (5, _), (6, _), (14, _)] := hf5
      subst hf5
      have hm5 := hm4.same s5
      have hO := hO.same s5
      refine W.cond (b := true) rfl (fun _ => W.skip (N.to ?_)) (fun h => by cases h)
      have hb5 : w5.heap[b]? = some (.cells [.int .i64 x, .int .i64 y, .int .i64 z].toArray 3 (0, 0)) := (hm5.block b (Array.getElem?_eq_some_iff.1 hb).1 (fun e => e)).trans hb
      refine W.cutS (fun w' g => (∃ (v : Value) (xs : List Int), Own w' 5 v (xs.map (.int .u8)) ∧ xs.length = i + 1 ∧ (∀ k, v.ownBlock = some k → w.heap.size ≤ k) ∧ Mv (fun _ => False) w w' ∧ g = [(0, .slice (some ⟨b, 0, none⟩) 3 c), (1, .int .i64 n), (5, v), (6, .int .i64 i)])) ?_ ?_
      · refine W.block ?_
        obtain ⟨j, hj⟩ : ∃ j, j = i % 3 := ⟨_, rfl⟩
        have hj2 : j < 3 := by omega
        have r0 : (3 : Int) ≠ 0 := by decide
        have k2 : Kn ((i : Int).tmod 3) (j : Int) := .of (by rw [Int.tmod_eq_emod_of_nonneg (by omega)]; omega)
        have i0 : (0 : Int) ≤ (j : Int) := by omega
        have i1 : (j : Int) < ((3 : Nat) : Int) := by omega
        obtain ⟨u, hu, huc⟩ : ∃ u : Int, (-9223372036854775808 ≤ u ∧ u ≤ 9223372036854775807) ∧ w5.cell? ⟨b, 0 + (j : Int).toNat * 1, none⟩ = some (.int .i64 u) := by
          rcases (show j = 0 ∨ j = 1 ∨ j = 2 by omega) with rfl | rfl | rfl
          · exact ⟨x, hx, by unfold World.cell?; rw [hb5]; rfl⟩
          · exact ⟨y, hy, by unfold World.cell?; rw [hb5]; rfl⟩
          · exact ⟨z, hz, by unfold World.cell?; rw [hb5]; rfl⟩
        have cu : Cl w5 ⟨b, 0 + (j : Int).toNat * 1, none⟩ (.int .i64 u) := ⟨huc⟩
        have qA : ∀ w', Same w5 w' → Calls Try.prog 15 #[.int .i64 u, .int .i64 1073741824] w' fun e w'' => e = .returned (.int .i64 (u % 1073741824)) ∧ Same w5 w'' := quiet_of (w := w5) fun w' _ => place00_says u 1073741824 w' (by decide) (by decide) hu.1 hu.2
        have hA : 0 ≤ u % 1073741824 ∧ u % 1073741824 < 1073741824 := ⟨Int.emod_nonneg _ (by decide), Int.emod_lt_of_pos _ (by decide)⟩
        generalize u % 1073741824 = A at qA hA
        obtain ⟨i2, hi2⟩ : ∃ i2 : Nat, i2 = i * i := ⟨_, rfl⟩
        have hi2b : i2 ≤ 10000 := by rw [hi2]; exact Nat.mul_le_mul (show i ≤ 100 by omega) (show i ≤ 100 by omega)
        have k3 : Kn (IntKind.i64.wrap ((i : Int) * (i : Int))) (i2 : Int) := .of (by rw [show (i : Int) * (i : Int) = (i2 : Int) by rw [hi2]; exact (Int.natCast_mul i i).symm]; exact IntWalk.i64_in _ (by omega))
        obtain ⟨i3, hi3⟩ : ∃ i3 : Nat, i3 = i2 / 3 := ⟨_, rfl⟩
        have k4 : Kn (IntKind.i64.wrap ((i2 : Int).tdiv 3)) (i3 : Int) := .of (by rw [Int.tdiv_eq_ediv_of_nonneg (by omega), show (i2 : Int) / 3 = (i3 : Int) by omega]; exact IntWalk.i64_in _ (by omega))
        have k5 : Kn (IntKind.i64.wrap (A + (i3 : Int))) (A + i3) := .of (IntWalk.i64_in _ (by omega))
        have qB : ∀ w', Same w5 w' → Calls Try.prog 15 #[.int .i64 (A + i3), .int .i64 4] w' fun e w'' => e = .returned (.int .i64 ((A + i3) % 4)) ∧ Same w5 w'' := quiet_of (w := w5) fun w' _ => place00_says (A + i3) 4 w' (by decide) (by decide) (by omega) (by omega)
        have hB : 0 ≤ (A + i3) % 4 ∧ (A + i3) % 4 < 4 := ⟨Int.emod_nonneg _ (by decide), Int.emod_lt_of_pos _ (by decide)⟩
        generalize (A + i3) % 4 = B at qB hB
        have b0 : 0 ≤ B := hB.1
        have b1 : B < (((⟨#[97, 98, 99, 65]⟩ : ByteArray).size : Nat) : Int) := hB.2
        refine W.list ?_
        apply Ls.runK LO [0, 1, 6, 17, 32] 16
        · repeat' (first | rfl | with_reducible assumption | assumption | constructor)
        intro w6 f6 s6 hf6
        replace hf6 : f6 = [(0, _), (1, _), (6, _), (17, _), (32, _)] := hf6
        subst hf6
        have hm6 := hm5.same s6
        have hO := hO.same s6
        refine Ls.buildSlice rfl rfl rfl rfl info_sl8 hiB hzB hsB rfl (ps := [(0, .int .u8 (bt (⟨#[97, 98, 99, 65]⟩ : ByteArray) B))]) rfl rfl rfl (cells := [.int .u8 (bt (⟨#[97, 98, 99, 65]⟩ : ByteArray) B)]) (by rw [hsB]; exact fill_one _ _ rfl rfl) ?_
        have hrd := reads_one w6 5 (.int .u8 (bt (⟨#[97, 98, 99, 65]⟩ : ByteArray) B))
        have hm7 : Mv (fun _ => False) w6 (w6.alloc (.cells [.int .u8 (bt (⟨#[97, 98, 99, 65]⟩ : ByteArray) B)].toArray 5)) := (Mv.refl _ w6).alloc _
        generalize w6.alloc (.cells [Value.int .u8 (bt (⟨#[97, 98, 99, 65]⟩ : ByteArray) B)].toArray 5) = w7 at hrd hm7
        have hO7 := hO.moved hm7 (fun k _ e => e)
        refine Ls.append rfl rfl rfl rfl info_sl8 hiB hzB hsB hbB rfl rfl rfl hO7 hrd (fun u hu => by obtain rfl := List.mem_singleton.1 hu; rfl) (by simp only [List.length_map, List.length_singleton, maxLen]; omega) (by simp only [List.length_map, List.length_singleton]; omega) ?_
        intro v' w8 hO8 hm8 hb8
        apply Ls.runK LO [0, 1, 5, 6] 1
        · repeat' (first | rfl | with_reducible assumption | assumption | constructor)
        intro w9 f9 s9 hf9
        replace hf9 : f9 = [(0, _), (1, _), (5, _), (6, _)] := hf9
        subst hf9
        refine Ls.nil (N.inb (N.cut ⟨v', xs ++ [bt (⟨#[97, 98, 99, 65]⟩ : ByteArray) B], ?_, by simp [hlen], fun k hk => ?_, ?_, rfl⟩ (sub_keys rfl)))
        · rw [List.map_append]; exact hO8.same s9
        · rcases hb8 with e | e
          · exact hown k (by rw [← e]; exact hk)
          · rw [e] at hk
            have h1 : w7.heap.size = k := Option.some.inj hk
            have h2 := hm6.size
            have h3 := hm7.size
            omega
        · exact ((hm6.trans hm7).cut hm8 fun k hk e => by have := hown k e; omega).same s9
      · rintro w6 _ ⟨v', xs', hO', hlen', hown', hm', rfl⟩
        have k6 : Kn (IntKind.i64.wrap ((i : Int) + 1)) ((i + 1 : Nat) : Int) := .of (IntWalk.i64_in _ (by omega))
        apply W.readN LO mixed [0, 1, 5, 6] (by kernel_rfl)
        · repeat' (first | rfl | with_reducible assumption | assumption | constructor)
        intro w7 f7 s7 hf7
        replace hf7 : f7 = [(0, _), (1, _), (5, _), (6, _)] := hf7
        subst hf7
        exact N.round (k - 1) _ (by omega) ⟨i + 1, v', xs', by omega, hO'.same s7, hlen', hown', hm'.same s7, rfl⟩ (sub_keys rfl)
    · have k1 : Kn (decide ((i : Int) < (n : Int))) false := .no (by omega)
      refine W.seq ?_
      apply W.readS LO mixed [5, 14] (by kernel_rfl)
      · repeat' (first | rfl | with_reducible assumption | assumption | constructor)
      intro w5 f5 s5 hf5
      replace hf5 : f5 = [(5, _), (14, _)] := hf5
      subst hf5
      refine W.cond (b := false) rfl (fun h => by cases h) (fun _ => W.exit ?_)
      exact N.thenE (N.thenE (N.out (N.cut ⟨v, xs, hO.same s5, by omega, hm4.same s5, rfl⟩ (sub_keys rfl))))
  rintro w3 _ ⟨v, xs, hO, hlen, hm3, rfl⟩
  have cv : ∀ w', Same w3 w' → (convert 73 9 v).run Try.prog w' = .ok (.string (strOfNums xs)) w' := fun w' s' => own_str info_sl8 und_u8 und_str (hO.same s')
  apply W.readS LO mixed [4] (by kernel_rfl)
  · repeat' (first | rfl | with_reducible assumption | assumption | constructor)
  intro w4 f4 s4 hf4
  replace hf4 : f4 = [(4, _)] := hf4
  subst hf4
  exact W.ret (post LO (rs := [.tmp 4]) rfl (vs := [.string (strOfNums xs)]) (.tmp rfl .nil) ⟨_, rfl, by rw [size_nums]; omega, hm3.same s4⟩)
end Go.Proofs.Ytbbafhpnlmmjjaa
