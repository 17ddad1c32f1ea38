/- What is proved: the law of plays near the place, by numbers. Conditions: those that stand in each theorem. -/
import Derived.Test.YtieolnekccacbaaDirLaw6
namespace Go.Proofs.Ytieolnekccacbaa
set_option linter.unusedVariables false
set_option linter.unusedSimpArgs false
set_option linter.unusedSectionVars false
open Go.RowKit Go.Maps Go.MapKept Go.ChangeMaps Go.ChangeShapes Fw
theorem set_two (a : Array Value) (h : a.size = 2) (u v : Value) : (a.setIfInBounds 0 u).setIfInBounds 1 v = #[u, v] := by
  obtain ⟨l⟩ := a
  match l, h with
  | [x, y], _ => rfl
theorem fill_two (z u v : Value) (hz : z.cells = #[z]) (hu : u.cells = #[u]) (hv : v.cells = #[v]) : Instr.fill (fun i => some (i * 1, 1)) ((Array.range (2 * 1)).map (z.cells[· % z.cells.size]!)) [(0, u), (1, v)] = some [u, v].toArray := by
  rw [hz]
  simp only [Instr.fill, hu, hv]
  simp [Array.range, set_two]
def LettersPost (w : World) (e : Ending) (w' : World) : Prop := ∃ s : ByteArray, e = .returned (.string s) ∧ s.size ≤ 1000 ∧ Mv (fun _ => False) w w'
set_option maxRecDepth 100000 in
set_option maxHeartbeats 4000000 in
/-- A short text by two numbers. -/
theorem letters_walk (b : Nat) (c : Nat) (x y : Int) (n : Nat) (w : World) (hn : n ≤ 100) (hb : w.heap[b]? = some (.cells [.int .i64 x, .int .i64 y].toArray 3 (0, 0))) (hx : -9223372036854775808 ≤ x ∧ x ≤ 9223372036854775807) (hy : -9223372036854775808 ≤ y ∧ y ≤ 9223372036854775807) :
    Calls Try.prog 21 #[.slice (some ⟨b, 0, none⟩) 2 c, .int .i64 n] w (LettersPost w) := by
  obtain ⟨iB, hiB, hzB, hsB, hbB⟩ := info_parts info_u8
  refine calls_W (n := 37) (vs := [.slice (some ⟨b, 0, none⟩) 2 c, .int .i64 n]) Try.func21 rfl rfl rfl ?_
  apply W.readS LO mixed [0, 1] (by kernel_rfl)
  · repeat' (first | rfl | with_reducible assumption | assumption | constructor)
  intro w1 f1 s1 hf1
  replace hf1 : f1 = [(0, _), (1, _)] := hf1
  subst hf1
  apply W.readS LO mixed [0, 1, 5] (by kernel_rfl)
  · repeat' (first | rfl | with_reducible assumption | assumption | constructor)
  intro w2 f2 s2 hf2
  replace hf2 : f2 = [(0, _), (1, _), (5, _)] := hf2
  subst hf2
  refine W.cutS (fun w' g => ∃ (v : Value) (xs : List Int), Own w' 5 v (xs.map (.int .u8)) ∧ xs.length ≤ 1000 ∧ Mv (fun _ => False) w w' ∧ g = [(5, v)]) ?_ ?_
  ·
    apply W.readS LO mixed [0, 1, 5, 6] (by kernel_rfl)
    · repeat' (first | rfl | with_reducible assumption | assumption | constructor)
    intro w3 f3 s3 hf3
    replace hf3 : f3 = [(0, _), (1, _), (5, _), (6, _)] := hf3
    subst hf3
    have hb3 : w3.heap[b]? = some (.cells [.int .i64 x, .int .i64 y].toArray 3 (0, 0)) := by rw [s3.heap, s2.heap, s1.heap]; exact hb
    have hm3 : Mv (fun _ => False) w w3 := (((Mv.refl _ w).same s1).same s2).same s3
    have hz3 : w3.heap.size = w.heap.size := by rw [s3.heap, s2.heap, s1.heap]
    refine W.block (W.loop (fun k w' g => ∃ (i : Nat) (v : Value) (xs : List Int), k + i = n ∧ Own w' 5 v (xs.map (.int .u8)) ∧ xs.length = i ∧ (∀ k, v.ownBlock = some k → w.heap.size ≤ k) ∧ Mv (fun _ => False) w w' ∧ g = [(0, .slice (some ⟨b, 0, none⟩) 2 c), (1, .int .i64 n), (5, v), (6, .int .i64 i)]) n _ ⟨0, .slice none 0 0, [], rfl, Own.nil _ _, rfl, (fun k h => by cases h), hm3, rfl⟩ (sub_keys rfl) ?_)
    clear hb3 hm3 hz3 s1 s2 s3
    rintro k w4 _ ⟨i, v, xs, hki, hO, hlen, hown, hm4, rfl⟩
    by_cases hlt : i < n
    · have k1 : Kn (decide ((i : Int) < (n : Int))) true := .yes (by omega)
      refine W.seq ?_
      apply W.readS LO mixed [0, 1, 5, 6, 14] (by kernel_rfl)
      · repeat' (first | rfl | with_reducible assumption | assumption | constructor)
      intro w5 f5 s5 hf5
      replace hf5 : f5 = [(0, _), (1, _), (5, _), (6, _), (14, _)] := hf5
      subst hf5
      have hm5 := hm4.same s5
      have hO := hO.same s5
      refine W.cond (b := true) rfl (fun _ => W.skip (N.to ?_)) (fun h => by cases h)
      have hb5 : w5.heap[b]? = some (.cells [.int .i64 x, .int .i64 y].toArray 3 (0, 0)) := (hm5.block b (Array.getElem?_eq_some_iff.1 hb).1 (fun e => e)).trans hb
      refine W.cutS (fun w' g => (∃ (v : Value) (xs : List Int), Own w' 5 v (xs.map (.int .u8)) ∧ xs.length = i + 1 ∧ (∀ k, v.ownBlock = some k → w.heap.size ≤ k) ∧ Mv (fun _ => False) w w' ∧ g = [(0, .slice (some ⟨b, 0, none⟩) 2 c), (1, .int .i64 n), (5, v), (6, .int .i64 i)])) ?_ ?_
      · refine W.block ?_
        obtain ⟨j, hj⟩ : ∃ j, j = i % 2 := ⟨_, rfl⟩
        have hj2 : j < 2 := by omega
        have r0 : (2 : Int) ≠ 0 := by decide
        have k2 : Kn ((i : Int).tmod 2) (j : Int) := .of (by rw [Int.tmod_eq_emod_of_nonneg (by omega)]; omega)
        have i0 : (0 : Int) ≤ (j : Int) := by omega
        have i1 : (j : Int) < ((2 : Nat) : Int) := by omega
        obtain ⟨u, hu, huc⟩ : ∃ u : Int, (-9223372036854775808 ≤ u ∧ u ≤ 9223372036854775807) ∧ w5.cell? ⟨b, 0 + (j : Int).toNat * 1, none⟩ = some (.int .i64 u) := by
          rcases (show j = 0 ∨ j = 1 by omega) with rfl | rfl
          · exact ⟨x, hx, by unfold World.cell?; rw [hb5]; rfl⟩
          · exact ⟨y, hy, by unfold World.cell?; rw [hb5]; rfl⟩
        have cu : Cl w5 ⟨b, 0 + (j : Int).toNat * 1, none⟩ (.int .i64 u) := ⟨huc⟩
        have qA : ∀ w', Same w5 w' → Calls Try.prog 10 #[.int .i64 u, .int .i64 1073741824] w' fun e w'' => e = .returned (.int .i64 (pmod u 1073741824)) ∧ Same w5 w'' := quiet_of (w := w5) fun w' _ => place00_says u 1073741824 w' (by decide) (by decide) hu.1 hu.2
        have hA : 0 ≤ pmod u 1073741824 ∧ pmod u 1073741824 < 1073741824 := ⟨Int.emod_nonneg _ (by decide), Int.emod_lt_of_pos _ (by decide)⟩
        generalize pmod u 1073741824 = A at qA hA
        obtain ⟨i2, hi2⟩ : ∃ i2 : Nat, i2 = i * i := ⟨_, rfl⟩
        have hi2b : i2 ≤ 10000 := by rw [hi2]; exact Nat.mul_le_mul (show i ≤ 100 by omega) (show i ≤ 100 by omega)
        have k3 : Kn (IntKind.i64.wrap ((i : Int) * (i : Int))) (i2 : Int) := .of (by rw [show (i : Int) * (i : Int) = (i2 : Int) by rw [hi2]; exact (Int.natCast_mul i i).symm]; exact IntWalk.i64_in _ (by omega))
        have r3 : (3 : Int) ≠ 0 := by decide
        obtain ⟨i3, hi3⟩ : ∃ i3 : Nat, i3 = i2 / 3 := ⟨_, rfl⟩
        have k4 : Kn (IntKind.i64.wrap ((i2 : Int).tdiv 3)) (i3 : Int) := .of (by rw [Int.tdiv_eq_ediv_of_nonneg (by omega), show (i2 : Int) / 3 = (i3 : Int) by omega]; exact IntWalk.i64_in _ (by omega))
        have k5 : Kn (IntKind.i64.wrap (A + (i3 : Int))) (A + i3) := .of (IntWalk.i64_in _ (by omega))
        have qB : ∀ w', Same w5 w' → Calls Try.prog 10 #[.int .i64 (A + i3), .int .i64 4] w' fun e w'' => e = .returned (.int .i64 (pmod (A + i3) 4)) ∧ Same w5 w'' := quiet_of (w := w5) fun w' _ => place00_says (A + i3) 4 w' (by decide) (by decide) (by omega) (by omega)
        have hB : 0 ≤ pmod (A + i3) 4 ∧ pmod (A + i3) 4 < 4 := ⟨Int.emod_nonneg _ (by decide), Int.emod_lt_of_pos _ (by decide)⟩
        generalize pmod (A + i3) 4 = B at qB hB
        have b0 : 0 ≤ B := hB.1
        have b1 : B < (((⟨#[97, 98, 99, 65]⟩ : ByteArray).size : Nat) : Int) := hB.2
        refine W.list ?_
        apply Ls.runK LO [0, 1, 6, 17, 32] 16
        · repeat' (first | rfl | with_reducible assumption | assumption | constructor)
        intro w6 f6 s6 hf6
        replace hf6 : f6 = [(0, _), (1, _), (6, _), (17, _), (32, _)] := hf6
        subst hf6
        have hm6 := hm5.same s6
        have hO := hO.same s6
        refine Ls.buildSlice rfl rfl rfl rfl info_sl8 hiB hzB hsB rfl (ps := [(0, .int .u8 (bt (⟨#[97, 98, 99, 65]⟩ : ByteArray) B))]) rfl rfl rfl (cells := [.int .u8 (bt (⟨#[97, 98, 99, 65]⟩ : ByteArray) B)]) (by rw [hsB]; exact fill_one _ _ rfl rfl) ?_
        have hrd := reads_one w6 5 (.int .u8 (bt (⟨#[97, 98, 99, 65]⟩ : ByteArray) B))
        have hm7 : Mv (fun _ => False) w6 (w6.alloc (.cells [.int .u8 (bt (⟨#[97, 98, 99, 65]⟩ : ByteArray) B)].toArray 5)) := (Mv.refl _ w6).alloc _
        generalize w6.alloc (.cells [Value.int .u8 (bt (⟨#[97, 98, 99, 65]⟩ : ByteArray) B)].toArray 5) = w7 at hrd hm7
        have hO7 := hO.moved hm7 (fun k _ e => e)
        refine Ls.append rfl rfl rfl rfl info_sl8 hiB hzB hsB hbB rfl rfl rfl hO7 hrd (fun u hu => by obtain rfl := List.mem_singleton.1 hu; rfl) (by simp only [List.length_map, List.length_singleton, maxLen]; omega) (by simp only [List.length_map, List.length_singleton]; omega) ?_
        intro v' w8 hO8 hm8 hb8
        apply Ls.runK LO [0, 1, 5, 6] 1
        · repeat' (first | rfl | with_reducible assumption | assumption | constructor)
        intro w9 f9 s9 hf9
        replace hf9 : f9 = [(0, _), (1, _), (5, _), (6, _)] := hf9
        subst hf9
        refine Ls.nil (N.inb (N.cut ⟨v', xs ++ [bt (⟨#[97, 98, 99, 65]⟩ : ByteArray) B], ?_, by simp [hlen], fun k hk => ?_, ?_, rfl⟩ (sub_keys rfl)))
        · rw [List.map_append]; exact hO8.same s9
        · rcases hb8 with e | e
          · exact hown k (by rw [← e]; exact hk)
          · rw [e] at hk
            have h1 : w7.heap.size = k := Option.some.inj hk
            have h2 := hm6.size
            have h3 := hm7.size
            omega
        · exact ((hm6.trans hm7).cut hm8 fun k hk e => by have := hown k e; omega).same s9
      · rintro w6 _ ⟨v', xs', hO', hlen', hown', hm', rfl⟩
        have k6 : Kn (IntKind.i64.wrap ((i : Int) + 1)) ((i + 1 : Nat) : Int) := .of (IntWalk.i64_in _ (by omega))
        apply W.readN LO mixed [0, 1, 5, 6] (by kernel_rfl)
        · repeat' (first | rfl | with_reducible assumption | assumption | constructor)
        intro w7 f7 s7 hf7
        replace hf7 : f7 = [(0, _), (1, _), (5, _), (6, _)] := hf7
        subst hf7
        exact N.round (k - 1) _ (by omega) ⟨i + 1, v', xs', by omega, hO'.same s7, hlen', hown', hm'.same s7, rfl⟩ (sub_keys rfl)
    · have k1 : Kn (decide ((i : Int) < (n : Int))) false := .no (by omega)
      refine W.seq ?_
      apply W.readS LO mixed [5, 14] (by kernel_rfl)
      · repeat' (first | rfl | with_reducible assumption | assumption | constructor)
      intro w5 f5 s5 hf5
      replace hf5 : f5 = [(5, _), (14, _)] := hf5
      subst hf5
      refine W.cond (b := false) rfl (fun h => by cases h) (fun _ => W.exit ?_)
      exact N.thenE (N.thenE (N.out (N.cut ⟨v, xs, hO.same s5, by omega, hm4.same s5, rfl⟩ (sub_keys rfl))))
  rintro w3 _ ⟨v, xs, hO, hlen, hm3, rfl⟩
  have cv : ∀ w', Same w3 w' → (convert 30 9 v).run Try.prog w' = .ok (.string (strOfNums xs)) w' := fun w' s' => own_str info_sl8 und_u8 und_str (hO.same s')
  apply W.readS LO mixed [4] (by kernel_rfl)
  · repeat' (first | rfl | with_reducible assumption | assumption | constructor)
  intro w4 f4 s4 hf4
  replace hf4 : f4 = [(4, _)] := hf4
  subst hf4
  exact W.ret (post LO (rs := [.tmp 4]) rfl (vs := [.string (strOfNums xs)]) (.tmp rfl .nil) ⟨_, rfl, by rw [size_nums]; omega, hm3.same s4⟩)
theorem Both.non {w w' w'' : World} {p m q : Nat} {vp vb : Value} {D : RS} {i : Nat} (h : Both w w' p m q vp vb D i) (s : Mv (fun _ => False) w' w'') : Both w w'' p m q vp vb D i := ⟨h.d.moved s (fun e => e) (fun e => e), h.r.moved s (fun _ _ e => e), h.inv, h.mv.trans s, h.fd, h.fr, h.sep, h.bg, h.bu, h.hs, h.told, h.fin, h.few⟩
def nf (a : Option Addr) (len cap p q : Nat) (bb i : Int) : Fr := [(3, .slice a len cap), (9, .int .i64 bb), (11, .pointer (some ⟨p, 0, none⟩)), (12, .pointer (some ⟨q, 0, none⟩)), (13, .int .i64 i)]
set_option maxRecDepth 100000 in
set_option maxHeartbeats 4000000 in
theorem near_walk (start b h : Int) (a : Option Addr) (cap : Nat) (l : List Int) (w : World) (hs : 0 ≤ start ∧ start < 4294967296) (hb64 : -9223372036854775808 ≤ b ∧ b ≤ 9223372036854775807) (hh64 : -9223372036854775808 ≤ h ∧ h ≤ 9223372036854775807) (hrow : RowK .i64 w a l) (hl64 : ∀ n ∈ l, -9223372036854775808 ≤ n ∧ n ≤ 9223372036854775807) :
    Calls Try.prog 7 #[.int .u32 start, .int .i64 b, .int .i64 h, .slice a l.length cap] w (Yes w) := by
  obtain ⟨iI, hiI, hzI, hsI, hbI⟩ := info_int
  refine calls_W (n := 126) (vs := [.int .u32 start, .int .i64 b, .int .i64 h, .slice a l.length cap]) Try.func7 rfl rfl rfl ?_
  apply W.readS LO mixed [0, 1, 2, 3] (by kernel_rfl)
  · repeat' (first | rfl | with_reducible assumption | assumption | constructor)
  intro w1 f1 s1 hf1
  replace hf1 : f1 = [(0, _), (1, _), (2, _), (3, _)] := hf1
  subst hf1
  have qA : ∀ w', Same w1 w' → Calls Try.prog 10 #[.int .i64 b, .int .i64 40] w' fun e w'' => e = .returned (.int .i64 (pmod b 40)) ∧ Same w1 w'' := quiet_of (w := w1) fun w' _ => place00_says b 40 w' (by decide) (by decide) hb64.1 hb64.2
  have hA : 0 ≤ pmod b 40 ∧ pmod b 40 < 40 := ⟨Int.emod_nonneg _ (by decide), Int.emod_lt_of_pos _ (by decide)⟩
  have qB : ∀ w', Same w1 w' → Calls Try.prog 10 #[.int .i64 h, .int .i64 30] w' fun e w'' => e = .returned (.int .i64 (pmod h 30)) ∧ Same w1 w'' := quiet_of (w := w1) fun w' _ => place00_says h 30 w' (by decide) (by decide) hh64.1 hh64.2
  generalize pmod b 40 = bb at qA hA
  generalize pmod h 30 = hh at qB
  apply W.readS LO mixed [0, 3, 9, 10] (by kernel_rfl)
  · repeat' (first | rfl | with_reducible assumption | assumption | constructor)
  intro w2 f2 s2 hf2
  replace hf2 : f2 = [(0, _), (3, _), (9, _), (10, _)] := hf2
  subst hf2
  refine W.seq (W.list ?_)
  apply Ls.runK LO [0, 3, 9, 10, 23, 24, 25] 3
  · repeat' (first | rfl | with_reducible assumption | assumption | constructor)
  intro w2' f2' s2' hf2'
  replace hf2' : f2' = [(0, _), (3, _), (9, _), (10, _), (23, _), (24, _), (25, _)] := hf2'
  subst hf2'
  refine Ls.call LO rfl rfl rfl rfl rfl (vs := [.int .u32 start, .int .i64 bb, .int .i64 hh]) rfl (start_walk start bb hh w2') ?_
  rintro _ w3 ⟨p, m, rfl, hD, hp, hm, hmv3⟩
  refine ⟨_, rfl, ?_⟩
  apply Ls.runK LO [0, 3, 9, 10, 11] 1
  · repeat' (first | rfl | with_reducible assumption | assumption | constructor)
  intro w4 f4 s4 hf4
  replace hf4 : f4 = [(0, _), (3, _), (9, _), (10, _), (11, _)] := hf4
  subst hf4
  refine Ls.nil (N.to ?_)
  refine W.seq (W.list ?_)
  apply Ls.runK LO [3, 9, 11, 27, 28, 29] 3
  · repeat' (first | rfl | with_reducible assumption | assumption | constructor)
  intro w5 f5 s5 hf5
  replace hf5 : f5 = [(3, _), (9, _), (11, _), (27, _), (28, _), (29, _)] := hf5
  subst hf5
  have hD5 := (hD.same s4).same s5
  have hm5 : Mv (fun _ => False) w w5 := ((((((Mv.refl _ w).same s1).same s2).same s2').trans hmv3).same s4).same s5
  have hz : w.heap.size = w2'.heap.size := by rw [s2'.heap, s2.heap, s1.heap]
  refine Ls.call LO rfl rfl rfl rfl rfl (vs := [.int .u32 start, .int .i64 bb, .int .i64 hh]) rfl (rstart_walk start bb hh w5) ?_
  rintro _ w6 ⟨q, rfl, hR, hq, hmv6⟩
  refine ⟨_, rfl, ?_⟩
  have hp5 := hD5.blk.lt
  have hmm5 := hD5.map.lt
  have hB : Both w w6 p m q (.slice none 0 0) (.slice none 0 0) (RS.new start bb hh) 0 := by
    have hk : ∀ k, RB q (.slice none 0 0) (.slice none 0 0) k → k = q := fun k hk => by
      rcases hk with e | e | e
      · exact e
      · cases e
      · cases e
    have := hm5.size
    refine ⟨by rw [RS.new_ds]; exact hD5.moved hmv6 (fun e => e) (fun e => e), hR, RS.new_inv _ _ _, hm5.trans hmv6, by omega, fun k e => by rw [hk k e]; omega, fun k e => by rw [hk k e]; omega, hs, by show min (max bb 0) 1024 ≤ 1024; omega, by show min (max hh 0) 1024 ≤ 1024; omega, by show ((0 : Nat) : Int) ≤ _; omega, by show (-1 : Int) ≤ _; omega, by omega⟩
  have hbuf : (RS.new start bb hh).buffer = bb := by show min (max bb 0) 1024 = bb; omega
  clear hD hp hm hmv3 hD5 hm5 hz hR hq hmv6 hp5 hmm5 s1 s2 s2' s4 s5 qA qB
  apply Ls.runK LO [3, 9, 11, 12] 1
  · repeat' (first | rfl | with_reducible assumption | assumption | constructor)
  intro w7 f7 s7 hf7
  replace hf7 : f7 = [(3, _), (9, _), (11, _), (12, _)] := hf7
  subst hf7
  refine Ls.nil (N.to ?_)
  have hB := hB.same s7
  clear s7
  generalize RS.new start bb hh = D0 at hB hbuf
  refine W.cutS (fun w' g => (Both w w' p m q (.slice none 0 0) (.slice none 0 0) D0 0 ∧ g = [(3, .slice a l.length cap), (9, .int .i64 bb), (11, .pointer (some ⟨p, 0, none⟩)), (12, .pointer (some ⟨q, 0, none⟩))]) ∧ l.length ≤ 80) ?_ ?_
  · by_cases hbig : 80 < l.length
    · have k1 : Kn (decide (80 < (l.length : Int))) true := .yes (by omega)
      apply W.readS LO mixed [11, 37] (by kernel_rfl)
      · repeat' (first | rfl | with_reducible assumption | assumption | constructor)
      intro w8 f8 s8 hf8
      replace hf8 : f8 = [(11, _), (37, _)] := hf8
      subst hf8
      refine W.cond (b := true) rfl (fun _ => ?_) (fun h => by cases h)
      refine W.seq (W.list ?_)
      apply Ls.runK LO [40] 3
      · repeat' (first | rfl | with_reducible assumption | assumption | constructor)
      intro w9 f9 s9 hf9
      replace hf9 : f9 = [(40, _)] := hf9
      subst hf9
      refine Ls.call LO rfl rfl rfl rfl rfl (vs := []) rfl (awake_walk w9) ?_
      rintro _ w13 ⟨rfl, hm13⟩
      refine ⟨_, rfl, ?_⟩
      apply Ls.runK LO [8] 2
      · repeat' (first | rfl | with_reducible assumption | assumption | constructor)
      intro w14 f14 s14 hf14
      replace hf14 : f14 = [(8, _)] := hf14
      subst hf14
      refine Ls.nil (N.to (W.ret (N.thenR ?_)))
      exact post (fn := Try.f7) (R := Yes w) LO (rs := [.tmp 8]) rfl (vs := [.bool true]) (.tmp rfl .nil) ⟨rfl, (((hB.mv.same s8).same s9).trans hm13).same s14⟩
    · have k1 : Kn (decide (80 < (l.length : Int))) false := .no (by omega)
      apply W.readS LO mixed [3, 9, 11, 12, 37] (by kernel_rfl)
      · repeat' (first | rfl | with_reducible assumption | assumption | constructor)
      intro w8 f8 s8 hf8
      replace hf8 : f8 = [(3, _), (9, _), (11, _), (12, _), (37, _)] := hf8
      subst hf8
      refine W.cond (b := false) rfl (fun h => by cases h) (fun _ => W.skip ?_)
      exact N.cut ⟨⟨hB.same s8, rfl⟩, by omega⟩ (sub_keys rfl)
  rintro w8 _ ⟨⟨hB, rfl⟩, hl80⟩
  refine W.cutS (fun w' g => Mv (fun _ => False) w w' ∧ g = []) ?_ ?_
  ·
    apply W.readS LO mixed [3, 9, 11, 12, 13] (by kernel_rfl)
    · repeat' (first | rfl | with_reducible assumption | assumption | constructor)
    intro w9 f9 s9 hf9
    replace hf9 : f9 = [(3, _), (9, _), (11, _), (12, _), (13, _)] := hf9
    subst hf9
    have hB := hB.same s9
    clear s9
    refine W.block (W.loop (fun k w' g => ∃ (i : Nat) (vp vb : Value) (D : RS), k + i = l.length ∧ Both w w' p m q vp vb D i ∧ D.buffer = bb ∧ g = nf a l.length cap p q bb i) l.length _ ⟨0, _, _, _, rfl, hB, hbuf, rfl⟩ (sub_keys rfl) ?_)
    clear hB hbuf
    rintro k w10 _ ⟨i, vp, vb, D, hki, hB, hbuf, rfl⟩
    by_cases hlt : i < l.length
    · have k1 : Kn (decide ((i : Int) < (l.length : Int))) true := .yes (by omega)
      refine W.seq ?_
      apply W.readS LO mixed [3, 9, 11, 12, 13, 46] (by kernel_rfl)
      · repeat' (first | rfl | with_reducible assumption | assumption | constructor)
      intro w11 f11 s11 hf11
      replace hf11 : f11 = [(3, _), (9, _), (11, _), (12, _), (13, _), (46, _)] := hf11
      subst hf11
      have hB := hB.same s11
      clear s11
      refine W.cond (b := true) rfl (fun _ => W.skip (N.to ?_)) (fun h => by cases h)
      obtain ⟨x, hx⟩ : ∃ x, l[i]? = some x := ⟨_, List.getElem?_eq_getElem hlt⟩
      have hx64 := hl64 x (List.mem_of_getElem? hx)
      obtain ⟨A, rfl, cx⟩ := hrow i x hx
      have i0 : (0 : Int) ≤ (i : Int) := by omega
      have i1 : (i : Int) < (l.length : Int) := by omega
      have ei : ((i : Int)).toNat * 1 = i := by omega
      rw [← ei] at cx
      refine W.cutS (fun w' g => (∃ vp vb D, Both w w' p m q vp vb D (i + 1) ∧ D.buffer = bb) ∧ g = nf (some A) l.length cap p q bb i) ?_ ?_
      · refine W.block ?_
        have cx11 : Cl w11 (A.add ((i : Int).toNat * 1)) (.int .i64 x) := ⟨hB.mv.cell cx (fun e => e)⟩
        have qv : ∀ w', Same w11 w' → Calls Try.prog 10 #[.int .i64 x, .int .i64 1048576] w' fun e w'' => e = .returned (.int .i64 (pmod x 1048576)) ∧ Same w11 w'' := quiet_of (w := w11) fun w' _ => place00_says x 1048576 w' (by decide) (by decide) hx64.1 hx64.2
        have hv : 0 ≤ pmod x 1048576 ∧ pmod x 1048576 < 1048576 := ⟨Int.emod_nonneg _ (by decide), Int.emod_lt_of_pos _ (by decide)⟩
        generalize pmod x 1048576 = v at qv hv
        apply W.readS LO mixed [3, 9, 11, 12, 13, 14] (by kernel_rfl)
        · repeat' (first | rfl | with_reducible assumption | assumption | constructor)
        intro w12 f12 s12 hf12
        replace hf12 : f12 = [(3, _), (9, _), (11, _), (12, _), (13, _), (14, _)] := hf12
        subst hf12
        have hB := hB.same s12
        clear s12 cx11 qv
        -- the text
        refine W.seq (W.list ?_)
        have r3 : (3 : Int) ≠ 0 := by decide
        have r7 : (7 : Int) ≠ 0 := by decide
        obtain ⟨v3, hv3⟩ : ∃ v3 : Int, v3 = v / 3 := ⟨_, rfl⟩
        have kv3 : Kn (IntKind.i64.wrap (v.tdiv 3)) v3 := .of (by rw [hv3, Int.tdiv_eq_ediv_of_nonneg (by omega)]; exact IntWalk.i64_in _ (by omega))
        obtain ⟨v7, hv7⟩ : ∃ v7 : Nat, (v7 : Int) = v % 7 := ⟨(v % 7).toNat, by omega⟩
        have kv7 : Kn (v.tmod 7) (v7 : Int) := .of (by rw [Int.tmod_eq_emod_of_nonneg (by omega)]; omega)
        apply Ls.runK LO [3, 9, 11, 12, 13, 14, 54, 56] 3
        · repeat' (first | rfl | with_reducible assumption | assumption | constructor)
        intro w13 f13 s13 hf13
        replace hf13 : f13 = [(3, _), (9, _), (11, _), (12, _), (13, _), (14, _), (54, _), (56, _)] := hf13
        subst hf13
        have hB := hB.same s13
        refine Ls.buildSlice rfl rfl rfl rfl und_ints hiI hzI hsI rfl (ps := [(0, .int .i64 v), (1, .int .i64 v3)]) rfl rfl rfl (cells := [.int .i64 v, .int .i64 v3]) (by rw [hsI]; exact fill_two _ _ _ rfl rfl rfl) ?_
        have hb14 := heap_alloc_new w13 (.cells [Value.int .i64 v, Value.int .i64 v3].toArray 3)
        have hm14 : Mv (fun _ => False) w13 (w13.alloc (.cells [Value.int .i64 v, Value.int .i64 v3].toArray 3)) := (Mv.refl _ w13).alloc _
        generalize w13.alloc (.cells [Value.int .i64 v, Value.int .i64 v3].toArray 3) = w14 at hb14 hm14
        generalize w13.heap.size = br at hb14
        apply Ls.runK LO [3, 9, 11, 12, 13, 14, 57, 59] 2
        · repeat' (first | rfl | with_reducible assumption | assumption | constructor)
        intro w15 f15 s15 hf15
        replace hf15 : f15 = [(3, _), (9, _), (11, _), (12, _), (13, _), (14, _), (57, _), (59, _)] := hf15
        subst hf15
        refine Ls.call LO rfl rfl rfl rfl rfl (vs := [.slice (some ⟨br, 0, none⟩) 2 2, .int .i64 v7]) rfl (letters_walk br 2 v v3 v7 w15 (by omega) (by rw [s15.heap]; exact hb14) (by omega) (by omega)) ?_
        rintro _ w16 ⟨s, rfl, hssz, hm16⟩
        refine ⟨_, rfl, ?_⟩
        have hB := ((hB.non hm14).same s15).non hm16
        apply Ls.runK LO [3, 9, 11, 12, 13, 14, 15] 1
        · repeat' (first | rfl | with_reducible assumption | assumption | constructor)
        intro w17 f17 s17 hf17
        replace hf17 : f17 = [(3, _), (9, _), (11, _), (12, _), (13, _), (14, _), (15, _)] := hf17
        subst hf17
        refine Ls.nil (N.to ?_)
        have hB := hB.same s17
        clear s13 hb14 hm14 s15 hm16 s17
        -- its number
        have qt := quiet_of (w := w17) fun w' s' => rat_says q vp vb D w' (hB.r.same s')
        have htold := hB.told
        have hfewi := hB.few
        have qn := quiet_of (w := w17) fun w' s' => rseq_says q vp vb D D.told.size w' (hB.r.same s') hB.bg (by omega)
        generalize (D.begin_ + (D.told.size : Int) % 4294967296) % 4294967296 = sq0 at qn
        obtain ⟨u7, hu7⟩ : ∃ u7 : Int, u7 = v / 7 := ⟨_, rfl⟩
        have ku7 : Kn (IntKind.i64.wrap (v.tdiv 7)) u7 := .of (by rw [hu7, Int.tdiv_eq_ediv_of_nonneg (by omega)]; exact IntWalk.i64_in _ (by omega))
        have r24 : (24 : Int) ≠ 0 := by decide
        obtain ⟨u24, hu24⟩ : ∃ u24 : Int, u24 = u7 % 24 := ⟨_, rfl⟩
        have ku24 : Kn (u7.tmod 24) u24 := .of (by rw [hu24, Int.tmod_eq_emod_of_nonneg (by omega)])
        have ku : Kn (IntKind.u32.wrap u24) u24 := .of (by show _ % 4294967296 = _; omega)
        obtain ⟨sq1, hsq1⟩ : ∃ sq1, sq1 = IntKind.u32.wrap (sq0 + u24) := ⟨_, rfl⟩
        have ksq1 : Kn (IntKind.u32.wrap (sq0 + u24)) sq1 := .of hsq1.symm
        obtain ⟨sq, hsq⟩ : ∃ sq, sq = IntKind.u32.wrap (sq1 - 8) := ⟨_, rfl⟩
        have ksq : Kn (IntKind.u32.wrap (sq1 - 8)) sq := .of hsq.symm
        have hsq32 : 0 ≤ sq ∧ sq < 4294967296 := by
          have : sq = (sq1 - 8) % 4294967296 := hsq
          omega
        apply W.readS LO mixed [3, 9, 11, 12, 13, 14, 15, 16] (by kernel_rfl)
        · repeat' (first | rfl | with_reducible assumption | assumption | constructor)
        intro w18 f18 s18 hf18
        replace hf18 : f18 = [(3, _), (9, _), (11, _), (12, _), (13, _), (14, _), (15, _), (16, _)] := hf18
        subst hf18
        have hB := hB.same s18
        clear s18 qt qn ku7 ku24 ku ksq1 ksq
        -- both are told
        obtain ⟨can1, can2⟩ := hB.can s.size (by omega)
        obtain ⟨u168, hu168⟩ : ∃ u168 : Int, u168 = v / 168 := ⟨_, rfl⟩
        have r168 : (168 : Int) ≠ 0 := by decide
        have ku168 : Kn (IntKind.i64.wrap (v.tdiv 168)) u168 := .of (by rw [hu168, Int.tdiv_eq_ediv_of_nonneg (by omega)]; exact IntWalk.i64_in _ (by omega))
        have r9 : (9 : Int) ≠ 0 := by decide
        obtain ⟨u9, hu9⟩ : ∃ u9 : Int, u9 = u168 % 9 := ⟨_, rfl⟩
        have ku9 : Kn (u168.tmod 9) u9 := .of (by rw [hu9, Int.tmod_eq_emod_of_nonneg (by omega)])
        obtain ⟨fin, hfin⟩ : ∃ fin, fin = (u9 == (0 : Int)) := ⟨_, rfl⟩
        have kfin : Kn (u9 == (0 : Int)) fin := .of hfin.symm
        obtain ⟨hsame, hst⟩ := rpush_same D hB.inv sq s fin
        obtain ⟨R, hR⟩ : ∃ R, R = D.push sq s fin := ⟨_, rfl⟩
        have hpw : ∀ w', DirAt w' p m D.ds → Calls Try.prog 12 #[.pointer (some ⟨p, 0, none⟩), .int .u32 sq, .string s, .bool fin] w' (PushPost p m (R.1.ds, R.2) w') := fun w' hd => by
          have := push_walk p m D.ds sq s fin w' hd can1.h0 can1.h1 can1.hf can1.hf1 can1.hs can1.hb can1.hb1 can1.room
          rw [hsame, ← hR] at this; exact this
        have hrw : ∀ w', RAt w' q vp vb D → Calls Try.prog 17 #[.pointer (some ⟨q, 0, none⟩), .int .u32 sq, .string s, .bool fin] w' (RPushPost q vp vb R w') := fun w' hr => by
          have := rpush_walk q vp vb D sq s fin w' hr hsq32 can2
          rw [← hR] at this; exact this
        have hbuf2 : R.1.buffer = bb := by rw [hR, hst.bu]; exact hbuf
        have hsep := hB.sep
        refine W.cutS (fun w' g => (∃ (v2 b2 : Value) (r1 r2 : Nat), Both w w' p m q v2 b2 R.1 (i + 1) ∧ GBlk w' r1 R.2 ∧ RG w' r2 R.2 ∧ g = [(3, .slice (some A) l.length cap), (9, .int .i64 bb), (11, .pointer (some ⟨p, 0, none⟩)), (12, .pointer (some ⟨q, 0, none⟩)), (13, .int .i64 i), (17, .pointer (some ⟨r1, 0, none⟩)), (18, .pointer (some ⟨r2, 0, none⟩))])) ?_ ?_
        · refine W.list ?_
          apply Ls.runK LO [3, 9, 11, 12, 13, 14, 15, 16, 71, 72, 73, 77] 7
          · repeat' (first | rfl | with_reducible assumption | assumption | constructor)
          intro w19 f19 s19 hf19
          replace hf19 : f19 = [(3, _), (9, _), (11, _), (12, _), (13, _), (14, _), (15, _), (16, _), (71, _), (72, _), (73, _), (77, _)] := hf19
          subst hf19
          have hB := hB.same s19
          refine Ls.call LO rfl rfl rfl rfl rfl (vs := [.pointer (some ⟨p, 0, none⟩), .int .u32 sq, .string s, .bool fin]) rfl (hpw w19 hB.d) ?_
          rintro _ w20 ⟨rfl, hd20, hm20⟩
          refine ⟨_, rfl, ?_⟩
          have hr20 : RAt w20 q vp vb D := hB.r.moved hm20 fun k hk e => by have := hsep k hk; rcases e with e | e; exact this.1 e; exact this.2 e
          apply Ls.runK LO [3, 9, 11, 12, 13, 78, 79, 80, 81, 85] 7
          · repeat' (first | rfl | with_reducible assumption | assumption | constructor)
          intro w21 f21 s21 hf21
          replace hf21 : f21 = [(3, _), (9, _), (11, _), (12, _), (13, _), (78, _), (79, _), (80, _), (81, _), (85, _)] := hf21
          subst hf21
          refine Ls.call LO rfl rfl rfl rfl rfl (vs := [.pointer (some ⟨q, 0, none⟩), .int .u32 sq, .string s, .bool fin]) rfl (hrw w21 (hr20.same s21)) ?_
          rintro _ w22 ⟨rfl, v2, b2, hr22, hm22, ho22⟩
          refine ⟨_, rfl, ?_⟩
          have hd22 := (hd20.same s21).moved hm22 (fun e => (hsep _ e).1 rfl) (fun e => (hsep _ e).2 rfl)
          have hM22 : Mv (fun k => k = p ∨ k = m ∨ RB q vp vb k) w19 w22 := (((hm20.mono fun k e => by rcases e with e | e; exact .inl e; exact .inr (.inl e)) : Mv (fun k => k = p ∨ k = m ∨ RB q vp vb k) w19 w20).same s21).cut hm22 fun k _ e => .inr (.inr e)
          refine Ls.alloc LO rfl rfl rfl rfl rfl ?_
          have hb23 := heap_alloc_new w22 (.cells [.int .i64 0, .int .i64 0, .string ⟨#[]⟩, .bool false].toArray 28)
          have hm23 : Mv (fun _ => False) w22 (w22.alloc (.cells [.int .i64 0, .int .i64 0, .string ⟨#[]⟩, .bool false].toArray 28)) := (Mv.refl _ w22).alloc _
          generalize w22.alloc (.cells [.int .i64 0, .int .i64 0, .string ⟨#[]⟩, .bool false].toArray 28) = w23 at hb23 hm23
          obtain ⟨r1, hr1⟩ : ∃ r1, r1 = w22.heap.size := ⟨_, rfl⟩
          rw [← hr1] at hb23
          rw [← hr1]
          refine Ls.alloc LO rfl rfl rfl rfl rfl ?_
          have hb24 := heap_alloc_new w23 (.cells [.int .i64 0, .int .i64 0, .string ⟨#[]⟩, .bool false].toArray 40)
          have hm24 : Mv (fun _ => False) w23 (w23.alloc (.cells [.int .i64 0, .int .i64 0, .string ⟨#[]⟩, .bool false].toArray 40)) := (Mv.refl _ w23).alloc _
          generalize w23.alloc (.cells [.int .i64 0, .int .i64 0, .string ⟨#[]⟩, .bool false].toArray 40) = w24 at hb24 hm24
          obtain ⟨r2, hr2⟩ : ∃ r2, r2 = w23.heap.size := ⟨_, rfl⟩
          rw [← hr2] at hb24
          rw [← hr2]
          have hl1 : r1 < w23.heap.size := (Array.getElem?_eq_some_iff.1 hb23).1
          have hb23' := (hm24.block r1 hl1 (fun e => e)).trans hb23
          refine Ls.store LO rfl rfl rfl rfl rfl (v := gotVal R.2) (vs := [.int .i64 R.2.kind, .int .i64 R.2.from_, .string R.2.data, .bool R.2.fin]) rfl rfl rfl hb23' rfl ?_
          intro w25 hb25 m25 _
          have hb24' := (m25.block r2 (Array.getElem?_eq_some_iff.1 hb24).1 (by omega)).trans hb24
          refine Ls.store LO rfl rfl rfl rfl rfl (v := gotVal R.2) (vs := [.int .i64 R.2.kind, .int .i64 R.2.from_, .string R.2.data, .bool R.2.fin]) rfl rfl rfl hb24' rfl ?_
          intro w26 hb26 m26 _
          have hp22 := hd22.blk.lt
          have hq22 := hd22.map.lt
          have hl22 := hr22.lt
          have z23 := hm23.size
          have hd26 := (((hd22.moved hm23 (fun e => e) (fun e => e)).moved hm24 (fun e => e) (fun e => e)).moved m25 (by omega) (by omega)).moved m26 (by omega) (by omega)
          have hr26 := (((hr22.moved hm23 (fun _ _ e => e)).moved hm24 (fun _ _ e => e)).moved m25 (fun k hk e => by have := hl22 k hk; omega)).moved m26 (fun k hk e => by have := hl22 k hk; omega)
          have hz22 := hM22.size
          have hM26 : Mv (fun k => k = p ∨ k = m ∨ RB q vp vb k) w19 w26 := (((hM22.cut hm23 fun k _ e => e.elim).cut hm24 fun k _ e => e.elim).cut m25 fun k hk e => by omega).cut m26 fun k hk e => by omega
          have hz21 : w19.heap.size ≤ w21.heap.size := by have := hm20.size; rw [s21.heap]; exact this
          rw [hR] at hd26 hr26 ⊢
          exact Ls.nil (N.cut ⟨v2, b2, r1, r2, hB.step (by omega) sq s fin hd26 hr26 hM26 (fun k hk => by
            rcases ho22 k hk with e | e
            · exact .inl e
            · right; omega), (m26.block r1 (Array.getElem?_eq_some_iff.1 hb25).1 (by omega)).trans (by rw [← hR]; exact hb25), by rw [← hR]; exact hb26, rfl⟩ (sub_keys rfl))
        rintro w26 _ ⟨v2, b2, r1, r2, hB26, hg1, hg2, rfl⟩
        obtain ⟨g0, g1, g2, g3⟩ := hg1.cells
        have g0 := Cl.mk g0
        have g1 := Cl.mk g1
        have g2 := Cl.mk g2
        have g3 := Cl.mk g3
        have e0 : Cl w26 ⟨r2, 0, none⟩ (.int .i64 R.2.kind) := ⟨by unfold World.cell?; rw [show w26.heap[r2]? = _ from hg2]; rfl⟩
        have e1 : Cl w26 ⟨r2, 1, none⟩ (.int .i64 R.2.from_) := ⟨by unfold World.cell?; rw [show w26.heap[r2]? = _ from hg2]; rfl⟩
        have e2 : Cl w26 ⟨r2, 2, none⟩ (.string R.2.data) := ⟨by unfold World.cell?; rw [show w26.heap[r2]? = _ from hg2]; rfl⟩
        have e3 : Cl w26 ⟨r2, 3, none⟩ (.bool R.2.fin) := ⟨by unfold World.cell?; rw [show w26.heap[r2]? = _ from hg2]; rfl⟩
        have k1 : Kn (R.2.kind != R.2.kind) false := .of (by simp)
        have k2 : Kn (R.2.from_ != R.2.from_) false := .of (by simp)
        have k3 : Kn (R.2.data.toList == R.2.data.toList) true := .of (beq_self_eq_true _)
        have k4 : Kn (R.2.fin == R.2.fin) true := .of (beq_self_eq_true _)
        have qs := quiet_of (w := w26) fun w' s' => same_says p m q v2 b2 R.1 w' (hB26.d.same s') (hB26.r.same s') hB26.inv
        have el : R.1.zip.length = R.1.places.length := by unfold RS.zip; rw [List.length_zip, hB26.inv.len]; omega
        have qw : ∀ w', Same w26 w' → Calls Try.prog 14 #[.pointer (some ⟨p, 0, none⟩)] w' fun e w'' => e = .returned (.int .i64 R.1.places.length) ∧ Same w26 w'' := by
          rw [← el]
          exact quiet_of (w := w26) fun w' s' => waits_says p m R.1.ds w' (hB26.d.same s')
        have hfew := hB26.inv.few
        have k5 : Kn (decide (bb < (R.1.places.length : Int))) false := .no (by omega)
        apply W.readS LO mixed [3, 9, 11, 12, 13, 124] (by kernel_rfl)
        · repeat' (first | rfl | with_reducible assumption | assumption | constructor)
        intro w27 f27 s27 hf27
        replace hf27 : f27 = [(3, _), (9, _), (11, _), (12, _), (13, _), (124, _)] := hf27
        subst hf27
        refine W.cond (b := false) rfl (fun h => by cases h) (fun _ => W.skip ?_)
        exact N.inb (N.cut ⟨⟨v2, b2, R.1, hB26.same s27, hbuf2⟩, rfl⟩ (sub_keys rfl))
      · rintro w17 _ ⟨⟨v2, b2, D', hB', hbuf'⟩, rfl⟩
        have k5 : Kn (IntKind.i64.wrap ((i : Int) + 1)) ((i + 1 : Nat) : Int) := .of (IntWalk.i64_in _ (by omega))
        apply W.readN LO mixed [3, 9, 11, 12, 13] (by kernel_rfl)
        · repeat' (first | rfl | with_reducible assumption | assumption | constructor)
        intro w18 f18 s18 hf18
        replace hf18 : f18 = [(3, _), (9, _), (11, _), (12, _), (13, _)] := hf18
        subst hf18
        exact N.round (k - 1) _ (by omega) ⟨i + 1, v2, b2, D', by omega, hB'.same s18, hbuf', rfl⟩ (sub_keys rfl)
    · have k1 : Kn (decide ((i : Int) < (l.length : Int))) false := .no (by omega)
      refine W.seq ?_
      apply W.readS LO mixed [46] (by kernel_rfl)
      · repeat' (first | rfl | with_reducible assumption | assumption | constructor)
      intro w11 f11 s11 hf11
      replace hf11 : f11 = [(46, _)] := hf11
      subst hf11
      refine W.cond (b := false) rfl (fun h => by cases h) (fun _ => W.exit ?_)
      exact N.thenE (N.thenE (N.out (N.cut ⟨hB.mv.same s11, rfl⟩ (sub_keys rfl))))
  rintro w17 _ ⟨hm17, rfl⟩
  refine W.seq (W.list ?_)
  refine Ls.call LO rfl rfl rfl rfl rfl (vs := []) rfl (awake_walk w17) ?_
  rintro _ w19 ⟨rfl, hm19⟩
  refine ⟨_, rfl, ?_⟩
  apply Ls.runK LO [8] 1
  · repeat' (first | rfl | with_reducible assumption | assumption | constructor)
  intro w20 f20 s20 hf20
  replace hf20 : f20 = [(8, _)] := hf20
  subst hf20
  refine Ls.nil (N.to (W.ret (post LO (rs := [.tmp 8]) rfl (vs := [.bool true]) (.tmp rfl .nil) ⟨rfl, (hm17.trans hm19).same s20⟩)))
theorem near_law (start b h : Int) (a : Option Addr) (cap : Nat) (l : List Int) (w : World) (h0 : (Lit.int .u32 start).wf = true) (h1 : (Lit.int .i64 b).wf = true) (h2 : (Lit.int .i64 h).wf = true) (hrow : RowK .i64 w a l) (hl : ∀ n ∈ l, (Lit.int .i64 n).wf = true) :
    Calls Try.prog 7 #[.int .u32 start, .int .i64 b, .int .i64 h, .slice a l.length cap] w (Yes w) :=
  near_walk start b h a cap l w (by have := bounds_u32 h0; omega) (bounds_i64 h1) (bounds_i64 h2) hrow fun n hn => bounds_i64 (hl n hn)
end Go.Proofs.Ytieolnekccacbaa
