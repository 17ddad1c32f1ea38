/- What is proved: an address as a text; a frame's head is the same as itself. Conditions: those that stand in each theorem. -/
import Derived.Test.YtbidgeaigiijpaaNetBk1
import Derived.Test.YtbidgeaigiijpaaFwRow
namespace Go.Proofs.Ytbidgeaigiijpaa
set_option linter.unusedVariables false
set_option linter.unusedSimpArgs false
set_option linter.unusedSectionVars false
open Go.RowKit Fw Nt
theorem own_str {P : Program} {w : World} {base n : Nat} {e' src dst e : TypeId} {v : Value} {xs : List Int} (hs : P.underlying src = some (.slice e)) (he : P.underlying e = some (.int .u8)) (hd : P.underlying dst = some .string)
    (h : w.ownsRow base e' 1 v n (xs.map (Value.int .u8))) : (convert src dst v).run P w = .ok (.string (strOfNums xs)) w := by
  have hl : xs.length = n := by have := h.1; simpa using this
  rcases h.2 with ⟨rfl, rfl⟩ | ⟨g, cap, cur, rfl, _⟩
  · obtain rfl : xs = [] := List.eq_nil_of_length_eq_zero hl
    exact run_convert_bytes_nil w src e hs he 0 0 dst hd
  · refine run_convert_bytes_arg w src e hs he g 0 n cap xs hl (fun i hi => ?_) dst hd
    have hc := h.cells (g := g) rfl i (.int .u8 (xs.getD i 0)) (by simp [List.getElem?_eq_getElem (show i < xs.length by omega), List.getD_eq_getElem?_getD])
    have ha : (⟨g, 0, none⟩ : Addr).add i = ⟨g, 0 + i, none⟩ := by unfold Addr.add; split <;> simp_all
    rwa [ha] at hc
/-- An address as a text. -/
def txt (f : Nat → Int) : ByteArray := strOfNums ((List.range 6).map f)
theorem six_at (f : Nat → Int) (i : Nat) (h : i < 6) : (six f)[i]? = some (.int .u8 (f i)) := by
  match i, h with
  | 0, _ => rfl
  | 1, _ => rfl
  | 2, _ => rfl
  | 3, _ => rfl
  | 4, _ => rfl
  | 5, _ => rfl
set_option maxRecDepth 100000 in
set_option maxHeartbeats 4000000 in
theorem text_walk (f : Nat → Int) (w : World) : Calls Try.prog 41 #[.agg (six f).toArray] w fun e w' => e = .returned (.string (txt f)) ∧ Mv (fun _ => False) w w' := by
  obtain ⟨iB, hiB, hzB, hsB, hbB⟩ := info_parts info_u8
  refine calls_W (n := 17) (vs := [.agg (six f).toArray]) Try.func41 rfl rfl rfl ?_
  refine W.seq (W.list ?_)
  refine Ls.box rfl rfl rfl rfl rfl (vs := six f) rfl ?_
  have hb1 : BX (w.alloc (.cells (six f).toArray 31)) w.heap.size 31 (six f) := heap_alloc_new w (.cells (six f).toArray 31)
  have m1 : Mv (fun _ => False) w (w.alloc (.cells (six f).toArray 31)) := (Mv.refl _ w).alloc _
  generalize w.alloc (.cells (six f).toArray 31) = w1 at hb1 m1
  generalize w.heap.size = p at hb1
  apply Ls.runK LO [1] 1
  · repeat' (first | rfl | with_reducible assumption | assumption | constructor)
  intro w2 f2 s2 hf2
  replace hf2 : f2 = [(1, _)] := hf2
  subst hf2
  refine Ls.nil (N.to ?_)
  apply W.readS LO mixed [1, 3] (by kernel_rfl)
  · repeat' (first | rfl | with_reducible assumption | assumption | constructor)
  intro w3 f3 s3 hf3
  replace hf3 : f3 = [(1, _), (3, _)] := hf3
  subst hf3
  have hb3 := (hb1.same s2).same s3
  have m3 := (m1.same s2).same s3
  refine W.cutS (fun w' g => ∃ v : Value, Own w' 5 v (((List.range 6).map f).map (.int .u8)) ∧ Mv (fun _ => False) w w' ∧ g = [(3, v)]) ?_ ?_
  ·
    apply W.readS LO mixed [1, 3, 4] (by kernel_rfl)
    · repeat' (first | rfl | with_reducible assumption | assumption | constructor)
    intro w4 f4 s4 hf4
    replace hf4 : f4 = [(1, _), (3, _), (4, _)] := hf4
    subst hf4
    have hb4 := hb3.same s4
    have m4 := m3.same s4
    refine W.block (W.loop (fun k w' g => ∃ (i : Nat) (v : Value), k + i = 6 ∧ Own w' 5 v (((List.range i).map f).map (.int .u8)) ∧ (∀ k, v.ownBlock = some k → w4.heap.size ≤ k) ∧ Mv (fun _ => False) w4 w' ∧ g = [(1, .pointer (some ⟨p, 0, none⟩)), (3, v), (4, .int .i64 i)]) 6 _ ⟨0, .slice none 0 0, rfl, Own.nil _ _, (fun k h => by cases h), Mv.refl _ _, rfl⟩ (sub_keys rfl) ?_)
    rintro k w5 _ ⟨i, v, hki, hO, hown, m5, rfl⟩
    by_cases hlt : i < 6
    · have k1 : Kn (decide ((i : Int) < 6)) true := .yes (by omega)
      refine W.seq ?_
      apply W.readS LO mixed [1, 3, 4, 6] (by kernel_rfl)
      · repeat' (first | rfl | with_reducible assumption | assumption | constructor)
      intro w6 f6 s6 hf6
      replace hf6 : f6 = [(1, _), (3, _), (4, _), (6, _)] := hf6
      subst hf6
      have m6 := m5.same s6
      have hO := hO.same s6
      refine W.cond (b := true) rfl (fun _ => W.skip (N.to ?_)) (fun h => by cases h)
      refine W.cutS (fun w' g => ∃ v : Value, Own w' 5 v (((List.range (i + 1)).map f).map (.int .u8)) ∧ (∀ k, v.ownBlock = some k → w4.heap.size ≤ k) ∧ Mv (fun _ => False) w4 w' ∧ g = [(1, .pointer (some ⟨p, 0, none⟩)), (3, v), (4, .int .i64 i)]) ?_ ?_
      · refine W.block ?_
        have hb6 : BX w6 p 31 (six f) := hb4.moved m6 fun e => e
        have cu : Cl w6 ⟨p, 0 + (i : Int).toNat * 1, none⟩ (.int .u8 (f i)) := by
          rw [show 0 + (i : Int).toNat * 1 = i by omega]
          exact hb6.cl (six_at f i hlt)
        have i0 : (0 : Int) ≤ (i : Int) := by omega
        have i1 : (i : Int) < ((6 : Nat) : Int) := by omega
        refine W.list ?_
        apply Ls.runK LO [1, 4, 9, 12] 4
        · repeat' (first | rfl | with_reducible assumption | assumption | constructor)
        intro w7 f7 s7 hf7
        replace hf7 : f7 = [(1, _), (4, _), (9, _), (12, _)] := hf7
        subst hf7
        have m7 := m6.same s7
        have hO := hO.same s7
        refine Ls.buildSlice rfl rfl rfl rfl info_sl8 hiB hzB hsB rfl (ps := [(0, .int .u8 (f i))]) rfl rfl rfl (cells := [.int .u8 (f i)]) (by rw [hsB]; exact fill_one _ _ rfl rfl) ?_
        have hrd := reads_one w7 5 (.int .u8 (f i))
        have hm8 : Mv (fun _ => False) w7 (w7.alloc (.cells [.int .u8 (f i)].toArray 5)) := (Mv.refl _ w7).alloc _
        generalize w7.alloc (.cells [Value.int .u8 (f i)].toArray 5) = w8 at hrd hm8
        have hO8 := hO.moved hm8 (fun k _ e => e)
        refine Ls.append rfl rfl rfl rfl info_sl8 hiB hzB hsB hbB rfl rfl rfl hO8 hrd (fun u hu => by obtain rfl := List.mem_singleton.1 hu; rfl) (by simp only [List.length_map, List.length_range, List.length_singleton, maxLen]; omega) (by simp only [List.length_map, List.length_range, List.length_singleton]; omega) ?_
        intro v' w9 hO9 hm9 hb9
        apply Ls.runK LO [1, 3, 4] 1
        · repeat' (first | rfl | with_reducible assumption | assumption | constructor)
        intro w10 f10 s10 hf10
        replace hf10 : f10 = [(1, _), (3, _), (4, _)] := hf10
        subst hf10
        refine Ls.nil (N.inb (N.cut ⟨v', ?_, fun k hk => ?_, ?_, rfl⟩ (sub_keys rfl)))
        · rw [List.range_succ, List.map_append, List.map_append]; exact hO9.same s10
        · rcases hb9 with e | e
          · exact hown k (by rw [← e]; exact hk)
          · rw [e] at hk
            have h1 : w8.heap.size = k := Option.some.inj hk
            have h2 := m7.size
            have h3 := hm8.size
            omega
        · exact ((m7.trans hm8).cut hm9 fun k hk e => by have := hown k e; omega).same s10
      · rintro w7 _ ⟨v', hO', hown', m7, rfl⟩
        have k6 : Kn (IntKind.i64.wrap ((i : Int) + 1)) ((i + 1 : Nat) : Int) := i64k (by omega)
        apply W.readN LO mixed [1, 3, 4] (by kernel_rfl)
        · repeat' (first | rfl | with_reducible assumption | assumption | constructor)
        intro w8 f8 s8 hf8
        replace hf8 : f8 = [(1, _), (3, _), (4, _)] := hf8
        subst hf8
        exact N.round (k - 1) _ (by omega) ⟨i + 1, v', by omega, hO'.same s8, hown', m7.same s8, rfl⟩ (sub_keys rfl)
    · have k1 : Kn (decide ((i : Int) < 6)) false := .no (by omega)
      obtain rfl : i = 6 := by omega
      refine W.seq ?_
      apply W.readS LO mixed [3, 6] (by kernel_rfl)
      · repeat' (first | rfl | with_reducible assumption | assumption | constructor)
      intro w6 f6 s6 hf6
      replace hf6 : f6 = [(3, _), (6, _)] := hf6
      subst hf6
      refine W.cond (b := false) rfl (fun h => by cases h) (fun _ => W.exit ?_)
      exact N.thenE (N.thenE (N.out (N.cut ⟨v, hO.same s6, m4.trans (m5.same s6), rfl⟩ (sub_keys rfl))))
  rintro w4 _ ⟨v, hO, m4, rfl⟩
  have cv : ∀ w', Same w4 w' → (convert 24 9 v).run Try.prog w' = .ok (.string (txt f)) w' := fun w' s' => own_str info_sl8 und_u8 und_str (hO.same s')
  apply W.readS LO mixed [2] (by kernel_rfl)
  · repeat' (first | rfl | with_reducible assumption | assumption | constructor)
  intro w5 f5 s5 hf5
  replace hf5 : f5 = [(2, _)] := hf5
  subst hf5
  exact W.ret (post LO (rs := [.tmp 2]) rfl (vs := [.string (txt f)]) (.tmp rfl .nil) ⟨rfl, m4.same s5⟩)
set_option maxRecDepth 100000 in
set_option maxHeartbeats 4000000 in
theorem same2_walk (f g : Nat → Int) (t : Int) (w : World) : Calls Try.prog 20 #[.agg (ecs f g t).toArray, .agg (ecs f g t).toArray] w fun e w' => e = .returned (.bool true) ∧ Mv (fun _ => False) w w' := by
  refine calls_W (n := 28) (vs := [.agg (ecs f g t).toArray, .agg (ecs f g t).toArray]) Try.func20 rfl rfl rfl ?_
  refine W.seq (W.list ?_)
  refine Ls.box rfl rfl rfl rfl rfl (vs := ecs f g t) rfl ?_
  have hb1 : BX (w.alloc (.cells (ecs f g t).toArray 33)) w.heap.size 33 (ecs f g t) := heap_alloc_new w (.cells (ecs f g t).toArray 33)
  have m1 : Mv (fun _ => False) w (w.alloc (.cells (ecs f g t).toArray 33)) := (Mv.refl _ w).alloc _
  generalize w.alloc (.cells (ecs f g t).toArray 33) = w1 at hb1 m1
  generalize w.heap.size = p at hb1
  refine Ls.box rfl rfl rfl rfl rfl (vs := ecs f g t) rfl ?_
  have hq2 : BX (w1.alloc (.cells (ecs f g t).toArray 33)) w1.heap.size 33 (ecs f g t) := heap_alloc_new w1 (.cells (ecs f g t).toArray 33)
  have m2 : Mv (fun _ => False) w1 (w1.alloc (.cells (ecs f g t).toArray 33)) := (Mv.refl _ w1).alloc _
  generalize w1.alloc (.cells (ecs f g t).toArray 33) = w2 at hq2 m2
  generalize w1.heap.size = q at hq2
  have hb2 := hb1.moved m2 fun e => e
  have m2 := m1.trans m2
  apply Ls.runK LO [2, 3] 1
  · repeat' (first | rfl | with_reducible assumption | assumption | constructor)
  intro w3 f3 s3 hf3
  replace hf3 : f3 = [(2, _), (3, _)] := hf3
  subst hf3
  refine Ls.nil (N.to ?_)
  have m3 := m2.same s3
  have hb3 := hb2.same s3
  have hq3 := hq2.same s3
  clear m1 m2 hb1 hb2 hq2 s3
  have P1 : ∀ w', Mv (fun _ => False) w3 w' → CellsAt w' p 0 6 (six f) := fun w' m => (hb3.moved m fun e => e).part (x := []) (y := six f) (z := six g ++ [.int .i64 t]) rfl rfl rfl
  have P2 : ∀ w', Mv (fun _ => False) w3 w' → CellsAt w' p 6 6 (six g) := fun w' m => (hb3.moved m fun e => e).part (x := six f) (y := six g) (z := [.int .i64 t]) rfl rfl rfl
  have P3 : ∀ w', Mv (fun _ => False) w3 w' → Cl w' ⟨p, 0 + 12, none⟩ (.int .i64 t) := fun w' m => (hb3.moved m fun e => e).cl rfl
  have Q1 : ∀ w', Mv (fun _ => False) w3 w' → CellsAt w' q 0 6 (six f) := fun w' m => (hq3.moved m fun e => e).part (x := []) (y := six f) (z := six g ++ [.int .i64 t]) rfl rfl rfl
  have Q2 : ∀ w', Mv (fun _ => False) w3 w' → CellsAt w' q 6 6 (six g) := fun w' m => (hq3.moved m fun e => e).part (x := six f) (y := six g) (z := [.int .i64 t]) rfl rfl rfl
  have Q3 : ∀ w', Mv (fun _ => False) w3 w' → Cl w' ⟨q, 0 + 12, none⟩ (.int .i64 t) := fun w' m => (hq3.moved m fun e => e).cl rfl
  have e1 : Kn ((txt f).toList == (txt f).toList) true := .of (by simp)
  have e2 : Kn ((txt g).toList == (txt g).toList) true := .of (by simp)
  have e3 : Kn (t == t) true := .of (by simp)
  refine W.seq (W.held mixed (fun w' => Mv (fun _ => False) w3 w') [] 24 rfl (fun w' s => (Mv.refl _ w3).same s) ?_)
  intro x0 s0
  have m0 : Mv (fun _ => False) w3 x0 := (Mv.refl _ w3).same s0
  apply H.takesK LO true [2, 3, 6, 9] [0, 1, 3, 4] (k := 20) rfl (by kernel_rfl)
  · repeat' (first | rfl | with_reducible assumption | assumption | (intro w' hw'; replace hw' := hw' rfl; have h0' := P1 w' hw'; have h1' := Q1 w' hw') | constructor)
  intro g_ hg_
  replace hg_ : g_ = [(2, _), (3, _), (6, _), (9, _)] := hg_
  subst hg_
  refine H.only (i := 2) rfl (by kernel_rfl) ?_
  refine Ls.call LO rfl rfl rfl rfl rfl (vs := [.agg (six f).toArray]) rfl (text_walk f x0) ?_
  rintro _ x1 ⟨rfl, n1⟩
  have n1 := m0.trans n1
  refine ⟨_, rfl, Ls.nil (N.goOn (fun _ => n1) ?_)⟩
  refine H.only (i := 5) rfl (by kernel_rfl) ?_
  refine Ls.call LO rfl rfl rfl rfl rfl (vs := [.agg (six f).toArray]) rfl (text_walk f x1) ?_
  rintro _ x2 ⟨rfl, n2⟩
  have n2 := n1.trans n2
  refine ⟨_, rfl, Ls.nil (N.goOn (fun _ => n2) ?_)⟩
  apply H.takesK LO true [2, 3, 12, 14, 17] [6, 7, 8, 9, 11, 12] (k := 12) rfl (by kernel_rfl)
  · repeat' (first | rfl | with_reducible assumption | assumption | (intro w' hw'; replace hw' := hw' rfl; have h0' := P2 w' hw'; have h1' := Q2 w' hw') | constructor)
  intro g_ hg_
  replace hg_ : g_ = [(2, _), (3, _), (12, _), (14, _), (17, _)] := hg_
  subst hg_
  refine H.only (i := 10) rfl (by kernel_rfl) ?_
  refine Ls.call LO rfl rfl rfl rfl rfl (vs := [.agg (six g).toArray]) rfl (text_walk g x2) ?_
  rintro _ x3 ⟨rfl, n3⟩
  have n3 := n2.trans n3
  refine ⟨_, rfl, Ls.nil (N.goOn (fun _ => n3) ?_)⟩
  refine H.only (i := 13) rfl (by kernel_rfl) ?_
  refine Ls.call LO rfl rfl rfl rfl rfl (vs := [.agg (six g).toArray]) rfl (text_walk g x3) ?_
  rintro _ x4 ⟨rfl, n4'⟩
  have n4' := n3.trans n4'
  refine ⟨_, rfl, Ls.nil (N.goOn (fun _ => n4') ?_)⟩
  apply H.takesK LO true [4] [14, 15, 16, 17, 18, 19, 20, 21, 22, 23] (k := 0) rfl (by kernel_rfl)
  · repeat' (first | rfl | with_reducible assumption | assumption | (intro w' hw'; replace hw' := hw' rfl; have h0' := P3 w' hw'; have h1' := Q3 w' hw') | constructor)
  intro g_ hg_
  replace hg_ : g_ = [(4, _)] := hg_
  subst hg_
  refine H.done (by kernel_rfl) (N.to ?_)
  exact W.ret (post LO (rs := [.tmp 4]) rfl (vs := [.bool true]) (.tmp rfl .nil) ⟨rfl, m3.trans n4'⟩)
end Go.Proofs.Ytbidgeaigiijpaa
