/- What is proved: the reference's table: an entry goes; ticks go by. Conditions: those that stand in each theorem. -/
import Derived.Test.YtnghmaejmfhigaaDefRef2
namespace Go.Proofs.Ytnghmaejmfhigaa
set_option linter.unusedVariables false
set_option linter.unusedSimpArgs false
set_option linter.unusedSectionVars false
open Go.RowKit Go.Maps Go.MapKept Go.ChangeMaps Fw
theorem flat_drop {α : Type} (f : α → List Value) (z : Nat) (hz : ∀ x, (f x).length = z) : ∀ (L : List α) (l : Nat), (L.flatMap f).drop (l * z) = (L.drop l).flatMap f
  | [], l => by simp
  | x :: r, 0 => by simp
  | x :: r, l + 1 => by
    rw [List.flatMap_cons, List.drop_succ_cons, ← flat_drop f z hz r l, List.drop_append, List.drop_eq_nil_iff.2 (by rw [hz, Nat.add_mul]; omega), hz, List.nil_append, show (l + 1) * z - z = l * z by rw [Nat.add_mul]; omega]
theorem flat_take {α : Type} (f : α → List Value) (z : Nat) (hz : ∀ x, (f x).length = z) : ∀ (L : List α) (l : Nat), (L.flatMap f).take (l * z) = (L.take l).flatMap f
  | [], l => by simp
  | x :: r, 0 => by simp
  | x :: r, l + 1 => by
    rw [List.flatMap_cons, List.take_succ_cons, List.flatMap_cons, ← flat_take f z hz r l, List.take_append, List.take_of_length_le (by rw [hz, Nat.add_mul]; omega), hz, show (l + 1) * z - z = l * z by rw [Nat.add_mul]; omega]
theorem und_ents : Try.prog.underlying 45 = some (.slice 63) := by kernel_rfl
theorem und_parts : Try.prog.underlying 61 = some (.slice 69) := by kernel_rfl
def zEnt : Value := .agg #[.int .u32 0, .int .u32 0, .int .i64 0, .int .i64 0, .slice none 0 0, .int .i64 0, .int .i64 0]
def zPart : Value := .agg #[.int .i64 0, .int .u8 0]
theorem info_ent : ∃ i, Try.prog.info? 63 = some i ∧ i.zero = some zEnt ∧ i.size = 7 ∧ i.bytes = 72 ∨ Try.prog.info? 63 = some i ∧ i.zero = some zEnt ∧ i.size = 7 ∧ i.bytes = 64 := by
  first
  | (obtain ⟨i, h1, h2, h3, h4⟩ := info_parts (P := Try.prog) (t := 63) (z := zEnt) (n := 7) (b := 64) (by kernel_rfl); exact ⟨i, .inr ⟨h1, h2, h3, h4⟩⟩)
  | (obtain ⟨i, h1, h2, h3, h4⟩ := info_parts (P := Try.prog) (t := 63) (z := zEnt) (n := 7) (b := 72) (by kernel_rfl); exact ⟨i, .inl ⟨h1, h2, h3, h4⟩⟩)
theorem info_part : ∃ i, Try.prog.info? 69 = some i ∧ i.zero = some zPart ∧ i.size = 2 ∧ i.bytes = 16 := info_parts (by kernel_rfl)
theorem lv_one {w : World} {x : RE} (h : OwnZ w 69 2 x.lv x.parts.length (prow x.parts)) : x.lv.oneCell' = true ∧ x.lv.cells = #[x.lv] := by
  obtain ⟨a, c, e, _⟩ := h.slice
  rw [e]; exact ⟨rfl, rfl⟩
theorem rows_one {L : List RE} (h : ∀ x ∈ L, x.lv.oneCell' = true) (u : Value) (hu : u ∈ rows L) : u.oneCell' = true := by
  obtain ⟨x, hx, hu⟩ := List.mem_flatMap.1 hu
  simp only [RE.cs, List.mem_cons, List.not_mem_nil, or_false] at hu
  rcases hu with rfl | rfl | rfl | rfl | rfl | rfl | rfl
  · rfl
  · rfl
  · rfl
  · rfl
  · exact h x hx
  · rfl
  · rfl
def DropPost (q : Nat) (vL : Value) (most ticks now : Int) (L' : List RE) (w : World) (e : Ending) (w' : World) : Prop :=
  e = .returned (.tuple #[]) ∧ ∃ vL', RTAt w' q vL' most ticks now L' ∧ Mv (· = q) w w' ∧ ∀ k, vL'.ownBlock = some k → vL.ownBlock = some k ∨ w.heap.size ≤ k
set_option maxRecDepth 100000 in
set_option maxHeartbeats 4000000 in
theorem drop_walk (q : Nat) (vL : Value) (most ticks now : Int) (L : List RE) (i : Nat) (w : World) (h : RTAt w q vL most ticks now L) (hi : i < L.length) (hl : L.length ≤ 1000) :
    Calls Try.prog 23 #[.pointer (some ⟨q, 0, none⟩), .int .i64 i] w (DropPost q vL most ticks now (L.eraseIdx i) w) := by
  obtain ⟨iE, bE, hiE, hzE, hsE, hbE, hbE72⟩ : ∃ iE bE, Try.prog.info? 63 = some iE ∧ iE.zero = some zEnt ∧ iE.size = 7 ∧ iE.bytes = bE ∧ bE ≤ 72 := by
    obtain ⟨i, ⟨h1, h2, h3, h4⟩ | ⟨h1, h2, h3, h4⟩⟩ := info_ent
    · exact ⟨i, 72, h1, h2, h3, h4, by omega⟩
    · exact ⟨i, 64, h1, h2, h3, h4, by omega⟩
  refine calls_W (n := 24) (vs := [.pointer (some ⟨q, 0, none⟩), .int .i64 i]) Try.func23 rfl rfl rfl ?_
  have k1 : Kn (decide ((0 : Int) ≤ (i : Int))) true := .yes (by omega)
  apply W.readS LO mixed [0, 1, 5] (by kernel_rfl)
  · repeat' (first | rfl | with_reducible assumption | assumption | constructor)
  intro w1 f1 s1 hf1
  replace hf1 : f1 = [(0, _), (1, _), (5, _)] := hf1
  subst hf1
  have h1 := h.same s1
  refine W.cond (b := true) rfl (fun _ => ?_) (fun h => by cases h)
  obtain ⟨aL, cL, hvL, hnc, hnil, hblk⟩ := h1.row.slice
  have F1 : ∀ w', Mv (fun _ => False) w1 w' → Cl w' ⟨q, 3, none⟩ (.slice aL L.length cL) := fun w' m => by
    have := (h1.moved m (fun _ _ e => e)).cls.2.2.2
    rwa [hvL] at this
  have k2 : Kn (IntKind.i64.wrap ((i : Int) + 1)) ((i : Int) + 1) := .of (IntWalk.i64_in _ (by omega))
  have b0 : (0 : Int) ≤ (i : Int) := by omega
  have b1 : (i : Int) ≤ (cL : Int) := by omega
  have b2 : 0 ≤ (i : Int) + 1 := by omega
  have b3 : (i : Int) + 1 ≤ (L.length : Int) := by omega
  refine W.held mixed (fun w' => Mv (fun _ => False) w1 w') [18] 19 rfl (fun w' s => (Mv.refl _ w1).same s) ?_
  intro w2 s2
  apply H.takesK LO true [0, 6, 12, 20] [0, 1, 2, 3, 4, 5, 6, 8, 9, 10, 11, 12, 13, 14] (k := 5) rfl (by kernel_rfl)
  · repeat' (first | rfl | with_reducible assumption | assumption | (intro w' hw'; replace hw' := hw' rfl; have h0' := F1 w' hw') | constructor)
  intro g_ hg_
  replace hg_ : g_ = [(0, _), (6, _), (12, _), (20, _)] := hg_
  subst hg_
  have ei1 : ((i : Int)).toNat = i := by omega
  have ei2 : ((i : Int) + 1).toNat = i + 1 := by omega
  rw [ei1, ei2]
  have hone : ∀ x ∈ L, x.lv.oneCell' = true := fun x hx => (lv_one (h1.ent x hx)).1
  have hr1 := (h1.same s2).row.part hvL 0 i (Nat.zero_le _) (by omega)
  have e1 : (((rows L).drop (0 * 7)).take ((i - 0) * 7)) = rows (L.take i) := by
    unfold rows; rw [Nat.zero_mul, List.drop_zero, Nat.sub_zero, flat_take RE.cs 7 cs_len]
  rw [e1] at hr1
  refine H.only (i := 7) rfl (by kernel_rfl) ?_
  refine Ls.appendZ rfl rfl rfl rfl und_ents hiE hzE hsE hbE rfl (by decide) rfl rfl (OwnZ.nil w2 63 7) hr1 (fun u hu => rows_one (fun x hx => hone x (List.mem_of_mem_take hx)) u hu) (by simp only [maxLen]; omega) (by have : (0 + (i - 0)) * bE ≤ 1000 * 72 := Nat.mul_le_mul (by omega) hbE72; omega) ?_
  intro v1 w3 ho1 m3 hb1
  have m3' : Mv (fun _ => False) w2 w3 := m3.mono fun k e => by cases e
  have m3 : Mv (fun _ => False) w1 w3 := ((Mv.refl _ w1).same s2).trans m3'
  refine Ls.nil (N.goOn (fun _ => m3) ?_)
  have hr2 := (h1.moved m3 (fun _ _ e => e)).row.part hvL (i + 1) L.length (by omega) (Nat.le_refl _)
  have e2 : (((rows L).drop ((i + 1) * 7)).take ((L.length - (i + 1)) * 7)) = rows (L.drop (i + 1)) := by
    unfold rows; rw [flat_drop RE.cs 7 cs_len]
    rw [List.take_of_length_le]
    rw [flat_len RE.cs 7 cs_len, List.length_drop]
    exact Nat.le_refl _
  rw [e2] at hr2
  refine H.only (i := 15) rfl (by kernel_rfl) ?_
  refine Ls.appendZ rfl rfl rfl rfl und_ents hiE hzE hsE hbE rfl (by decide) rfl rfl ho1 hr2 (fun u hu => rows_one (fun x hx => hone x (List.mem_of_mem_drop hx)) u hu) (by simp only [maxLen]; omega) (by have : (0 + (i - 0) + (L.length - (i + 1))) * bE ≤ 1000 * 72 := Nat.mul_le_mul (by omega) hbE72; omega) ?_
  intro v2 w4 ho2 m4 hb2
  have z2 : w2.heap.size = w1.heap.size := by rw [s2.heap]
  have hb1' : ∀ k, v1.ownBlock = some k → w1.heap.size ≤ k := fun k hk => by
    rcases hb1 with e | e
    · rw [e] at hk; cases hk
    · rw [e] at hk; have : w2.heap.size = k := Option.some.inj hk; omega
  have m4 : Mv (fun _ => False) w1 w4 := m3.cut m4 fun k hk e => by have := hb1' k e; omega
  have hb2' : ∀ k, v2.ownBlock = some k → w1.heap.size ≤ k := fun k hk => by
    rcases hb2 with e | e
    · exact hb1' k (by rw [← e]; exact hk)
    · rw [e] at hk; have : w3.heap.size = k := Option.some.inj hk; have := m3.size; omega
  refine Ls.nil (N.goOn (fun _ => m4) ?_)
  have hll : 0 + (i - 0) + (L.length - (i + 1)) = (L.eraseIdx i).length := by rw [List.length_eraseIdx_of_lt hi]; omega
  have hrr : [] ++ rows (L.take i) ++ rows (L.drop (i + 1)) = rows (L.eraseIdx i) := by
    rw [List.nil_append, List.eraseIdx_eq_take_drop_succ]
    unfold rows
    rw [List.flatMap_append]
  rw [hll, hrr] at ho2
  apply H.takesK LO false [23, 21] [16, 17] (k := 1) rfl (by kernel_rfl)
  · repeat' (first | rfl | with_reducible assumption | assumption | (intro w' hw'; replace hw' := True.intro) | constructor)
  intro g_ hg_
  replace hg_ : g_ = [(23, _), (21, _)] := hg_
  subst hg_
  obtain ⟨a2, c2, hv2, _, _, _⟩ := ho2.slice
  refine H.only (i := 18) rfl (by kernel_rfl) ?_
  have h4 := h1.moved m4 (fun _ _ e => e)
  refine Ls.store LO rfl rfl rfl rfl rfl (vs := [v2]) (by rw [hv2]; rfl) rfl (by rw [hv2]; rfl) h4.blk rfl ?_
  intro w5 hb5 m5 _
  refine Ls.nil (N.goOn (fun hint => absurd (show true = false from hint 18 List.mem_cons_self) (by decide)) ?_)
  have hq1 : q < w1.heap.size := (Array.getElem?_eq_some_iff.1 h1.blk).1
  have hz1 : w1.heap.size = w.heap.size := by rw [s1.heap]
  refine H.done (by kernel_rfl) (post0 rfl ⟨rfl, v2, ⟨hb5, ho2.moved m5 (fun k hk e => by have := hb2' k hk; omega), fun x hx => ?_, h4.dis.sublist (List.eraseIdx_sublist _ _)⟩, ?_, fun k hk => .inr (by have := hb2' k hk; omega)⟩)
  · have hxL := List.mem_of_mem_eraseIdx hx
    exact (h4.ent x hxL).moved m5 fun k hk e => by
      obtain ⟨cur, hc⟩ := (h4.ent x hxL).blk k hk
      rw [e, h4.blk] at hc
      injection hc with e1
      injection e1 with _ e2
      exact absurd e2 (by decide)
  · exact (((Mv.refl _ w).same s1).cut m4 fun _ _ e => e.elim).cut m5 fun _ _ e => e
theorem drop_neg (q : Nat) (vL : Value) (most ticks now : Int) (L : List RE) (w : World) (h : RTAt w q vL most ticks now L) :
    Calls Try.prog 23 #[.pointer (some ⟨q, 0, none⟩), .int .i64 (-1)] w (DropPost q vL most ticks now L w) := by
  refine calls_W (n := 24) (vs := [.pointer (some ⟨q, 0, none⟩), .int .i64 (-1)]) Try.func23 rfl rfl rfl ?_
  apply W.readS LO mixed [0, 1, 5] (by kernel_rfl)
  · repeat' (first | rfl | with_reducible assumption | assumption | constructor)
  intro w1 f1 s1 hf1
  replace hf1 : f1 = [(0, _), (1, _), (5, _)] := hf1
  subst hf1
  refine W.cond (b := false) rfl (fun h => by cases h) (fun _ => W.skip ?_)
  exact post0 rfl ⟨rfl, vL, h.same s1, (Mv.refl _ w).same s1, fun k hk => .inl hk⟩
/-! ### Ticks -/
def young (ticks now : Int) (x : RE) : Bool := decide (now - x.at_ < ticks)
set_option maxRecDepth 100000 in
set_option maxHeartbeats 4000000 in
theorem rtick_walk (q : Nat) (vL : Value) (most ticks now : Int) (L : List RE) (n : Int) (w : World) (h : RTAt w q vL most ticks now L) (hl : L.length ≤ 1000) (hnow : 0 ≤ now ∧ now ≤ 1000000000000) (hat : ∀ x ∈ L, 0 ≤ x.at_ ∧ x.at_ ≤ now) :
    Calls Try.prog 16 #[.pointer (some ⟨q, 0, none⟩), .int .i64 n] w fun e w' => e = .returned (.int .i64 ((L.length : Int) - (L.filter (young ticks (now + max 0 (min n 100000)))).length)) ∧
      ∃ vL', RTAt w' q vL' most ticks (now + max 0 (min n 100000)) (L.filter (young ticks (now + max 0 (min n 100000)))) ∧ Mv (· = q) w w' ∧ ∀ k, vL'.ownBlock = some k → vL.ownBlock = some k ∨ w.heap.size ≤ k := by
  refine calls_W (n := 61) (vs := [.pointer (some ⟨q, 0, none⟩), .int .i64 n]) Try.func16 rfl rfl rfl ?_
  apply W.readS LO mixed [0, 1] (by kernel_rfl)
  · repeat' (first | rfl | with_reducible assumption | assumption | constructor)
  intro w1 f1 s1 hf1
  replace hf1 : f1 = [(0, _), (1, _)] := hf1
  subst hf1
  have h1 := h.same s1
  obtain ⟨c0, c1, c2, c3⟩ := h1.cls
  obtain ⟨nn, hnn⟩ : ∃ nn, nn = max 0 (min n 100000) := ⟨_, rfl⟩
  rw [← hnn]
  have hnr : 0 ≤ nn ∧ nn ≤ 100000 := by omega
  have k1 : Kn (if 0 > n then 0 else n) (max n 0) := .of (by split <;> omega)
  have k2 : Kn (if 100000 < max n 0 then 100000 else max n 0) nn := .of (by rw [hnn]; split <;> omega)
  have k3 : Kn (IntKind.i64.wrap (now + nn)) (now + nn) := .of (IntWalk.i64_in _ (by omega))
  refine W.seq (W.list ?_)
  apply Ls.runK LO [0, 17, 15] 11
  · repeat' (first | rfl | with_reducible assumption | assumption | constructor)
  intro w2 f2 s2 hf2
  replace hf2 : f2 = [(0, _), (17, _), (15, _)] := hf2
  subst hf2
  have h2 := h1.same s2
  refine Ls.store LO rfl rfl rfl rfl rfl (vs := [.int .i64 (now + nn)]) rfl rfl rfl h2.blk rfl ?_
  intro w3 hb3 m3 _
  refine Ls.nil (N.to ?_)
  have hmv3 : Mv (· = q) w w3 := (((Mv.refl _ w).same s1).same s2).trans m3
  have hq2 := h2.off h2.blk
  have h3 : RTAt w3 q vL most ticks (now + nn) L := by
    refine ⟨hb3, h2.row.moved m3 fun k hk e => ?_, fun x hx => (h2.ent x hx).moved m3 fun k hk e => ?_, h2.dis⟩
    · obtain ⟨cur, hc⟩ := h2.row.blk k hk
      rw [e, h2.blk] at hc
      injection hc with e1
      injection e1 with _ e2
      exact absurd e2 (by decide)
    · obtain ⟨cur, hc⟩ := (h2.ent x hx).blk k hk
      rw [e, h2.blk] at hc
      injection hc with e1
      injection e1 with _ e2
      exact absurd e2 (by decide)
  clear c0 c1 c2 c3 h1 h2 hb3 m3 s1 s2 hq2 k1 k2 k3 hnn
  obtain ⟨aL, cL, hvL, _, _, _⟩ := h3.row.slice
  obtain ⟨c0, c1, c2, c3⟩ := h3.cls
  rw [hvL] at c3
  apply W.readS LO mixed [0, 5] (by kernel_rfl)
  · repeat' (first | rfl | with_reducible assumption | assumption | constructor)
  intro w4 f4 s4 hf4
  replace hf4 : f4 = [(0, _), (5, _)] := hf4
  subst hf4
  have h4 := h3.same s4
  clear c0 c1 c2 c3
  refine W.cutS (fun w' f => (∃ vL', RTAt w' q vL' most ticks (now + nn) (L.filter (young ticks (now + nn))) ∧ Mv (· = q) w w' ∧ ∀ k, vL'.ownBlock = some k → vL.ownBlock = some k ∨ w.heap.size ≤ k) ∧ f = [(0, .pointer (some ⟨q, 0, none⟩)), (5, .int .i64 L.length)]) ?_ ?_
  · obtain ⟨c0, c1, c2, c3⟩ := h4.cls
    rw [hvL] at c3
    have k4 : Kn (IntKind.i64.wrap ((L.length : Int) - 1)) ((L.length : Int) - 1) := .of (IntWalk.i64_in _ (by omega))
    apply W.readS LO mixed [0, 5, 6] (by kernel_rfl)
    · repeat' (first | rfl | with_reducible assumption | assumption | constructor)
    intro w5 f5 s5 hf5
    replace hf5 : f5 = [(0, _), (5, _), (6, _)] := hf5
    subst hf5
    refine W.block (W.loop (fun j w' f => j ≤ L.length ∧ (∃ vL', RTAt w' q vL' most ticks (now + nn) (L.take j ++ (L.drop j).filter (young ticks (now + nn))) ∧ Mv (· = q) w w' ∧ ∀ k, vL'.ownBlock = some k → vL.ownBlock = some k ∨ w.heap.size ≤ k) ∧
      f = [(0, .pointer (some ⟨q, 0, none⟩)), (5, .int .i64 L.length), (6, .int .i64 ((j : Int) - 1))]) L.length _ ⟨Nat.le_refl _, ⟨vL, by rw [List.take_length, List.drop_length, List.filter_nil, List.append_nil]; exact h4.same s5, (hmv3.same s4).same s5, fun k hk => .inl hk⟩, rfl⟩ (sub_keys rfl) ?_)
    clear c0 c1 c2 c3 h4 h3 hmv3 s4 s5 k4 hvL
    rintro j w6 _ ⟨hj, ⟨vL', hA, hmv, hown⟩, rfl⟩
    cases j with
    | zero =>
      have k5 : Kn (decide ((0 : Int) ≤ ((0 : Nat) : Int) - 1)) false := .no (by omega)
      refine W.seq ?_
      apply W.readS LO mixed [0, 5, 30] (by kernel_rfl)
      · repeat' (first | rfl | with_reducible assumption | assumption | constructor)
      intro w7 f7 s7 hf7
      replace hf7 : f7 = [(0, _), (5, _), (30, _)] := hf7
      subst hf7
      refine W.cond (b := false) rfl (fun h => by cases h) (fun _ => W.exit ?_)
      rw [List.take_zero, List.nil_append, List.drop_zero] at hA
      exact N.thenE (N.thenE (N.out (N.cut ⟨⟨vL', hA.same s7, hmv.same s7, hown⟩, rfl⟩ (sub_keys rfl))))
    | succ j =>
      have ej : ((j + 1 : Nat) : Int) - 1 = (j : Int) := by omega
      rw [ej]
      have k5 : Kn (decide ((0 : Int) ≤ (j : Int))) true := .yes (by omega)
      refine W.seq ?_
      apply W.readS LO mixed [0, 5, 6, 30] (by kernel_rfl)
      · repeat' (first | rfl | with_reducible assumption | assumption | constructor)
      intro w7 f7 s7 hf7
      replace hf7 : f7 = [(0, _), (5, _), (6, _), (30, _)] := hf7
      subst hf7
      have hA := hA.same s7
      have hmv := hmv.same s7
      refine W.cond (b := true) rfl (fun _ => W.skip (N.to ?_)) (fun h => by cases h)
      obtain ⟨M, hM⟩ : ∃ M, M = L.take (j + 1) ++ (L.drop (j + 1)).filter (young ticks (now + nn)) := ⟨_, rfl⟩
      rw [← hM] at hA
      have hML : M.length ≤ L.length := by
        rw [hM, List.length_append, List.length_take]
        have := List.length_filter_le (young ticks (now + nn)) (L.drop (j + 1))
        rw [List.length_drop] at this
        omega
      obtain ⟨x, hx⟩ : ∃ x, L[j]? = some x := ⟨_, List.getElem?_eq_getElem (by omega)⟩
      have hxM : M[j]? = some x := by rw [hM, List.getElem?_append_left (by rw [List.length_take]; omega), List.getElem?_take, if_pos (by omega), hx]
      have hxa := hat x (List.mem_of_getElem? hx)
      have htk : L.take (j + 1) = L.take j ++ [x] := by rw [List.take_add_one, hx]; rfl
      have hdr : L.drop j = x :: L.drop (j + 1) := by
        have := (List.getElem?_eq_some_iff.1 hx).2
        rw [List.drop_eq_getElem_cons (by omega), this]
      refine W.cutS (fun w' f => (∃ vL', RTAt w' q vL' most ticks (now + nn) (L.take j ++ (L.drop j).filter (young ticks (now + nn))) ∧ Mv (· = q) w w' ∧ ∀ k, vL'.ownBlock = some k → vL.ownBlock = some k ∨ w.heap.size ≤ k) ∧ f = [(0, .pointer (some ⟨q, 0, none⟩)), (5, .int .i64 L.length), (6, .int .i64 j)]) ?_ ?_
      · refine W.block ?_
        obtain ⟨g, c, hv, hg, hnc, hE⟩ := hA.at hxM
        obtain ⟨c0, c1, c2, c3⟩ := hA.cls
        rw [hv] at c3
        have i0 : (0 : Int) ≤ (j : Int) := by omega
        have hjM : j < M.length := (List.getElem?_eq_some_iff.1 hxM).1
        have i1 : (j : Int) < (M.length : Int) := by omega
        have ei : 0 + (j : Int).toNat * 7 = 0 + j * 7 := by omega
        have c6 : Cl w7 ⟨g, 0 + (j : Int).toNat * 7 + 6, none⟩ (.int .i64 x.at_) := by rw [ei]; exact hE.cls.2.2
        have k6 : Kn (IntKind.i64.wrap (now + nn - x.at_)) (now + nn - x.at_) := .of (IntWalk.i64_in _ (by omega))
        by_cases hy : now + nn - x.at_ < ticks
        · have k7 : Kn (decide (ticks ≤ now + nn - x.at_)) false := .no (by omega)
          apply W.readS LO mixed [0, 5, 6, 50] (by kernel_rfl)
          · repeat' (first | rfl | with_reducible assumption | assumption | constructor)
          intro w8 f8 s8 hf8
          replace hf8 : f8 = [(0, _), (5, _), (6, _), (50, _)] := hf8
          subst hf8
          refine W.cond (b := false) rfl (fun h => by cases h) (fun _ => W.skip (N.inb ?_))
          refine N.cut ⟨⟨vL', ?_, hmv.same s8, hown⟩, rfl⟩ (sub_keys rfl)
          have : L.take j ++ (L.drop j).filter (young ticks (now + nn)) = M := by
            rw [hM, htk, hdr, List.filter_cons, if_pos (show young ticks (now + nn) x = true from decide_eq_true hy), List.append_assoc]; rfl
          rw [this]; exact hA.same s8
        · have k7 : Kn (decide (ticks ≤ now + nn - x.at_)) true := .yes (by omega)
          apply W.readS LO mixed [0, 5, 6, 50] (by kernel_rfl)
          · repeat' (first | rfl | with_reducible assumption | assumption | constructor)
          intro w8 f8 s8 hf8
          replace hf8 : f8 = [(0, _), (5, _), (6, _), (50, _)] := hf8
          subst hf8
          refine W.cond (b := true) rfl (fun _ => W.list ?_) (fun h => by cases h)
          have hA8 := hA.same s8
          apply Ls.runK LO [0, 5, 6, 51, 52] 2
          · repeat' (first | rfl | with_reducible assumption | assumption | constructor)
          intro w9 f9 s9 hf9
          replace hf9 : f9 = [(0, _), (5, _), (6, _), (51, _), (52, _)] := hf9
          subst hf9
          refine Ls.call LO rfl rfl rfl rfl rfl (vs := [.pointer (some ⟨q, 0, none⟩), .int .i64 j]) rfl (drop_walk q vL' most ticks (now + nn) M j w9 (hA8.same s9) hjM (by omega)) ?_
          rintro _ w10 ⟨rfl, vL2, hA10, hm10, hown10⟩
          refine ⟨_, rfl, Ls.nil (N.inb (N.cut ⟨⟨vL2, ?_, ((hmv.same s8).same s9).trans hm10, fun k hk => ?_⟩, rfl⟩ (sub_keys rfl)))⟩
          · have : L.take j ++ (L.drop j).filter (young ticks (now + nn)) = M.eraseIdx j := by
              rw [hM, htk, hdr, List.filter_cons, if_neg (show ¬ young ticks (now + nn) x = true by unfold young; simp; omega), List.eraseIdx_append_of_lt_length (by rw [List.length_append, List.length_take]; simp; omega)]
              congr 1
              rw [List.eraseIdx_append_of_length_le (by rw [List.length_take]; omega)]
              rw [show j - (L.take j).length = 0 by rw [List.length_take]; omega]
              simp
            rw [this]; exact hA10
          · rcases hown10 k hk with e | e
            · exact hown k e
            · right
              have := (hmv.same s8).size
              rw [s9.heap] at e
              omega
      · rintro w8 _ ⟨⟨vL2, hA, hmv, hown⟩, rfl⟩
        have k8 : Kn (IntKind.i64.wrap ((j : Int) - 1)) ((j : Int) - 1) := .of (IntWalk.i64_in _ (by omega))
        apply W.readN LO mixed [0, 5, 6] (by kernel_rfl)
        · repeat' (first | rfl | with_reducible assumption | assumption | constructor)
        intro w9 f9 s9 hf9
        replace hf9 : f9 = [(0, _), (5, _), (6, _)] := hf9
        subst hf9
        exact N.round j _ (by omega) ⟨by omega, ⟨vL2, hA.same s9, hmv.same s9, hown⟩, rfl⟩ (sub_keys rfl)
  rintro w5 _ ⟨⟨vL', hA, hmv, hown⟩, rfl⟩
  obtain ⟨aL', cL', hvL', _, _, _⟩ := hA.row.slice
  obtain ⟨c0, c1, c2, c3⟩ := hA.cls
  rw [hvL'] at c3
  have hfl := List.length_filter_le (young ticks (now + nn)) L
  have k4 : Kn (IntKind.i64.wrap ((L.length : Int) - ((L.filter (young ticks (now + nn))).length : Int))) ((L.length : Int) - ((L.filter (young ticks (now + nn))).length : Int)) := .of (IntWalk.i64_in _ (by omega))
  apply W.readS LO mixed [4] (by kernel_rfl)
  · repeat' (first | rfl | with_reducible assumption | assumption | constructor)
  intro w6 f6 s6 hf6
  replace hf6 : f6 = [(4, _)] := hf6
  subst hf6
  exact W.ret (post LO (rs := [.tmp 4]) rfl (vs := [.int .i64 _]) (.tmp rfl .nil) ⟨rfl, vL', hA.same s6, hmv.same s6, hown⟩)
end Go.Proofs.Ytnghmaejmfhigaa
