/- What is proved: the places of the rules that fit. Conditions: those that stand in each theorem. -/
import Derived.Test.YtbbafhpnlmmjjaaGrpFits
namespace Go.Proofs.Ytbbafhpnlmmjjaa
set_option linter.unusedVariables false
set_option linter.unusedSimpArgs false
set_option linter.unusedSectionVars false
open Go.RowKit Fw
def RulesAt (w : World) (v : Value) (l : List RuleV) : Prop := Rd w 15 v l.length (l.flatMap RuleV.cs) ∧ ∀ r ∈ l, RuleAt w r
theorem RulesAt.moved {w w' : World} {v : Value} {l : List RuleV} (h : RulesAt w v l) (m : Mv (fun _ => False) w w') : RulesAt w' v l := ⟨h.1.moved m, fun r hr => (h.2 r hr).moved m⟩
theorem rcs_len (r : RuleV) : r.cs.length = 15 := rfl
def pickN (t : TupV) (dir : Int) : List RuleV → Nat → List Int
  | [], _ => []
  | r :: l, i => if r.fits t dir = true then (i : Int) :: pickN t dir l (i + 1) else pickN t dir l (i + 1)
theorem pickN_len (t : TupV) (dir : Int) : ∀ (l : List RuleV) (i : Nat), (pickN t dir l i).length ≤ l.length
  | [], _ => Nat.le_refl _
  | r :: l, i => by
    have := pickN_len t dir l (i + 1)
    unfold pickN
    split
    · simp only [List.length_cons]; omega
    · simp only [List.length_cons]; omega
theorem set_one (a : Array Value) (h : a.size = 1) (u : Value) : a.setIfInBounds 0 u = #[u] := by
  obtain ⟨l⟩ := a
  match l, h with
  | [x], _ => rfl
theorem fill_one (z u : Value) (hz : z.cells = #[z]) (hu : u.cells = #[u]) : Instr.fill (fun i => some (i * 1, 1)) ((Array.range (1 * 1)).map (z.cells[· % z.cells.size]!)) [(0, u)] = some [u].toArray := by
  rw [hz]
  simp only [Instr.fill, hu]
  simp [Array.range, set_one]
theorem reads_one (w : World) (e : TypeId) (u : Value) : Reads (w.alloc (.cells [u].toArray e)) (.slice (some ⟨w.heap.size, 0, none⟩) 1 1) [u] := by
  refine ⟨_, _, _, rfl, rfl, fun h => (by cases h), fun j v hj => ?_⟩
  cases j with
  | zero =>
    obtain rfl : u = v := by simpa using hj
    refine ⟨_, rfl, ?_⟩
    rw [Addr.add_lit]
    unfold World.cell?
    have := heap_alloc_new w (.cells [u].toArray e)
    simp only [this]
    rfl
  | succ j => simp at hj
theorem info_int : ∃ i, Try.prog.info? 3 = some i ∧ i.zero = some (.int .i64 0) ∧ i.size = 1 ∧ i.bytes = 8 := info_parts (by kernel_rfl)
theorem und_ints : Try.prog.underlying 39 = some (.slice 3) := by kernel_rfl
def zRule : List Value := [.int .i64 0, .int .i64 0, .bool false, .slice none 0 0, .bool false, .slice none 0 0, .bool false, .slice none 0 0, .bool false, .slice none 0 0, .bool false, .int .i64 0, .slice none 0 0, .int .i64 0, .int .i64 0]
set_option maxRecDepth 100000 in
set_option maxHeartbeats 4000000 in
theorem pick_walk (v : Value) (l : List RuleV) (t : TupV) (dir : Int) (w : World) (h : RulesAt w v l) (hl : l.length ≤ 1000000) : Calls Try.prog 12 #[v, .agg t.cs.toArray, .int .i64 dir] w fun e w' => ∃ v', e = .returned v' ∧ Own w' 3 v' ((pickN t dir l 0).map (.int .i64)) ∧ (∀ k, v'.ownBlock = some k → w.heap.size ≤ k) ∧ Mv (fun _ => False) w w' := by
  obtain ⟨iI, hiI, hzI, hsI, hbI⟩ := info_int
  obtain ⟨a, c, hv⟩ := h.1.len
  subst hv
  refine calls_W (n := 27) (vs := [.slice a l.length c, .agg t.cs.toArray, .int .i64 dir]) Try.func12 rfl rfl rfl ?_
  refine W.seq (W.list ?_)
  refine Ls.box rfl rfl rfl rfl rfl (vs := t.cs) rfl ?_
  have hb1 : BX (w.alloc (.cells t.cs.toArray 25)) w.heap.size 25 t.cs := heap_alloc_new w (.cells t.cs.toArray 25)
  have m1 : Mv (fun _ => False) w (w.alloc (.cells t.cs.toArray 25)) := (Mv.refl _ w).alloc _
  generalize w.alloc (.cells t.cs.toArray 25) = w1 at hb1 m1
  obtain ⟨p, hp⟩ : ∃ p, p = w.heap.size := ⟨_, rfl⟩
  rw [← hp] at hb1
  rw [← hp]
  apply Ls.runK LO [0, 2, 4] 1
  · repeat' (first | rfl | with_reducible assumption | assumption | constructor)
  intro w2 f2 s2 hf2
  replace hf2 : f2 = [(0, _), (2, _), (4, _)] := hf2
  subst hf2
  refine Ls.nil (N.to ?_)
  have m2 := m1.same s2
  have hb2 := hb1.same s2
  clear m1 hb1 s2
  apply W.readS LO mixed [0, 2, 4, 7] (by kernel_rfl)
  · repeat' (first | rfl | with_reducible assumption | assumption | constructor)
  intro w3 f3 s3 hf3
  replace hf3 : f3 = [(0, _), (2, _), (4, _), (7, _)] := hf3
  subst hf3
  have m3 := m2.same s3
  have hb3 := hb2.same s3
  clear m2 hb2 s3
  refine W.cutS (fun w' g => ∃ v', (Mv (fun _ => False) w w' ∧ Own w' 3 v' ((pickN t dir l 0).map (.int .i64)) ∧ ∀ k, v'.ownBlock = some k → w.heap.size ≤ k) ∧ g = [(7, v')]) ?_ ?_
  ·
    apply W.readS LO mixed [2, 4, 7, 10, 11, 12] (by kernel_rfl)
    · repeat' (first | rfl | with_reducible assumption | assumption | constructor)
    intro w4 f4 s4 hf4
    replace hf4 : f4 = [(2, _), (4, _), (7, _), (10, _), (11, _), (12, _)] := hf4
    subst hf4
    refine W.block (W.loop (fun k w' g => ∃ (i : Nat) (acc : List Int) (v' : Value), k + i = l.length ∧ acc.length ≤ i ∧ acc ++ pickN t dir (l.drop i) i = pickN t dir l 0 ∧ Mv (fun _ => False) w w' ∧ BX w' p 25 t.cs ∧ Own w' 3 v' (acc.map (.int .i64)) ∧ (∀ k, v'.ownBlock = some k → p < k) ∧
      g = [(2, .int .i64 dir), (4, .pointer (some ⟨p, 0, none⟩)), (7, v'), (10, .slice a l.length c), (11, .int .i64 l.length), (12, .int .i64 i)]) l.length _ ⟨0, [], .slice none 0 0, rfl, Nat.le_refl _, rfl, m3.same s4, hb3.same s4, Own.nil _ _, fun k hk => (by cases hk), rfl⟩ (sub_keys rfl) ?_)
    clear m3 hb3 s4
    rintro k w5 _ ⟨i, acc, v5, hk, hal, hacc, m5, hb5, ho5, hf5', rfl⟩
    by_cases hlt : i < l.length
    · have k1 : Kn (decide ((i : Int) < (l.length : Int))) true := .yes (by omega)
      apply W.readS LO mixed [2, 4, 7, 10, 11, 12, 13] (by kernel_rfl)
      · repeat' (first | rfl | with_reducible assumption | assumption | constructor)
      intro w6 f6 s6 hf6
      replace hf6 : f6 = [(2, _), (4, _), (7, _), (10, _), (11, _), (12, _), (13, _)] := hf6
      subst hf6
      have m6 := m5.same s6
      have hb6 := hb5.same s6
      have ho6 := ho5.same s6
      clear m5 hb5 ho5 s6
      refine W.seq (W.cond (b := true) rfl (fun _ => W.skip (N.to ?_)) (fun h => by cases h))
      obtain ⟨x, hx⟩ : ∃ x, l[i]? = some x := ⟨_, List.getElem?_eq_getElem hlt⟩
      have hxl := List.mem_of_getElem? hx
      have hdr : l.drop i = x :: l.drop (i + 1) := by
        have := (List.getElem?_eq_some_iff.1 hx).2
        rw [List.drop_eq_getElem_cons hlt, this]
      rw [hdr] at hacc
      simp only [pickN] at hacc
      refine W.cutS (fun w' g => ∃ (acc' : List Int) (v' : Value), (acc'.length ≤ i + 1 ∧ acc' ++ pickN t dir (l.drop (i + 1)) (i + 1) = pickN t dir l 0 ∧ Mv (fun _ => False) w w' ∧ BX w' p 25 t.cs ∧ Own w' 3 v' (acc'.map (.int .i64)) ∧ (∀ k, v'.ownBlock = some k → p < k)) ∧
        g = [(2, .int .i64 dir), (4, .pointer (some ⟨p, 0, none⟩)), (7, v'), (10, .slice a l.length c), (11, .int .i64 l.length), (12, .int .i64 i)]) ?_ ?_
      · refine W.block ?_
        obtain ⟨b, o, c', hv', hcell⟩ := (h.1.moved m6).at rcs_len (by decide) hx
        injection hv' with ea _ ec
        subst ea ec
        have i0 : (0 : Int) ≤ (i : Int) := by omega
        have i1 : (i : Int) < (l.length : Int) := by omega
        refine W.seq (W.list ?_)
        apply Ls.runK LO [2, 4, 7, 10, 11, 12, 14, 16] 3
        · repeat' (first | rfl | with_reducible assumption | assumption | constructor)
        intro w7 f7 s7 hf7
        replace hf7 : f7 = [(2, _), (4, _), (7, _), (10, _), (11, _), (12, _), (14, _), (16, _)] := hf7
        subst hf7
        have m7 := m6.same s7
        have hb7 := hb6.same s7
        have ho7 := ho6.same s7
        clear hcell m6 hb6 ho6 s7
        refine Ls.alloc LO rfl rfl rfl rfl (zs := zRule) rfl ?_
        have hb8 := heap_alloc_new w7 (.cells zRule.toArray 37)
        have m8 : Mv (fun _ => False) w7 (w7.alloc (.cells zRule.toArray 37)) := (Mv.refl _ w7).alloc _
        generalize w7.alloc (.cells zRule.toArray 37) = w8 at hb8 m8
        obtain ⟨q, hq⟩ : ∃ q, q = w7.heap.size := ⟨_, rfl⟩
        rw [← hq] at hb8
        rw [← hq]
        apply Ls.runK LO [2, 4, 7, 8, 9, 10, 11, 12, 16] 1
        · repeat' (first | rfl | with_reducible assumption | assumption | constructor)
        intro w8b f8b s8b hf8b
        replace hf8b : f8b = [(2, _), (4, _), (7, _), (8, _), (9, _), (10, _), (11, _), (12, _), (16, _)] := hf8b
        subst hf8b
        rw [← s8b.heap] at hb8
        have m8 := m8.same s8b
        refine Ls.store LO rfl rfl rfl rfl rfl (vs := x.cs) rfl rfl (h.2 x hxl).all hb8 rfl ?_
        intro w9 hb9 m9 _
        have hb9 : BX w9 q 37 x.cs := hb9
        have m79 : Mv (fun _ => False) w7 w9 := m8.cut m9 fun k hk e => by omega
        have m9 := m7.trans m79
        have hbp := hb7.moved m79 (fun e => e)
        have ho9 := ho7.moved m79 (fun _ _ e => e)
        refine Ls.nil (N.to ?_)
        clear hb8 m8 m7 hb7 ho7 m79
        have d1 : CellsAt w9 q 0 15 x.cs := hb9.cells
        have d2 : CellsAt w9 p 0 5 t.cs := hbp.cells
        refine W.seq (W.list ?_)
        apply Ls.runK LO [2, 4, 7, 8, 10, 11, 12, 17, 18, 19] 3
        · repeat' (first | rfl | with_reducible assumption | assumption | constructor)
        intro w10 f10 s10 hf10
        replace hf10 : f10 = [(2, _), (4, _), (7, _), (8, _), (10, _), (11, _), (12, _), (17, _), (18, _), (19, _)] := hf10
        subst hf10
        have m10 := m9.same s10
        refine Ls.call LO rfl rfl rfl rfl rfl (vs := [.agg x.cs.toArray, .agg t.cs.toArray, .int .i64 dir]) rfl (fits_walk x t dir w10 ((h.2 x hxl).moved m10)) ?_
        rintro _ w11 ⟨rfl, m11'⟩
        refine ⟨_, rfl, Ls.nil (N.to ?_)⟩
        have hb11 := (hbp.same s10).moved m11' (fun e => e)
        have ho11 := (ho9.same s10).moved m11' (fun _ _ e => e)
        have m11 := m10.trans m11'
        clear m9 hbp ho9 s10 m10 m11' d1 d2
        obtain ⟨ft, hft⟩ : ∃ ft, ft = x.fits t dir := ⟨_, rfl⟩
        rw [← hft] at hacc
        rw [← hft]
        cases ft with
        | false =>
          rw [if_neg (by decide)] at hacc
          refine W.cond (b := false) rfl (fun h => by cases h) (fun _ => W.skip ?_)
          exact N.inb (N.cut ⟨acc, v5, ⟨by omega, hacc, m11, hb11, ho11, hf5'⟩, rfl⟩ (sub_keys rfl))
        | true =>
          rw [if_pos rfl] at hacc
          refine W.cond (b := true) rfl (fun _ => W.list ?_) (fun h => by cases h)
          apply Ls.runK LO [2, 4, 10, 11, 12, 21, 22] 2
          · repeat' (first | rfl | with_reducible assumption | assumption | constructor)
          intro w12 f12 s12 hf12
          replace hf12 : f12 = [(2, _), (4, _), (10, _), (11, _), (12, _), (21, _), (22, _)] := hf12
          subst hf12
          have m12 := m11.same s12
          have ho12 := ho11.same s12
          have hb12 := hb11.same s12
          refine Ls.buildSlice rfl rfl rfl rfl und_ints hiI hzI hsI rfl (ps := [(0, .int .i64 (i : Int))]) rfl rfl rfl (cells := [.int .i64 (i : Int)]) (by rw [hsI]; exact fill_one _ _ rfl rfl) ?_
          have hrd := reads_one w12 3 (.int .i64 (i : Int))
          have m13 : Mv (fun _ => False) w12 (w12.alloc (.cells [Value.int .i64 (i : Int)].toArray 3)) := (Mv.refl _ w12).alloc _
          generalize w12.alloc (.cells [Value.int .i64 (i : Int)].toArray 3) = w13 at hrd m13
          have ho13 := ho12.moved m13 (fun _ _ e => e)
          have hb13 := hb12.moved m13 (fun e => e)
          have m13 := m12.trans m13
          refine Ls.append rfl rfl rfl rfl und_ints hiI hzI hsI hbI rfl rfl rfl ho13 hrd (fun u hu => by obtain rfl := List.mem_singleton.1 hu; rfl) (by rw [List.length_map]; simp only [List.length_singleton, maxLen]; omega) (by rw [List.length_map]; simp only [List.length_singleton]; omega) ?_
          intro v' w14 ho14 m14 hb14
          have hpw := hb13.lt
          have m14' : Mv (fun _ => False) w w14 := m13.cut m14 fun k hk e => by have := hf5' k e; omega
          have hb14' : BX w14 p 25 t.cs := hb13.moved m14 fun e => by have := hf5' p e; omega
          apply Ls.runK LO [2, 4, 7, 10, 11, 12] 1
          · repeat' (first | rfl | with_reducible assumption | assumption | constructor)
          intro w15 f15 s15 hf15
          replace hf15 : f15 = [(2, _), (4, _), (7, _), (10, _), (11, _), (12, _)] := hf15
          subst hf15
          refine Ls.nil (N.inb (N.cut ⟨acc ++ [(i : Int)], v', ⟨by rw [List.length_append, List.length_singleton]; omega, by rw [← hacc, List.append_assoc]; rfl, m14'.same s15, hb14'.same s15, by rw [List.map_append]; exact ho14.same s15, fun k hk => ?_⟩, rfl⟩ (sub_keys rfl)))
          rcases hb14 with e | e
          · exact hf5' k (by rw [← e]; exact hk)
          · rw [e] at hk; have := Option.some.inj hk; omega
      · rintro w7 _ ⟨acc', v', ⟨hal', hacc', m7, hb7, ho7, hf7'⟩, rfl⟩
        have k5 : Kn (IntKind.i64.wrap ((i : Int) + 1)) ((i + 1 : Nat) : Int) := .of (IntWalk.i64_in _ (by omega))
        apply W.readN LO mixed [2, 4, 7, 10, 11, 12] (by kernel_rfl)
        · repeat' (first | rfl | with_reducible assumption | assumption | constructor)
        intro w8 f8 s8 hf8
        replace hf8 : f8 = [(2, _), (4, _), (7, _), (10, _), (11, _), (12, _)] := hf8
        subst hf8
        exact N.round (k - 1) _ (by omega) ⟨i + 1, acc', v', by omega, hal', hacc', m7.same s8, hb7.same s8, ho7.same s8, hf7', rfl⟩ (sub_keys rfl)
    · have k1 : Kn (decide ((i : Int) < (l.length : Int))) false := .no (by omega)
      apply W.readS LO mixed [7, 13] (by kernel_rfl)
      · repeat' (first | rfl | with_reducible assumption | assumption | constructor)
      intro w6 f6 s6 hf6
      replace hf6 : f6 = [(7, _), (13, _)] := hf6
      subst hf6
      refine W.seq (W.cond (b := false) rfl (fun h => by cases h) (fun _ => W.exit ?_))
      rw [List.drop_of_length_le (by omega)] at hacc
      simp only [pickN, List.append_nil] at hacc
      rw [← hacc]
      exact N.thenE (N.thenE (N.out (N.cut ⟨v5, ⟨m5.same s6, ho5.same s6, fun k hk => by have := hf5' k hk; omega⟩, rfl⟩ (sub_keys rfl))))
  rintro w4 _ ⟨v', ⟨m4, ho4, hf4'⟩, rfl⟩
  apply W.readS LO mixed [6] (by kernel_rfl)
  · repeat' (first | rfl | with_reducible assumption | assumption | constructor)
  intro w5 f5 s5 hf5
  replace hf5 : f5 = [(6, _)] := hf5
  subst hf5
  exact W.ret (post LO (rs := [.tmp 6]) rfl (vs := [v']) (.tmp rfl .nil) ⟨v', rfl, ho4.same s5, fun k hk => by have := hf4' k hk; omega, m4.same s5⟩)
end Go.Proofs.Ytbbafhpnlmmjjaa
