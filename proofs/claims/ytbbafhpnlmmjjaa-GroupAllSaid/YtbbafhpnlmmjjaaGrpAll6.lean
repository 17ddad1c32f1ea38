/- What is proved: the reference's Pick. Conditions: those that stand in each theorem. -/
import Derived.Test.YtbbafhpnlmmjjaaGrpAll5
namespace Go.Proofs.Ytbbafhpnlmmjjaa
set_option linter.unusedVariables false
set_option linter.unusedSimpArgs false
set_option linter.unusedSectionVars false
open Go.RowKit Fw
set_option maxRecDepth 100000 in
set_option maxHeartbeats 4000000 in
theorem rpick_walk (v : Value) (l : List RuleV) (t : TupV) (dir : Int) (w : World) (h : RulesAt w v l) (hl : l.length ≤ 1000000) (hU : ∀ r ∈ l, RuleU r) (hT : TupU t) : Calls Try.prog 14 #[v, .agg t.cs.toArray, .int .i64 dir] w fun e w' => ∃ v', e = .returned v' ∧ Own w' 3 v' ((pickN t dir l 0).map (.int .i64)) ∧ (∀ k, v'.ownBlock = some k → w.heap.size ≤ k) ∧ Mv (fun _ => False) w w' := by
  obtain ⟨iI, hiI, hzI, hsI, hbI⟩ := info_int
  obtain ⟨a, c, hv⟩ := h.1.len
  subst hv
  refine calls_W (n := 27) (vs := [.slice a l.length c, .agg t.cs.toArray, .int .i64 dir]) Try.func14 rfl rfl rfl ?_
  refine W.seq (W.list ?_)
  refine Ls.box rfl rfl rfl rfl rfl (vs := t.cs) rfl ?_
  have hb1 : BX (w.alloc (.cells t.cs.toArray 25)) w.heap.size 25 t.cs := heap_alloc_new w (.cells t.cs.toArray 25)
  have m1 : Mv (fun _ => False) w (w.alloc (.cells t.cs.toArray 25)) := (Mv.refl _ w).alloc _
  generalize w.alloc (.cells t.cs.toArray 25) = w1 at hb1 m1
  obtain ⟨p, hp⟩ : ∃ p, p = w.heap.size := ⟨_, rfl⟩
  rw [← hp] at hb1
  rw [← hp]
  apply Ls.runK LO [0, 2, 4] 1
  · repeat' (first | rfl | with_reducible assumption | assumption | constructor)
  intro w2 f2 s2 hf2
  replace hf2 : f2 = [(0, _), (2, _), (4, _)] := hf2
  subst hf2
  refine Ls.nil (N.to ?_)
  have m2 := m1.same s2
  have hb2 := hb1.same s2
  clear m1 hb1 s2
  apply W.readS LO mixed [0, 2, 4, 7] (by kernel_rfl)
  · repeat' (first | rfl | with_reducible assumption | assumption | constructor)
  intro w3 f3 s3 hf3
  replace hf3 : f3 = [(0, _), (2, _), (4, _), (7, _)] := hf3
  subst hf3
  have m3 := m2.same s3
  have hb3 := hb2.same s3
  clear m2 hb2 s3
  refine W.cutS (fun w' g => ∃ v', (Mv (fun _ => False) w w' ∧ Own w' 3 v' ((pickN t dir l 0).map (.int .i64)) ∧ ∀ k, v'.ownBlock = some k → w.heap.size ≤ k) ∧ g = [(7, v')]) ?_ ?_
  ·
    apply W.readS LO mixed [0, 2, 4, 7, 8] (by kernel_rfl)
    · repeat' (first | rfl | with_reducible assumption | assumption | constructor)
    intro w4 f4 s4 hf4
    replace hf4 : f4 = [(0, _), (2, _), (4, _), (7, _), (8, _)] := hf4
    subst hf4
    refine W.block (W.loop (fun k w' g => ∃ (i : Nat) (acc : List Int) (v' : Value), k + i = l.length ∧ acc.length ≤ i ∧ acc ++ pickN t dir (l.drop i) i = pickN t dir l 0 ∧ Mv (fun _ => False) w w' ∧ BX w' p 25 t.cs ∧ Own w' 3 v' (acc.map (.int .i64)) ∧ (∀ k, v'.ownBlock = some k → p < k) ∧
      g = [(0, .slice a l.length c), (2, .int .i64 dir), (4, .pointer (some ⟨p, 0, none⟩)), (7, v'), (8, .int .i64 i)]) l.length _ ⟨0, [], .slice none 0 0, rfl, Nat.le_refl _, rfl, m3.same s4, hb3.same s4, Own.nil _ _, fun k hk => (by cases hk), rfl⟩ (sub_keys rfl) ?_)
    clear m3 hb3 s4
    rintro k w5 _ ⟨i, acc, v5, hk, hal, hacc, m5, hb5, ho5, hf5', rfl⟩
    by_cases hlt : i < l.length
    · have k1 : Kn (decide ((i : Int) < (l.length : Int))) true := .yes (by omega)
      refine W.seq ?_
      apply W.readS LO mixed [0, 2, 4, 7, 8, 12] (by kernel_rfl)
      · repeat' (first | rfl | with_reducible assumption | assumption | constructor)
      intro w6 f6 s6 hf6
      replace hf6 : f6 = [(0, _), (2, _), (4, _), (7, _), (8, _), (12, _)] := hf6
      subst hf6
      have m6 := m5.same s6
      have hb6 := hb5.same s6
      have ho6 := ho5.same s6
      clear m5 hb5 ho5 s6
      refine W.cond (b := true) rfl (fun _ => W.skip (N.to ?_)) (fun h => by cases h)
      obtain ⟨x, hx⟩ : ∃ x, l[i]? = some x := ⟨_, List.getElem?_eq_getElem hlt⟩
      have hxl := List.mem_of_getElem? hx
      have hdr : l.drop i = x :: l.drop (i + 1) := by
        have := (List.getElem?_eq_some_iff.1 hx).2
        rw [List.drop_eq_getElem_cons hlt, this]
      rw [hdr] at hacc
      simp only [pickN] at hacc
      refine W.cutS (fun w' g => ∃ (acc' : List Int) (v' : Value), (acc'.length ≤ i + 1 ∧ acc' ++ pickN t dir (l.drop (i + 1)) (i + 1) = pickN t dir l 0 ∧ Mv (fun _ => False) w w' ∧ BX w' p 25 t.cs ∧ Own w' 3 v' (acc'.map (.int .i64)) ∧ (∀ k, v'.ownBlock = some k → p < k)) ∧
        g = [(0, .slice a l.length c), (2, .int .i64 dir), (4, .pointer (some ⟨p, 0, none⟩)), (7, v'), (8, .int .i64 i)]) ?_ ?_
      · refine W.block ?_
        obtain ⟨b, o, c', hv', _⟩ := h.1.at rcs_len (by decide) hx
        injection hv' with ea _ ec
        subst ea ec
        have i0 : (0 : Int) ≤ (i : Int) := by omega
        have i1 : (i : Int) < (l.length : Int) := by omega
        have F1 : ∀ w', Mv (fun _ => False) w6 w' → CellsAt w' b (o + (i : Int).toNat * 15) 15 x.cs := fun w' m => by
          obtain ⟨b', o', c', hv', hc⟩ := (h.1.moved (m6.trans m)).at rcs_len (by decide) hx
          injection hv' with e1 _ _
          injection e1 with e1
          injection e1 with e2 e3 _
          rw [e2, e3]; exact hc
        have F2 : ∀ w', Mv (fun _ => False) w6 w' → CellsAt w' p 0 5 t.cs := fun w' m => (hb6.moved m fun e => e).cells
        refine W.seq (W.held mixed (fun w' => Mv (fun _ => False) w6 w') [] 7 rfl (fun w' s => (Mv.refl _ w6).same s) ?_)
        intro w10 s10
        apply H.takesK LO true [0, 2, 4, 7, 8, 18, 19, 20] [0, 1, 2, 3, 4, 5] (k := 1) rfl (by kernel_rfl)
        · repeat' (first | rfl | with_reducible assumption | assumption | (intro w' hw'; replace hw' := hw' rfl; have h0' := F1 w' hw'; have h1' := F2 w' hw') | constructor)
        intro g_ hg_
        replace hg_ : g_ = [(0, _), (2, _), (4, _), (7, _), (8, _), (18, _), (19, _), (20, _)] := hg_
        subst hg_
        have m10 := m6.same s10
        refine H.only (i := 6) rfl (by kernel_rfl) ?_
        refine Ls.call LO rfl rfl rfl rfl rfl (vs := [.agg x.cs.toArray, .agg t.cs.toArray, .int .i64 dir]) rfl (rfits_walk x t dir w10 ((h.2 x hxl).moved m10) (hU x hxl) hT) ?_
        rintro _ w11 ⟨rfl, m11'⟩
        refine ⟨_, rfl, Ls.nil (N.goOn (fun _ => ((Mv.refl _ w6).same s10).trans m11') ?_)⟩
        refine H.done (by kernel_rfl) (N.to ?_)
        have hb11 := (hb6.same s10).moved m11' (fun e => e)
        have ho11 := (ho6.same s10).moved m11' (fun _ _ e => e)
        have m11 := m10.trans m11'
        clear hb6 ho6 s10 m10 m11' F1 F2
        obtain ⟨ft, hft⟩ : ∃ ft, ft = x.fits t dir := ⟨_, rfl⟩
        rw [← hft] at hacc
        rw [← hft]
        cases ft with
        | false =>
          rw [if_neg (by decide)] at hacc
          refine W.cond (b := false) rfl (fun h => by cases h) (fun _ => W.skip ?_)
          exact N.inb (N.cut ⟨acc, v5, ⟨by omega, hacc, m11, hb11, ho11, hf5'⟩, rfl⟩ (sub_keys rfl))
        | true =>
          rw [if_pos rfl] at hacc
          refine W.cond (b := true) rfl (fun _ => W.list ?_) (fun h => by cases h)
          apply Ls.runK LO [0, 2, 4, 8, 22, 23] 2
          · repeat' (first | rfl | with_reducible assumption | assumption | constructor)
          intro w12 f12 s12 hf12
          replace hf12 : f12 = [(0, _), (2, _), (4, _), (8, _), (22, _), (23, _)] := hf12
          subst hf12
          have m12 := m11.same s12
          have ho12 := ho11.same s12
          have hb12 := hb11.same s12
          refine Ls.buildSlice rfl rfl rfl rfl und_ints hiI hzI hsI rfl (ps := [(0, .int .i64 (i : Int))]) rfl rfl rfl (cells := [.int .i64 (i : Int)]) (by rw [hsI]; exact fill_one _ _ rfl rfl) ?_
          have hrd := reads_one w12 3 (.int .i64 (i : Int))
          have m13 : Mv (fun _ => False) w12 (w12.alloc (.cells [Value.int .i64 (i : Int)].toArray 3)) := (Mv.refl _ w12).alloc _
          generalize w12.alloc (.cells [Value.int .i64 (i : Int)].toArray 3) = w13 at hrd m13
          have ho13 := ho12.moved m13 (fun _ _ e => e)
          have hb13 := hb12.moved m13 (fun e => e)
          have m13 := m12.trans m13
          refine Ls.append rfl rfl rfl rfl und_ints hiI hzI hsI hbI rfl rfl rfl ho13 hrd (fun u hu => by obtain rfl := List.mem_singleton.1 hu; rfl) (by rw [List.length_map]; simp only [List.length_singleton, maxLen]; omega) (by rw [List.length_map]; simp only [List.length_singleton]; omega) ?_
          intro v' w14 ho14 m14 hb14
          have hpw := hb13.lt
          have m14' : Mv (fun _ => False) w w14 := m13.cut m14 fun k hk e => by have := hf5' k e; omega
          have hb14' : BX w14 p 25 t.cs := hb13.moved m14 fun e => by have := hf5' p e; omega
          apply Ls.runK LO [0, 2, 4, 7, 8] 1
          · repeat' (first | rfl | with_reducible assumption | assumption | constructor)
          intro w15 f15 s15 hf15
          replace hf15 : f15 = [(0, _), (2, _), (4, _), (7, _), (8, _)] := hf15
          subst hf15
          refine Ls.nil (N.inb (N.cut ⟨acc ++ [(i : Int)], v', ⟨by rw [List.length_append, List.length_singleton]; omega, by rw [← hacc, List.append_assoc]; rfl, m14'.same s15, hb14'.same s15, by rw [List.map_append]; exact ho14.same s15, fun k hk => ?_⟩, rfl⟩ (sub_keys rfl)))
          rcases hb14 with e | e
          · exact hf5' k (by rw [← e]; exact hk)
          · rw [e] at hk; have := Option.some.inj hk; omega
      · rintro w7 _ ⟨acc', v', ⟨hal', hacc', m7, hb7, ho7, hf7'⟩, rfl⟩
        have k5 : Kn (IntKind.i64.wrap ((i : Int) + 1)) ((i + 1 : Nat) : Int) := .of (IntWalk.i64_in _ (by omega))
        apply W.readN LO mixed [0, 2, 4, 7, 8] (by kernel_rfl)
        · repeat' (first | rfl | with_reducible assumption | assumption | constructor)
        intro w8 f8 s8 hf8
        replace hf8 : f8 = [(0, _), (2, _), (4, _), (7, _), (8, _)] := hf8
        subst hf8
        exact N.round (k - 1) _ (by omega) ⟨i + 1, acc', v', by omega, hal', hacc', m7.same s8, hb7.same s8, ho7.same s8, hf7', rfl⟩ (sub_keys rfl)
    · have k1 : Kn (decide ((i : Int) < (l.length : Int))) false := .no (by omega)
      refine W.seq ?_
      apply W.readS LO mixed [7, 12] (by kernel_rfl)
      · repeat' (first | rfl | with_reducible assumption | assumption | constructor)
      intro w6 f6 s6 hf6
      replace hf6 : f6 = [(7, _), (12, _)] := hf6
      subst hf6
      refine W.cond (b := false) rfl (fun h => by cases h) (fun _ => W.exit ?_)
      rw [List.drop_of_length_le (by omega)] at hacc
      simp only [pickN, List.append_nil] at hacc
      rw [← hacc]
      exact N.thenE (N.thenE (N.out (N.cut ⟨v5, ⟨m5.same s6, ho5.same s6, fun k hk => by have := hf5' k hk; omega⟩, rfl⟩ (sub_keys rfl))))
  rintro w4 _ ⟨v', ⟨m4, ho4, hf4'⟩, rfl⟩
  apply W.readS LO mixed [6] (by kernel_rfl)
  · repeat' (first | rfl | with_reducible assumption | assumption | constructor)
  intro w5 f5 s5 hf5
  replace hf5 : f5 = [(6, _)] := hf5
  subst hf5
  exact W.ret (post LO (rs := [.tmp 6]) rfl (vs := [v']) (.tmp rfl .nil) ⟨v', rfl, ho4.same s5, fun k hk => by have := hf4' k hk; omega, m4.same s5⟩)
/-! ### copies -/
/-- Rules that fit alike. -/
def Lk (r r' : RuleV) : Prop := ∀ t dir, r'.fits t dir = r.fits t dir
theorem pickN_like (t : TupV) (dir : Int) : ∀ (l l' : List RuleV) (i : Nat), l'.length = l.length → (∀ (j : Nat) (r r' : RuleV), l[j]? = some r → l'[j]? = some r' → Lk r r') → pickN t dir l' i = pickN t dir l i
  | [], [], i, _, _ => rfl
  | [], _ :: _, i, h, _ => by simp at h
  | _ :: _, [], i, h, _ => by simp at h
  | r :: l, r' :: l', i, h, hj => by
    have e := hj 0 r r' rfl rfl t dir
    have ih := pickN_like t dir l l' (i + 1) (by simpa using h) fun j a b ha hb => hj (j + 1) a b ha hb
    simp only [pickN, e, ih]
theorem rd_readsZ {w : World} {z n : Nat} {v : Value} {cells : List Value} (h : Rd w z v n cells) : ReadsZ w v n z cells := by
  obtain ⟨a, c, rfl, hnc, hnil, hl, hr⟩ := h
  refine ⟨a, c, rfl, hl, hnil, fun j u hj => ?_⟩
  obtain ⟨b, o, rfl, hc⟩ := hr j u hj
  exact ⟨_, rfl, by rw [Addr.add_lit]; exact hc⟩
theorem ncs_one {l : List (Int × Int)} (u : Value) (hu : u ∈ l.flatMap ncs) : u.oneCell' = true := by
  obtain ⟨x, _, hx⟩ := List.mem_flatMap.1 hu
  simp only [ncs, List.mem_cons, List.not_mem_nil, or_false] at hx
  rcases hx with rfl | rfl <;> rfl
theorem scs_one {l : List (Int × Int)} (u : Value) (hu : u ∈ l.flatMap scs) : u.oneCell' = true := by
  obtain ⟨x, _, hx⟩ := List.mem_flatMap.1 hu
  simp only [scs, List.mem_cons, List.not_mem_nil, or_false] at hx
  rcases hx with rfl | rfl <;> rfl
/-- The copies made so far, beside a box p. -/
structure CK (w w' : World) (p : Nat) (vm : Value) (M : List RuleV) : Prop where
  mv : Mv (fun _ => False) w w'
  own : OwnZ w' 37 15 vm M.length (M.flatMap RuleV.cs)
  g : ∀ r ∈ M, RuleAt w' r ∧ ∀ v ∈ r.vs, ∀ k, v.ownBlock = some k → k < p ∧ vm.ownBlock ≠ some k
  vr : ∀ k, vm.ownBlock = some k → k < p
  fr : ∀ k, vm.ownBlock = some k → w.heap.size ≤ k
  le : w.heap.size ≤ p
theorem CK.non {w w' w'' : World} {p : Nat} {vm : Value} {M : List RuleV} (h : CK w w' p vm M) (m : Mv (fun _ => False) w' w'') : CK w w'' p vm M :=
  ⟨h.mv.trans m, h.own.moved m fun _ _ e => e, fun r hr => ⟨(h.g r hr).1.moved m, (h.g r hr).2⟩, h.vr, h.fr, h.le⟩
theorem CK.same {w w' w'' : World} {p : Nat} {vm : Value} {M : List RuleV} (h : CK w w' p vm M) (s : Same w' w'') : CK w w'' p vm M := h.non ((Mv.refl _ w').same s)
theorem CK.put {w w' w'' : World} {p : Nat} {vm : Value} {M : List RuleV} (h : CK w w' p vm M) (m : Mv (· = p) w' w'') : CK w w'' p vm M :=
  ⟨h.mv.cut m fun k hk e => by have := h.le; omega, h.own.moved m fun k hk e => by have := h.vr k hk; omega, fun r hr => ⟨(h.g r hr).1.movedS m fun v hv k hk e => by have := ((h.g r hr).2 v hv k hk).1; omega, (h.g r hr).2⟩, h.vr, h.fr, h.le⟩
/-- A new row, made after p. -/
def NewR (w : World) (p e : Nat) (v : Value) (n : Nat) (cells : List Value) : Prop := OwnZ w e 2 v n cells ∧ ∀ k, v.ownBlock = some k → p < k
theorem NewR.moved {S : Nat → Prop} {w w' : World} {p e : Nat} {v : Value} {n : Nat} {cells : List Value} (h : NewR w p e v n cells) (m : Mv S w w') (hs : ∀ k, S k → k ≤ p) : NewR w' p e v n cells :=
  ⟨h.1.moved m fun k hk e => by have := h.2 k hk; have := hs k e; omega, h.2⟩
def CopyPost (w : World) (l : List RuleX) (e : Ending) (w' : World) : Prop := ∃ v M, e = .returned v ∧ RulesAt w' v M ∧ M.length = l.length ∧ (∀ (j : Nat) (r r' : RuleV), (l.map (·.r))[j]? = some r → M[j]? = some r' → Lk r r') ∧ Mv (fun _ => False) w w'
end Go.Proofs.Ytbbafhpnlmmjjaa
