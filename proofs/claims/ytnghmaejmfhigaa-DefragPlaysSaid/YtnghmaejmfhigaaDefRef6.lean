/- What is proved: the reference's table: a part is added: the walk. Conditions: those that stand in each theorem. -/
import Derived.Test.YtnghmaejmfhigaaDefRef5
namespace Go.Proofs.Ytnghmaejmfhigaa
set_option linter.unusedVariables false
set_option linter.unusedSimpArgs false
set_option linter.unusedSectionVars false
open Go.RowKit Go.Maps Go.MapKept Go.ChangeMaps Fw
theorem RP.er {q : Nat} {most ticks now : Int} {vL0 vL : Value} {L0 M : List RE} {i : IPV} {qi : Nat} {w w' : World} {k g : Nat} {x : RE} (h : RP q most ticks now vL0 L0 i qi w w' vL M) (hk : M[k]? = some x) (hg : vL.ownBlock = some g) : ER w' g (0 + k * 7) x := by
  obtain ⟨g', c, hv, hg', _, hE⟩ := h.at_.at hk
  have e1 : g' = g := Option.some.inj (hg'.symm.trans hg)
  rw [← e1]; exact hE
theorem RP.lvg {q : Nat} {most ticks now : Int} {vL0 vL : Value} {L0 M : List RE} {i : IPV} {qi : Nat} {w w' : World} {k g : Nat} {x : RE} (h : RP q most ticks now vL0 L0 i qi w w' vL M) (hk : M[k]? = some x) (hg : vL.ownBlock = some g) : x.lv.ownBlock ≠ some g := fun e => by
  obtain ⟨c1, h1⟩ := h.at_.row.blk g hg
  obtain ⟨c2, h2⟩ := (h.at_.ent x (List.mem_of_getElem? hk)).blk g e
  rw [h1] at h2
  injection h2 with e1
  injection e1 with _ e2
  exact absurd e2 (by decide)
theorem RP.qig {q : Nat} {most ticks now : Int} {vL0 vL : Value} {L0 M : List RE} {i : IPV} {qi : Nat} {w w' : World} {k g : Nat} {x : RE} (h : RP q most ticks now vL0 L0 i qi w w' vL M) (hk : M[k]? = some x) (hg : vL.ownBlock = some g) : qi ≠ g ∧ x.lv.ownBlock ≠ some qi := by
  obtain ⟨c1, h1⟩ := h.at_.row.blk g hg
  refine ⟨cells_ne h.ib h1 (by decide), fun e => ?_⟩
  obtain ⟨c2, h2⟩ := (h.at_.ent x (List.mem_of_getElem? hk)).blk qi e
  exact cells_ne h.ib h2 (by decide) rfl
set_option maxRecDepth 100000 in
set_option maxHeartbeats 8000000 in
theorem radd_walk (q : Nat) (vL : Value) (most ticks now : Int) (L : List RE) (i : IPV) (s : ByteArray) (w : World) (h : RTAt w q vL most ticks now L) (I : RInv most now L) (hm : 1 ≤ most ∧ most ≤ 32) (hnow : 0 ≤ now) (hi : IPok i) (hs : s.size ≤ 1000000000) :
    Calls Try.prog 18 #[.pointer (some ⟨q, 0, none⟩), .agg (ipVs i).toArray, .string s] w (RAddPost q most ticks now vL L (TVadd most (L.map (rv now)) i s) w) := by
  obtain ⟨iE, bE, hiE, hzE, hsE, hbE, hbE72⟩ : ∃ iE bE, Try.prog.info? 63 = some iE ∧ iE.zero = some zEnt ∧ iE.size = 7 ∧ iE.bytes = bE ∧ bE ≤ 72 := by
    obtain ⟨i, ⟨h1, h2, h3, h4⟩ | ⟨h1, h2, h3, h4⟩⟩ := info_ent
    · exact ⟨i, 72, h1, h2, h3, h4, by omega⟩
    · exact ⟨i, 64, h1, h2, h3, h4, by omega⟩
  obtain ⟨iP, hiP, hzP, hsP, hbP⟩ := info_part
  have hlen := I.few
  refine calls_W (n := 238) (vs := [.pointer (some ⟨q, 0, none⟩), .agg (ipVs i).toArray, .string s]) Try.func18 rfl rfl rfl ?_
  obtain ⟨T, hT⟩ : ∃ T, T = L.map (rv now) := ⟨_, rfl⟩
  rw [← hT]
  refine W.seq (W.list ?_)
  refine Ls.box rfl rfl rfl rfl rfl (vs := ipVs i) rfl ?_
  have hb1 := heap_alloc_new w (.cells (ipVs i).toArray 29)
  have m1 : Mv (fun _ => False) w (w.alloc (.cells (ipVs i).toArray 29)) := (Mv.refl _ w).alloc _
  generalize w.alloc (.cells (ipVs i).toArray 29) = w1 at hb1 m1
  obtain ⟨qi, hqi⟩ : ∃ qi, qi = w.heap.size := ⟨_, rfl⟩
  rw [← hqi] at hb1
  rw [← hqi]
  apply Ls.runK LO [0, 2, 4] 3
  · repeat' (first | rfl | with_reducible assumption | assumption | constructor)
  intro w2 f2 s2 hf2
  replace hf2 : f2 = [(0, _), (2, _), (4, _)] := hf2
  subst hf2
  refine Ls.nil (N.to ?_)
  have hP : RP q most ticks now vL L i qi w w2 vL L := ⟨(h.moved m1 (fun _ _ e => e)).same s2, (m1.mono fun _ e => e.elim).same s2, fun k hk => .inl hk, IB.same hb1 s2, by omega⟩
  clear hb1 m1 s2
  have ho := hi.off
  -- no part
  by_cases hnp : i.more = false ∧ i.off ≤ 0
  · refine W.cutS (fun _ _ => False) ?_ (fun _ _ h => h.elim)
    obtain ⟨c1, c2, c4, c6, c7, c8⟩ := hP.ib.cls
    rw [hnp.1] at c2
    have k1 : Kn (decide (i.off ≤ 0)) true := .yes hnp.2
    apply W.readS LO mixed [2, 25] (by kernel_rfl)
    · repeat' (first | rfl | with_reducible assumption | assumption | constructor)
    intro w3 f3 s3 hf3
    replace hf3 : f3 = [(2, _), (25, _)] := hf3
    subst hf3
    refine W.cond (b := true) rfl (fun _ => ?_) (fun h => by cases h)
    apply W.readS LO mixed [6, 7, 8] (by kernel_rfl)
    · repeat' (first | rfl | with_reducible assumption | assumption | constructor)
    intro w4 f4 s4 hf4
    replace hf4 : f4 = [(6, _), (7, _), (8, _)] := hf4
    subst hf4
    refine W.ret ?_
    have hr : TVadd most T i s = (T, s, true, 0) := by unfold TVadd; rw [if_pos hnp]
    rw [hr]
    exact N.thenR (((hP.same s3).same s4).ret hT.symm I rfl rfl rfl)
  refine W.cutS (fun w' g => Same w2 w' ∧ g = [(0, .pointer (some ⟨q, 0, none⟩)), (2, .string s), (4, .pointer (some ⟨qi, 0, none⟩))]) ?_ ?_
  · obtain ⟨c1, c2, c4, c6, c7, c8⟩ := hP.ib.cls
    cases hmo : i.more with
    | true =>
      rw [hmo] at c2
      apply W.readS LO mixed [0, 2, 4, 25] (by kernel_rfl)
      · repeat' (first | rfl | with_reducible assumption | assumption | constructor)
      intro w3 f3 s3 hf3
      replace hf3 : f3 = [(0, _), (2, _), (4, _), (25, _)] := hf3
      subst hf3
      refine W.cond (b := false) rfl (fun h => by cases h) (fun _ => W.skip ?_)
      exact N.cut ⟨s3, rfl⟩ (sub_keys rfl)
    | false =>
      rw [hmo] at c2
      have k1 : Kn (decide (i.off ≤ 0)) false := .no fun h => hnp ⟨hmo, h⟩
      apply W.readS LO mixed [0, 2, 4, 25] (by kernel_rfl)
      · repeat' (first | rfl | with_reducible assumption | assumption | constructor)
      intro w3 f3 s3 hf3
      replace hf3 : f3 = [(0, _), (2, _), (4, _), (25, _)] := hf3
      subst hf3
      refine W.cond (b := false) rfl (fun h => by cases h) (fun _ => W.skip ?_)
      exact N.cut ⟨s3, rfl⟩ (sub_keys rfl)
  rintro w3 _ ⟨s3, rfl⟩
  have hP := hP.same s3
  clear s3 h
  -- its place
  obtain ⟨ix, hix⟩ : ∃ ix, ix = idxR L i.key := ⟨_, rfl⟩
  refine W.cutS (fun w' g => RP q most ticks now vL L i qi w w' vL L ∧ g = [(0, .pointer (some ⟨q, 0, none⟩)), (2, .string s), (4, .pointer (some ⟨qi, 0, none⟩)), (9, .int .i64 ix)]) ?_ ?_
  · refine W.list ?_
    have hcells := hP.ib.cells
    apply Ls.runK LO [0, 2, 4, 27, 28] 2
    · repeat' (first | rfl | with_reducible assumption | assumption | constructor)
    intro w4 f4 s4 hf4
    replace hf4 : f4 = [(0, _), (2, _), (4, _), (27, _), (28, _)] := hf4
    subst hf4
    have hP := hP.same s4
    refine Ls.call LO rfl rfl rfl rfl rfl (vs := [.pointer (some ⟨q, 0, none⟩), .agg (ipVs i).toArray]) rfl (find_walk q vL most ticks now L i w4 hP.at_ (by omega)) ?_
    rintro _ w5 ⟨rfl, m5⟩
    refine ⟨_, rfl, ?_⟩
    have hP := hP.non m5
    rw [← hix]
    apply Ls.runK LO [0, 2, 4, 9] 1
    · repeat' (first | rfl | with_reducible assumption | assumption | constructor)
    intro w6 f6 s6 hf6
    replace hf6 : f6 = [(0, _), (2, _), (4, _), (9, _)] := hf6
    subst hf6
    exact Ls.nil (N.cut ⟨hP.same s6, rfl⟩ (sub_keys rfl))
  rintro w7 _ ⟨hP, rfl⟩
  have hnk : TVadd most T i s = if s.size = 0 ∨ (i.more = true ∧ s.size % 8 ≠ 0) ∨ i.off < 0 then (T, ⟨#[]⟩, false, (3 : Int)) else
      if 2000 < s.size ∨ 2000 - (s.size : Int) < i.off then (T.filter (fun p => p.1 != i.key), ⟨#[]⟩, false, (5 : Int)) else
      if T.lookup i.key = none ∧ most ≤ T.length then (T, ⟨#[]⟩, false, (10 : Int)) else
      match (addE (T.lookup i.key) i s).whole with
      | some x => (T.filter (fun p => p.1 != i.key), x, true, (0 : Int))
      | none => (if T.lookup i.key = none then T ++ [(i.key, addE (T.lookup i.key) i s)] else T.map (fun p => if p.1 = i.key then (p.1, addE (T.lookup i.key) i s) else p), ⟨#[]⟩, false, (0 : Int)) := by
    unfold TVadd; rw [if_neg hnp]; rfl
  rw [hnk]
  clear hnk
  have hcase := idx_cases L i.key
  rw [← hix] at hcase
  clear hix
  have r8 : (8 : Int) ≠ 0 := by decide
  -- what may not be
  by_cases hbad : s.size = 0 ∨ (i.more = true ∧ s.size % 8 ≠ 0) ∨ i.off < 0
  · rw [if_pos hbad]
    refine W.cutS (fun _ _ => False) ?_ (fun _ _ h => h.elim)
    refine W.block ?_
    refine W.cutS (fun w' g => Same w7 w' ∧ g = [(30, .bool true)]) ?_ ?_
    · obtain ⟨c1, c2, c4, c6, c7, c8⟩ := hP.ib.cls
      by_cases hs0 : s.size = 0
      · have k1 : Kn ((s.size : Int) == 0) true := .of (by rw [beq_iff_eq]; omega)
        apply W.readN LO mixed [30] (by kernel_rfl)
        · repeat' (first | rfl | with_reducible assumption | assumption | constructor)
        intro w8 f8 s8 hf8
        replace hf8 : f8 = [(30, _)] := hf8
        subst hf8
        exact N.cut ⟨s8, rfl⟩ (sub_keys rfl)
      · have k1 : Kn ((s.size : Int) == 0) false := .of (by rw [beq_eq_false_iff_ne]; omega)
        by_cases hof : i.off < 0
        · have k2 : Kn (decide (i.off < 0)) true := .yes hof
          apply W.readN LO mixed [30] (by kernel_rfl)
          · repeat' (first | rfl | with_reducible assumption | assumption | constructor)
          intro w8 f8 s8 hf8
          replace hf8 : f8 = [(30, _)] := hf8
          subst hf8
          exact N.cut ⟨s8, rfl⟩ (sub_keys rfl)
        · have k2 : Kn (decide (i.off < 0)) false := .no hof
          obtain ⟨hmo, h8⟩ : i.more = true ∧ s.size % 8 ≠ 0 := by
            rcases hbad with e | e | e
            · exact absurd e hs0
            · exact e
            · exact absurd e hof
          rw [hmo] at c2
          obtain ⟨rm, hrm⟩ : ∃ rm : Int, rm = ((s.size % 8 : Nat) : Int) := ⟨_, rfl⟩
          have k3 : Kn ((s.size : Int).tmod 8) rm := .of (by rw [Int.tmod_eq_emod_of_nonneg (by omega)]; omega)
          have k4 : Kn (rm != 0) true := .of (by simp; omega)
          apply W.readN LO mixed [30] (by kernel_rfl)
          · repeat' (first | rfl | with_reducible assumption | assumption | constructor)
          intro w8 f8 s8 hf8
          replace hf8 : f8 = [(30, _)] := hf8
          subst hf8
          exact N.cut ⟨s8, rfl⟩ (sub_keys rfl)
    rintro w8 _ ⟨s8, rfl⟩
    refine W.cond (b := true) rfl (fun _ => ?_) (fun h => by cases h)
    apply W.readS LO mixed [6, 7, 8] (by kernel_rfl)
    · repeat' (first | rfl | with_reducible assumption | assumption | constructor)
    intro w9 f9 s9 hf9
    replace hf9 : f9 = [(6, _), (7, _), (8, _)] := hf9
    subst hf9
    exact W.ret (N.inbR (N.thenR (((hP.same s8).same s9).ret hT.symm I rfl rfl rfl)))
  rw [if_neg hbad]
  have hs0 : ¬ s.size = 0 := fun e => hbad (.inl e)
  have ho0 : 0 ≤ i.off := by
    rcases Int.lt_or_le i.off 0 with e | e
    · exact absurd (.inr (.inr e)) hbad
    · exact e
  have hgood : i.more = true → s.size % 8 = 0 := fun e => by
    by_cases h8 : s.size % 8 = 0
    · exact h8
    · exact absurd (.inr (.inl ⟨e, h8⟩)) hbad
  clear hbad
  generalize hR0 : (if 2000 < s.size ∨ 2000 - (s.size : Int) < i.off then (T.filter (fun p => p.1 != i.key), ⟨#[]⟩, false, (5 : Int)) else
      if T.lookup i.key = none ∧ most ≤ T.length then (T, ⟨#[]⟩, false, (10 : Int)) else
      match (addE (T.lookup i.key) i s).whole with
      | some x => (T.filter (fun p => p.1 != i.key), x, true, (0 : Int))
      | none => (if T.lookup i.key = none then T ++ [(i.key, addE (T.lookup i.key) i s)] else T.map (fun p => if p.1 = i.key then (p.1, addE (T.lookup i.key) i s) else p), ⟨#[]⟩, false, (0 : Int)) : List (KeyV × EV) × ByteArray × Bool × Int) = R0
  -- too long; full
  refine W.cutS (fun w' g => (RP q most ticks now vL L i qi w w' vL L ∧ g = [(0, .pointer (some ⟨q, 0, none⟩)), (2, .string s), (4, .pointer (some ⟨qi, 0, none⟩)), (9, .int .i64 ix)]) ∧ i.off + s.size ≤ 2000 ∧ ¬ (T.lookup i.key = none ∧ most ≤ T.length)) ?_ ?_
  · refine W.block ?_
    refine W.cutS (fun w' g => Same w7 w' ∧ g = [(0, .pointer (some ⟨q, 0, none⟩)), (2, .string s), (4, .pointer (some ⟨qi, 0, none⟩)), (9, .int .i64 ix), (30, .bool false)]) ?_ ?_
    · obtain ⟨c1, c2, c4, c6, c7, c8⟩ := hP.ib.cls
      have k1 : Kn ((s.size : Int) == 0) false := .of (by rw [beq_eq_false_iff_ne]; omega)
      have k2 : Kn (decide (i.off < 0)) false := .no (by omega)
      cases hmo : i.more with
      | false =>
        rw [hmo] at c2
        apply W.readN LO mixed [0, 2, 4, 9, 30] (by kernel_rfl)
        · repeat' (first | rfl | with_reducible assumption | assumption | constructor)
        intro w8 f8 s8 hf8
        replace hf8 : f8 = [(0, _), (2, _), (4, _), (9, _), (30, _)] := hf8
        subst hf8
        exact N.cut ⟨s8, rfl⟩ (sub_keys rfl)
      | true =>
        rw [hmo] at c2
        have k3 : Kn ((s.size : Int).tmod 8) 0 := .of (by rw [Int.tmod_eq_emod_of_nonneg (by omega)]; have := hgood hmo; omega)
        have k4 : Kn ((0 : Int) != 0) false := .of rfl
        apply W.readN LO mixed [0, 2, 4, 9, 30] (by kernel_rfl)
        · repeat' (first | rfl | with_reducible assumption | assumption | constructor)
        intro w8 f8 s8 hf8
        replace hf8 : f8 = [(0, _), (2, _), (4, _), (9, _), (30, _)] := hf8
        subst hf8
        exact N.cut ⟨s8, rfl⟩ (sub_keys rfl)
    rintro w8 _ ⟨s8, rfl⟩
    have hP := hP.same s8
    refine W.cond (b := false) rfl (fun h => by cases h) (fun _ => ?_)
    by_cases hbig : 2000 < s.size ∨ 2000 - (s.size : Int) < i.off
    · rw [if_pos hbig] at hR0
      refine W.cutS (fun w' g => Same w8 w' ∧ g = [(0, .pointer (some ⟨q, 0, none⟩)), (9, .int .i64 ix), (49, .bool true)]) ?_ ?_
      · obtain ⟨c1, c2, c4, c6, c7, c8⟩ := hP.ib.cls
        by_cases h1 : 2000 < s.size
        · have k1 : Kn (decide (2000 < (s.size : Int))) true := .yes (by omega)
          apply W.readN LO mixed [0, 9, 49] (by kernel_rfl)
          · repeat' (first | rfl | with_reducible assumption | assumption | constructor)
          intro w9 f9 s9 hf9
          replace hf9 : f9 = [(0, _), (9, _), (49, _)] := hf9
          subst hf9
          exact N.cut ⟨s9, rfl⟩ (sub_keys rfl)
        · have k1 : Kn (decide (2000 < (s.size : Int))) false := .no (by omega)
          have k2 : Kn (IntKind.i64.wrap (2000 - (s.size : Int))) (2000 - (s.size : Int)) := .of (IntWalk.i64_in _ (by omega))
          have k3 : Kn (decide (2000 - (s.size : Int) < i.off)) true := .yes (by omega)
          apply W.readN LO mixed [0, 9, 49] (by kernel_rfl)
          · repeat' (first | rfl | with_reducible assumption | assumption | constructor)
          intro w9 f9 s9 hf9
          replace hf9 : f9 = [(0, _), (9, _), (49, _)] := hf9
          subst hf9
          exact N.cut ⟨s9, rfl⟩ (sub_keys rfl)
      rintro w9 _ ⟨s9, rfl⟩
      have hP := hP.same s9
      refine W.cond (b := true) rfl (fun _ => ?_) (fun h => by cases h)
      refine W.seq (W.list ?_)
      apply Ls.runK LO [61, 62] 2
      · repeat' (first | rfl | with_reducible assumption | assumption | constructor)
      intro w10 f10 s10 hf10
      replace hf10 : f10 = [(61, _), (62, _)] := hf10
      subst hf10
      have hP := hP.same s10
      obtain ⟨L', hsub, hmap, hdrop⟩ : ∃ L', List.Sublist L' L ∧ L'.map (rv now) = T.filter (fun p => p.1 != i.key) ∧ Calls Try.prog 23 #[.pointer (some ⟨q, 0, none⟩), .int .i64 ix] w10 (DropPost q vL most ticks now L' w10) := by
        rcases hcase with ⟨rfl, hno, _⟩ | ⟨a, x, rfl, ha, hk, _⟩
        · refine ⟨L, List.Sublist.refl _, ?_, drop_neg q vL most ticks now L w10 hP.at_⟩
          rw [hT, ← rv_filter, List.filter_eq_self.2]
          intro y hy
          simpa using hno y hy
        · refine ⟨L.eraseIdx a, List.eraseIdx_sublist _ _, ?_, drop_walk q vL most ticks now L a w10 hP.at_ (List.getElem?_eq_some_iff.1 ha).1 (by omega)⟩
          rw [hT, ← rv_filter, ← hk, key_erase I.nd ha]
      refine Ls.call LO rfl rfl rfl rfl rfl (vs := [.pointer (some ⟨q, 0, none⟩), .int .i64 ix]) rfl hdrop ?_
      intro _ w11 hd
      obtain ⟨rfl, vL', hP⟩ := hP.dropped hd fun x hx => hsub.subset hx
      refine ⟨_, rfl, Ls.nil (N.to ?_)⟩
      apply W.readS LO mixed [6, 7, 8] (by kernel_rfl)
      · repeat' (first | rfl | with_reducible assumption | assumption | constructor)
      intro w12 f12 s12 hf12
      replace hf12 : f12 = [(6, _), (7, _), (8, _)] := hf12
      subst hf12
      rw [← hR0]
      exact W.ret (N.inbR (N.thenR ((hP.same s12).ret hmap (I.sub hsub) rfl rfl rfl)))
    rw [if_neg hbig] at hR0
    have hsz : s.size ≤ 2000 := by
      rcases Nat.lt_or_ge 2000 s.size with e | e
      · exact absurd (.inl e) hbig
      · exact e
    have hoff : i.off + s.size ≤ 2000 := by
      rcases Int.lt_or_le (2000 - (s.size : Int)) i.off with e | e
      · exact absurd (.inr e) hbig
      · omega
    obtain ⟨c1, c2, c4, c6, c7, c8⟩ := hP.ib.cls
    have k1 : Kn (decide (2000 < (s.size : Int))) false := .no (by omega)
    have k2 : Kn (IntKind.i64.wrap (2000 - (s.size : Int))) (2000 - (s.size : Int)) := .of (IntWalk.i64_in _ (by omega))
    have k3 : Kn (decide (2000 - (s.size : Int) < i.off)) false := .no (by omega)
    apply W.readS LO mixed [0, 2, 4, 9, 49] (by kernel_rfl)
    · repeat' (first | rfl | with_reducible assumption | assumption | constructor)
    intro w9 f9 s9 hf9
    replace hf9 : f9 = [(0, _), (2, _), (4, _), (9, _), (49, _)] := hf9
    subst hf9
    have hP := hP.same s9
    refine W.cond (b := false) rfl (fun h => by cases h) (fun _ => ?_)
    clear c1 c2 c4 c6 c7 c8 k1 k2 k3
    have hlT : T.length = L.length := by rw [hT, List.length_map]
    have hlk : T.lookup i.key = (L.find? (fun x => decide (x.key = i.key))).map (RE.ev now) := by rw [hT, rv_lookup]
    obtain ⟨c0, c1, c2, c3⟩ := hP.at_.cls
    obtain ⟨aL, cL, hvL, _, _, _⟩ := hP.at_.row.slice
    rw [hvL] at c3
    rcases hcase with ⟨rfl, hno, hfi⟩ | ⟨a, x, rfl, ha, hk, hfi⟩
    · rw [hfi] at hlk
      by_cases hfull : most ≤ (L.length : Int)
      · have hf : T.lookup i.key = none ∧ most ≤ T.length := ⟨hlk, by omega⟩
        rw [if_pos hf] at hR0
        have k4 : Kn (decide (most ≤ (L.length : Int))) true := .yes hfull
        apply W.readS LO mixed [64] (by kernel_rfl)
        · repeat' (first | rfl | with_reducible assumption | assumption | constructor)
        intro w10 f10 s10 hf10
        replace hf10 : f10 = [(64, _)] := hf10
        subst hf10
        refine W.cond (b := true) rfl (fun _ => ?_) (fun h => by cases h)
        apply W.readS LO mixed [6, 7, 8] (by kernel_rfl)
        · repeat' (first | rfl | with_reducible assumption | assumption | constructor)
        intro w11 f11 s11 hf11
        replace hf11 : f11 = [(6, _), (7, _), (8, _)] := hf11
        subst hf11
        rw [← hR0]
        exact W.ret (N.inbR (N.thenR (((hP.same s10).same s11).ret hT.symm I rfl rfl rfl)))
      · have k4 : Kn (decide (most ≤ (L.length : Int))) false := .no hfull
        apply W.readS LO mixed [0, 2, 4, 9, 64] (by kernel_rfl)
        · repeat' (first | rfl | with_reducible assumption | assumption | constructor)
        intro w10 f10 s10 hf10
        replace hf10 : f10 = [(0, _), (2, _), (4, _), (9, _), (64, _)] := hf10
        subst hf10
        refine W.cond (b := false) rfl (fun h => by cases h) (fun _ => W.skip (N.inb ?_))
        exact N.cut ⟨⟨hP.same s10, rfl⟩, hoff, fun e => hfull (by rw [← hlT]; exact e.2)⟩ (sub_keys rfl)
    · rw [hfi] at hlk
      have k4 : Kn (decide ((a : Int) < 0)) false := .no (by omega)
      apply W.readS LO mixed [0, 2, 4, 9, 64] (by kernel_rfl)
      · repeat' (first | rfl | with_reducible assumption | assumption | constructor)
      intro w10 f10 s10 hf10
      replace hf10 : f10 = [(0, _), (2, _), (4, _), (9, _), (64, _)] := hf10
      subst hf10
      refine W.cond (b := false) rfl (fun h => by cases h) (fun _ => W.skip (N.inb ?_))
      exact N.cut ⟨⟨hP.same s10, rfl⟩, hoff, fun e => by rw [hlk] at e; cases e.1⟩ (sub_keys rfl)
  clear hP
  rintro w8 _ ⟨⟨hP, rfl⟩, hoff, hnf⟩
  rw [if_neg (by omega), if_neg hnf] at hR0
  obtain ⟨E, hE⟩ : ∃ E, E = addE (T.lookup i.key) i s := ⟨_, rfl⟩
  rw [← hE] at hR0
  have hlT : T.length = L.length := by rw [hT, List.length_map]
  -- the entry
  refine W.cutS (fun w' g => ∃ vL1 L1 k x, RPE q most ticks now vL L i qi w w' vL1 L1 k x ∧ g = [(0, .pointer (some ⟨q, 0, none⟩)), (2, .string s), (4, .pointer (some ⟨qi, 0, none⟩)), (9, .int .i64 (k : Nat))]) ?_ ?_
  · rcases hcase with ⟨rfl, hno, hfi⟩ | ⟨a, x, rfl, ha, hk, hfi⟩
    · have hroom : (L.length : Int) < most := by
        have hlk : T.lookup i.key = none := by rw [hT, rv_lookup, hfi]; rfl
        rcases Int.lt_or_le (L.length : Int) most with e | e
        · exact e
        · exact absurd ⟨hlk, by omega⟩ hnf
      apply W.readS LO mixed [0, 2, 4, 80] (by kernel_rfl)
      · repeat' (first | rfl | with_reducible assumption | assumption | constructor)
      intro w9 f9 s9 hf9
      replace hf9 : f9 = [(0, _), (2, _), (4, _), (80, _)] := hf9
      subst hf9
      have hP := hP.same s9
      refine W.cond (b := true) rfl (fun _ => ?_) (fun h => by cases h)
      obtain ⟨aL, cL, hvL, hnc, hnil, hblk⟩ := hP.at_.row.slice
      have hgne : ∀ g, vL.ownBlock = some g → g ≠ q ∧ g ≠ qi := fun g hg => by
        obtain ⟨cg, hcg⟩ := hP.at_.row.blk g hg
        exact ⟨cells_ne hcg hP.at_.blk (by decide), cells_ne hcg hP.ib (by decide)⟩
      have mq : ∀ w', Mv (fun j => vL.ownBlock = some j) w9 w' → w'.heap[q]? = w9.heap[q]? := fun w' m => m.block q (Array.getElem?_eq_some_iff.1 hP.at_.blk).1 fun e => (hgne q e).1 rfl
      have mi : ∀ w', Mv (fun j => vL.ownBlock = some j) w9 w' → IB w' qi i := fun w' m => hP.ib.moved m fun e => (hgne qi e).2 rfl
      have F1 : ∀ w', Mv (fun j => vL.ownBlock = some j) w9 w' → Cl w' ⟨q, 3, none⟩ (.slice aL L.length cL) := fun w' m => ⟨by
        unfold World.cell?; simp only [mq w' m, hP.at_.blk]; rw [hvL]; rfl⟩
      have F2 : ∀ w', Mv (fun j => vL.ownBlock = some j) w9 w' → Cl w' ⟨q, 2, none⟩ (.int .i64 now) := fun w' m => ⟨by
        unfold World.cell?; simp only [mq w' m, hP.at_.blk]; rfl⟩
      have F3 : ∀ w', Mv (fun j => vL.ownBlock = some j) w9 w' → Cl w' ⟨qi, 7, none⟩ (.int .u32 i.src) := fun w' m => (mi w' m).cls.2.2.2.2.1
      have F4 : ∀ w', Mv (fun j => vL.ownBlock = some j) w9 w' → Cl w' ⟨qi, 8, none⟩ (.int .u32 i.dst) := fun w' m => (mi w' m).cls.2.2.2.2.2
      have F5 : ∀ w', Mv (fun j => vL.ownBlock = some j) w9 w' → Cl w' ⟨qi, 6, none⟩ (.int .i64 i.proto) := fun w' m => (mi w' m).cls.2.2.2.1
      have F6 : ∀ w', Mv (fun j => vL.ownBlock = some j) w9 w' → Cl w' ⟨qi, 1, none⟩ (.int .i64 i.id) := fun w' m => (mi w' m).cls.1
      obtain ⟨x0, hx0⟩ : ∃ x0 : RE, x0 = ⟨i.key, [], -1, now, .slice none 0 0⟩ := ⟨_, rfl⟩
      refine W.seq ?_
      refine W.held mixed (fun w' => Mv (fun j => vL.ownBlock = some j) w9 w') [22] 23 rfl (fun w' s => (Mv.refl _ w9).same s) ?_
      intro w10 s10
      apply H.takesK LO true [0, 2, 4, 81, 85, 98] [0, 1, 2, 3, 4, 5, 6, 7, 8, 9, 10, 11, 12, 13, 14, 15, 16, 17] (k := 5) rfl (by kernel_rfl)
      · repeat' (first | rfl | with_reducible assumption | assumption | (intro w' hw'; replace hw' := hw' rfl; have h0' := F1 w' hw'; have h1' := F2 w' hw'; have h2' := F3 w' hw'; have h3' := F4 w' hw'; have h4' := F5 w' hw'; have h5' := F6 w' hw') | constructor)
      intro g_ hg_
      replace hg_ : g_ = [(0, _), (2, _), (4, _), (81, _), (85, _), (98, _)] := hg_
      subst hg_
      refine H.only (i := 18) rfl (by kernel_rfl) ?_
      refine Ls.buildOne rfl rfl rfl rfl und_ents hiE hzE hsE rfl rfl rfl rfl (cells := x0.cs) (by rw [hx0]; rfl) rfl ?_
      have hr11 := reads_oneZ w10 63 x0.cs 7 (by rw [hx0]; rfl)
      have m11 : Mv (fun _ => False) w10 (w10.alloc (.cells x0.cs.toArray 63)) := (Mv.refl _ w10).alloc _
      generalize w10.alloc (.cells x0.cs.toArray 63) = w11 at hr11 m11
      have m9 : Mv (fun _ => False) w9 w11 := ((Mv.refl _ w9).same s10).trans m11
      refine Ls.nil (N.goOn (fun _ => m9.mono fun _ e => e.elim) ?_)
      have h11 := hP.at_.moved m9 (fun _ _ e => e)
      refine H.only (i := 19) rfl (by kernel_rfl) ?_
      have hbl : (L.length + 1) * bE ≤ 1000 * 72 := Nat.mul_le_mul (by omega) hbE72
      refine Ls.appendZ rfl rfl rfl rfl und_ents hiE hzE hsE hbE rfl (by decide) (v := vL) (by rw [hvL]; rfl) rfl h11.row hr11 (fun u hu => ?_) (by simp only [maxLen]; omega) (by omega) ?_
      · rw [hx0] at hu
        simp only [RE.cs, List.mem_cons, List.not_mem_nil, or_false] at hu
        rcases hu with rfl | rfl | rfl | rfl | rfl | rfl | rfl <;> rfl
      intro v2 w12 ho12 m12 hb12
      have m9' : Mv (fun j => vL.ownBlock = some j) w9 w12 := (m9.mono fun _ e => e.elim).cut m12 fun _ _ e => e
      refine Ls.nil (N.goOn (fun _ => m9') ?_)
      apply H.takesK LO false [0, 2, 4, 102, 100] [20, 21] (k := 1) rfl (by kernel_rfl)
      · repeat' (first | rfl | with_reducible assumption | assumption | (intro w' hw'; replace hw' := True.intro) | constructor)
      intro g_ hg_
      replace hg_ : g_ = [(0, _), (2, _), (4, _), (102, _), (100, _)] := hg_
      subst hg_
      obtain ⟨a2, c2, hv2, _, _, _⟩ := ho12.slice
      refine H.only (i := 22) rfl (by kernel_rfl) ?_
      refine Ls.store LO rfl rfl rfl rfl rfl (vs := [v2]) (by rw [hv2]; rfl) rfl (by rw [hv2]; rfl) ((mq w12 m9').trans hP.at_.blk) rfl ?_
      intro w13 hb13 m13 _
      refine Ls.nil (N.goOn (fun hint => absurd (show true = false from hint 22 List.mem_cons_self) (by decide)) ?_)
      have hq9 := (Array.getElem?_eq_some_iff.1 hP.at_.blk).1
      have h2q : v2.ownBlock ≠ some q := fun e => by
        rcases hb12 with e1 | e1
        · exact (hgne q (e1.symm.trans e)).1 rfl
        · rw [e1] at e; have := Option.some.inj e; have := m9.size; omega
      have m913 : Mv (fun j => j = q ∨ vL.ownBlock = some j) w9 w13 := (m9'.mono fun _ e => .inr e).cut m13 fun _ _ e => .inl e
      have hA : RTAt w13 q v2 most ticks now (L ++ [x0]) := hP.at_.grow m913 hb13 (ho12.moved m13 fun j hj e => h2q (by rw [hj, e])) (by rw [hx0]) (by rw [hx0])
      have hP13 : RP q most ticks now vL L i qi w w13 v2 (L ++ [x0]) := by
        refine hP.step hA (m913.mono fun j e => ?_) fun j hj => ?_
        · rcases e with e | e
          · exact .inl e
          · exact .inr (.inl e)
        · rcases hj with hj | hj | ⟨y, hy, hj⟩
          · exact .inl (.inl hj)
          · rcases hb12 with e1 | e1
            · exact .inl (.inr (.inl (e1.symm.trans hj)))
            · rw [e1] at hj; have := Option.some.inj hj; have := m9.size; exact .inr (by omega)
          · rcases List.mem_append.1 hy with hy | hy
            · exact .inl (.inr (.inr ⟨y, hy, hj⟩))
            · obtain rfl := List.mem_singleton.1 hy
              rw [hx0] at hj; cases hj
      refine H.done (by kernel_rfl) (N.to ?_)
      have hE' : RPE q most ticks now vL L i qi w w13 v2 (L ++ [x0]) L.length x0 := RPE.new hP13 I hx0 hnow hno hfi hroom
      clear hA m913 h2q hb13 m13 ho12 m12 hb12 m9' hr11 m11 m9 h11 hgne mq mi F1 F2 F3 F4 F5 F6 hvL hnc hnil hblk hq9 hP
      obtain ⟨a3, c3, hv3, _, _, _⟩ := hP13.at_.row.slice
      obtain ⟨d0, d1, d2, d3⟩ := hP13.at_.cls
      rw [hv3] at d3
      have k1 : Kn (IntKind.i64.wrap (((L ++ [x0]).length : Nat) - 1 : Int)) (L.length : Int) := .of (by
        rw [List.length_append, List.length_singleton]
        exact (IntWalk.i64_in _ (by omega)).trans (by omega))
      refine W.weak (g := [(0, .pointer (some ⟨q, 0, none⟩)), (2, .string s), (4, .pointer (some ⟨qi, 0, none⟩))]) ?_ (sub_keys rfl)
      apply W.readN LO mixed [0, 2, 4, 9] (by kernel_rfl)
      · repeat' (first | rfl | with_reducible assumption | assumption | constructor)
      intro w14 f14 s14 hf14
      replace hf14 : f14 = [(0, _), (2, _), (4, _), (9, _)] := hf14
      subst hf14
      exact N.cut ⟨v2, _, L.length, x0, RPE.new (hP13.same s14) I hx0 hnow hno hfi hroom, rfl⟩ (sub_keys rfl)
    · have k4 : Kn (decide ((a : Int) < 0)) false := .no (by omega)
      apply W.readS LO mixed [0, 2, 4, 9, 80] (by kernel_rfl)
      · repeat' (first | rfl | with_reducible assumption | assumption | constructor)
      intro w9 f9 s9 hf9
      replace hf9 : f9 = [(0, _), (2, _), (4, _), (9, _), (80, _)] := hf9
      subst hf9
      refine W.cond (b := false) rfl (fun h => by cases h) (fun _ => W.skip ?_)
      exact N.cut ⟨vL, L, a, x, RPE.old (hP.same s9) I ha hk hfi, rfl⟩ (sub_keys rfl)
  clear hP hcase
  rintro w9 _ ⟨vL1, L1, k, x, hE, rfl⟩
  obtain ⟨g, c, hv, hg, hnc, _⟩ := hE.rp.at_.at hE.hk
  have hkl : k < L1.length := (List.getElem?_eq_some_iff.1 hE.hk).1
  have hlen1 := hE.inv.few
  have ek : 0 + (k : Int).toNat * 7 = 0 + k * 7 := by omega
  have hMk : ∀ y, (L1.set k y)[k]? = some y := fun y => List.getElem?_set_self hkl
  have hset0 : L1.set k x = L1 := by
    apply List.ext_getElem?
    intro n
    by_cases hn : n = k
    · subst hn; rw [hMk, hE.hk]
    · rw [List.getElem?_set_ne (Ne.symm hn)]
  have hP : RP q most ticks now vL L i qi w w9 vL1 (L1.set k x) := by rw [hset0]; exact hE.rp
  have hrel := hE.rel
  have hfil := hE.fil
  have hent := hE.ent
  have hky := hE.ky
  have hinv := hE.inv
  have hxk := hE.hk
  have hxok : ROk x := hinv.ok x (List.mem_of_getElem? hxk)
  rw [← hT] at hrel hfil hent
  clear hE
  refine W.cutS (fun w' g' => Same w9 w' ∧ g' = [(0, .pointer (some ⟨q, 0, none⟩)), (2, .string s), (4, .pointer (some ⟨qi, 0, none⟩)), (9, .int .i64 (k : Nat)), (10, .pointer (some ⟨g, 0 + k * 7, none⟩))]) ?_ ?_
  · obtain ⟨d0, d1, d2, d3⟩ := hP.at_.cls
    rw [hv] at d3
    have i0 : (0 : Int) ≤ (k : Int) := by omega
    have i1 : (k : Int) < (L1.length : Int) := by omega
    apply W.readN LO mixed [0, 2, 4, 9, 10] (by kernel_rfl)
    · repeat' (first | rfl | with_reducible assumption | assumption | constructor)
    intro w10 f10 s10 hf10
    replace hf10 : f10 = [(0, _), (2, _), (4, _), (9, _), (10, _)] := hf10
    subst hf10
    exact N.cut ⟨s10, rfl⟩ (sub_keys (by rw [ek]; rfl))
  rintro w10 _ ⟨s10, rfl⟩
  have hP := hP.same s10
  clear s10
  -- its end
  obtain ⟨x1, hx1⟩ : ∃ x1, x1 = x.set1 i s.size := ⟨_, rfl⟩
  have hx1p : x1.parts = x.parts ∧ x1.key = x.key ∧ x1.at_ = x.at_ ∧ x1.lv = x.lv := by rw [hx1]; unfold RE.set1; split <;> exact ⟨rfl, rfl, rfl, rfl⟩
  have hx1all : x1.all = -1 ∨ (1 ≤ x1.all ∧ x1.all ≤ 2000) := by
    rw [hx1]
    unfold RE.set1
    split
    · right; simp only; omega
    · rcases hxok.all with e | e
      · exact .inl e
      · exact .inr ⟨e.1, e.2.1⟩
  refine W.cutS (fun w' g' => RP q most ticks now vL L i qi w w' vL1 (L1.set k x1) ∧ g' = [(0, .pointer (some ⟨q, 0, none⟩)), (2, .string s), (4, .pointer (some ⟨qi, 0, none⟩)), (9, .int .i64 (k : Nat)), (10, .pointer (some ⟨g, 0 + k * 7, none⟩))]) ?_ ?_
  · obtain ⟨c1, c2, c4, c6, c7, c8⟩ := hP.ib.cls
    obtain ⟨b4, b5, b6⟩ := (hP.er (hMk x) hg).cls
    by_cases hc : i.more = false ∧ x.all < 0
    · have hx1' : x1 = { x with all := i.off + s.size } := by rw [hx1]; unfold RE.set1; rw [if_pos hc]
      rw [hc.1] at c2
      have k1 : Kn (decide (x.all < 0)) true := .yes hc.2
      apply W.readS LO mixed [0, 2, 4, 9, 10, 124] (by kernel_rfl)
      · repeat' (first | rfl | with_reducible assumption | assumption | constructor)
      intro w11 f11 s11 hf11
      replace hf11 : f11 = [(0, _), (2, _), (4, _), (9, _), (10, _), (124, _)] := hf11
      subst hf11
      have hP := hP.same s11
      refine W.cond (b := true) rfl (fun _ => W.list ?_) (fun h => by cases h)
      clear c1 c2 c4 c6 c7 c8 b4 b5 b6
      obtain ⟨c1, c2, c4, c6, c7, c8⟩ := hP.ib.cls
      have k2 : Kn (IntKind.i64.wrap (i.off + (s.size : Int))) (i.off + s.size) := .of (IntWalk.i64_in _ (by omega))
      apply Ls.runK LO [0, 2, 4, 9, 10, 132, 130] 8
      · repeat' (first | rfl | with_reducible assumption | assumption | constructor)
      intro w12 f12 s12 hf12
      replace hf12 : f12 = [(0, _), (2, _), (4, _), (9, _), (10, _), (132, _), (130, _)] := hf12
      subst hf12
      have hP := hP.same s12
      obtain ⟨cs, hcs, hcl, hst⟩ := hP.at_.cell (hMk x) hg
      refine Ls.store LO rfl rfl rfl rfl rfl (vs := [.int .i64 (i.off + s.size)]) rfl rfl rfl hcs (Nat.ble_eq_true_of_le (by show 0 + k * 7 + 5 + 1 ≤ _; omega)) ?_
      intro w13 hb13 m13 _
      have hrow := hst w13 5 _ x1 (by decide) (by rw [hx1']; rfl) hb13
      rw [List.length_set] at hrow
      have hP := hP.put (hMk x) hg (m13.mono fun j e => .inl e) (by rw [List.length_set]; exact hrow) (by rw [hx1']; exact (hP.er (hMk x) hg).p.moved m13 fun j hj e => hP.lvg (hMk x) hg (by rw [← e]; exact hj)) (fun j hj => .inl (by rw [hx1'] at hj; exact hj))
      rw [List.set_set] at hP
      exact Ls.nil (N.cut ⟨hP, rfl⟩ (sub_keys rfl))
    · have hx1' : x1 = x := by rw [hx1]; unfold RE.set1; rw [if_neg hc]
      rw [hx1']
      cases hmo : i.more with
      | true =>
        rw [hmo] at c2
        apply W.readS LO mixed [0, 2, 4, 9, 10, 124] (by kernel_rfl)
        · repeat' (first | rfl | with_reducible assumption | assumption | constructor)
        intro w11 f11 s11 hf11
        replace hf11 : f11 = [(0, _), (2, _), (4, _), (9, _), (10, _), (124, _)] := hf11
        subst hf11
        refine W.cond (b := false) rfl (fun h => by cases h) (fun _ => W.skip ?_)
        exact N.cut ⟨hP.same s11, rfl⟩ (sub_keys rfl)
      | false =>
        rw [hmo] at c2
        have k1 : Kn (decide (x.all < 0)) false := .no fun e => hc ⟨hmo, e⟩
        apply W.readS LO mixed [0, 2, 4, 9, 10, 124] (by kernel_rfl)
        · repeat' (first | rfl | with_reducible assumption | assumption | constructor)
        intro w11 f11 s11 hf11
        replace hf11 : f11 = [(0, _), (2, _), (4, _), (9, _), (10, _), (124, _)] := hf11
        subst hf11
        refine W.cond (b := false) rfl (fun h => by cases h) (fun _ => W.skip ?_)
        exact N.cut ⟨hP.same s11, rfl⟩ (sub_keys rfl)
  clear hP
  rintro w11 _ ⟨hP, rfl⟩
  have hfew := hxok.few
  have hsz : s.size ≤ 2000 := by omega
  -- its bytes
  have hy : ∀ (w' : World) (y : RE), RP q most ticks now vL L i qi w w' vL1 (L1.set k y) → ER w' g (0 + k * 7) y := fun w' y hP => hP.er (hMk y) hg
  refine W.cutS (fun w' g' => (∃ lv, RP q most ticks now vL L i qi w w' vL1 (L1.set k ⟨x1.key, insR x1.parts i.off s.data.toList x1.all, x1.all, x1.at_, lv⟩) ∧ (insR x1.parts i.off s.data.toList x1.all).length ≤ 4001) ∧ g' = [(0, .pointer (some ⟨q, 0, none⟩)), (2, .string s), (4, .pointer (some ⟨qi, 0, none⟩)), (9, .int .i64 (k : Nat)), (10, .pointer (some ⟨g, 0 + k * 7, none⟩))]) ?_ ?_
  ·
    apply W.readS LO mixed [0, 2, 4, 9, 10, 11] (by kernel_rfl)
    · repeat' (first | rfl | with_reducible assumption | assumption | constructor)
    intro w12 f12 s12 hf12
    replace hf12 : f12 = [(0, _), (2, _), (4, _), (9, _), (10, _), (11, _)] := hf12
    subst hf12
    refine W.block (W.loop (fun r w' g' => ∃ (j : Nat) (ps : List (Int × Int)) (lv : Value), r + j = s.size ∧ RP q most ticks now vL L i qi w w' vL1 (L1.set k ⟨x1.key, ps, x1.all, x1.at_, lv⟩) ∧ ps.length ≤ 2001 + j ∧ insR ps (i.off + j) (s.data.toList.drop j) x1.all = insR x1.parts i.off s.data.toList x1.all ∧
      g' = [(0, .pointer (some ⟨q, 0, none⟩)), (2, .string s), (4, .pointer (some ⟨qi, 0, none⟩)), (9, .int .i64 (k : Nat)), (10, .pointer (some ⟨g, 0 + k * 7, none⟩)), (11, .int .i64 (j : Nat))]) s.size _ ⟨0, x1.parts, x1.lv, rfl, hP.same s12, by rw [hx1p.1]; omega, by rw [List.drop_zero]; congr 1; omega, rfl⟩ (sub_keys rfl) ?_)
    clear hP s12
    rintro r w13 _ ⟨j, ps, lv, hrj, hP, hpl, hins, rfl⟩
    by_cases hlt : j < s.size
    · have k1 : Kn (decide ((j : Int) < (s.size : Int))) true := .yes (by omega)
      refine W.seq ?_
      apply W.readS LO mixed [0, 2, 4, 9, 10, 11, 136] (by kernel_rfl)
      · repeat' (first | rfl | with_reducible assumption | assumption | constructor)
      intro w14 f14 s14 hf14
      replace hf14 : f14 = [(0, _), (2, _), (4, _), (9, _), (10, _), (11, _), (136, _)] := hf14
      subst hf14
      have hP := hP.same s14
      refine W.cond (b := true) rfl (fun _ => W.skip (N.to ?_)) (fun h => by cases h)
      obtain ⟨cb, hcb, hbt, hdrop⟩ := idx_byte hlt
      rw [hdrop] at hins
      simp only [insR] at hins
      obtain ⟨at_, hat⟩ : ∃ at_, at_ = i.off + (j : Int) := ⟨_, rfl⟩
      rw [← hat] at hins
      refine W.cutS (fun w' g' => (∃ (ps' : List (Int × Int)) (lv' : Value), RP q most ticks now vL L i qi w w' vL1 (L1.set k ⟨x1.key, ps', x1.all, x1.at_, lv'⟩) ∧ ps'.length ≤ 2001 + (j + 1) ∧ insR ps' (at_ + 1) (s.data.toList.drop (j + 1)) x1.all = insR x1.parts i.off s.data.toList x1.all) ∧ g' = [(0, .pointer (some ⟨q, 0, none⟩)), (2, .string s), (4, .pointer (some ⟨qi, 0, none⟩)), (9, .int .i64 (k : Nat)), (10, .pointer (some ⟨g, 0 + k * 7, none⟩)), (11, .int .i64 (j : Nat))]) ?_ ?_
      · refine W.block ?_
        obtain ⟨v_, b_, hv_, hb_⟩ : ∃ v b, (ps.lookup at_).getD 0 = v ∧ (ps.lookup at_).isSome = b := ⟨_, _, rfl, rfl⟩
        have k2 : Kn (IntKind.i64.wrap (i.off + (j : Int))) at_ := .of (by rw [hat]; exact IntWalk.i64_in _ (by omega))
        have q1 : ∀ w', Same w14 w' → Calls Try.prog 25 #[.pointer (some ⟨g, 0 + k * 7, none⟩), .int .i64 at_] w' fun e w'' => e = .returned (.tuple #[.int .u8 v_, .bool b_]) ∧ Same w14 w'' := by
          rw [← hv_, ← hb_]
          exact quiet_of (w := w14) fun w' s' => has_says g (0 + k * 7) _ at_ w' ((hy _ _ hP).same s') (by show ps.length ≤ _; omega)
        obtain ⟨c1, c2, c4, c6, c7, c8⟩ := hP.ib.cls
        apply W.readS LO mixed [0, 2, 4, 9, 10, 11, 13] (by kernel_rfl)
        · repeat' (first | rfl | with_reducible assumption | assumption | constructor)
        intro w15 f15 s15 hf15
        replace hf15 : f15 = [(0, _), (2, _), (4, _), (9, _), (10, _), (11, _), (13, _)] := hf15
        subst hf15
        have hP := hP.same s15
        clear q1 c1 c2 c4 c6 c7 c8 s15 s14
        obtain ⟨c1, c2, c4, c6, c7, c8⟩ := hP.ib.cls
        obtain ⟨b4, b5, b6⟩ := (hy _ _ hP).cls
        by_cases hlay : ps.lookup at_ = none ∧ (x1.all < 0 ∨ at_ < x1.all)
        · rw [if_pos hlay] at hins
          rw [hlay.1] at hb_
          subst hb_
          refine W.cutS (fun w' g' => Same w15 w' ∧ g' = [(0, .pointer (some ⟨q, 0, none⟩)), (2, .string s), (4, .pointer (some ⟨qi, 0, none⟩)), (9, .int .i64 (k : Nat)), (10, .pointer (some ⟨g, 0 + k * 7, none⟩)), (11, .int .i64 (j : Nat)), (167, .bool true)]) ?_ ?_
          · by_cases ha0 : x1.all < 0
            · have k3 : Kn (decide (x1.all < 0)) true := .yes ha0
              apply W.readN LO mixed [0, 2, 4, 9, 10, 11, 167] (by kernel_rfl)
              · repeat' (first | rfl | with_reducible assumption | assumption | constructor)
              intro w16 f16 s16 hf16
              replace hf16 : f16 = [(0, _), (2, _), (4, _), (9, _), (10, _), (11, _), (167, _)] := hf16
              subst hf16
              exact N.cut ⟨s16, rfl⟩ (sub_keys rfl)
            · have k3 : Kn (decide (x1.all < 0)) false := .no ha0
              have k4 : Kn (decide (at_ < x1.all)) true := .yes (by omega)
              apply W.readN LO mixed [0, 2, 4, 9, 10, 11, 167] (by kernel_rfl)
              · repeat' (first | rfl | with_reducible assumption | assumption | constructor)
              intro w16 f16 s16 hf16
              replace hf16 : f16 = [(0, _), (2, _), (4, _), (9, _), (10, _), (11, _), (167, _)] := hf16
              subst hf16
              exact N.cut ⟨s16, rfl⟩ (sub_keys rfl)
          rintro w16 _ ⟨s16, rfl⟩
          have hP := hP.same s16
          clear c1 c2 c4 c6 c7 c8 b4 b5 b6 s16
          refine W.cond (b := true) rfl (fun _ => ?_) (fun h => by cases h)
          have i0 : (0 : Int) ≤ (j : Int) := by omega
          have i1 : (j : Int) < (s.size : Int) := by omega
          obtain ⟨x2, hx2⟩ : ∃ x2 : RE, x2 = ⟨x1.key, ps, x1.all, x1.at_, lv⟩ := ⟨_, rfl⟩
          rw [← hx2] at hP
          have hE2 := hy _ _ hP
          have hps : x2.parts = ps := by rw [hx2]
          obtain ⟨al, cl, hlv, hlc, hnil2, hblk2⟩ := hE2.p.slice
          have hlvg := hP.lvg (hMk x2) hg
          obtain ⟨hqg, hlq⟩ := hP.qig (hMk x2) hg
          have F1 : ∀ w', Mv (fun b => x2.lv.ownBlock = some b) w16 w' → Cl w' ⟨g, 0 + k * 7 + 4, none⟩ (.slice al x2.parts.length cl) := fun w' m => by
            rw [← hlv]; exact ⟨m.cell (hE2.c 4 _ rfl) (fun e => hlvg e)⟩
          have F2 : ∀ w', Mv (fun b => x2.lv.ownBlock = some b) w16 w' → Cl w' ⟨qi, 4, none⟩ (.int .i64 i.off) := fun w' m => (hP.ib.moved m fun e => hlq e).cls.2.2.1
          refine W.held mixed (fun w' => Mv (fun b => x2.lv.ownBlock = some b) w16 w') [17] 18 rfl (fun w' s => (Mv.refl _ w16).same s) ?_
          intro w17 s17
          apply H.takesK LO true [0, 2, 4, 9, 10, 11, 168, 172, 180] [0, 1, 2, 3, 4, 5, 6, 7, 8, 9, 10, 11, 12] (k := 5) rfl (by kernel_rfl)
          · repeat' (first | rfl | with_reducible assumption | assumption | (intro w' hw'; replace hw' := hw' rfl; have h0' := F1 w' hw'; have h1' := F2 w' hw') | constructor)
          intro g_ hg_
          replace hg_ : g_ = [(0, _), (2, _), (4, _), (9, _), (10, _), (11, _), (168, _), (172, _), (180, _)] := hg_
          subst hg_
          refine H.only (i := 13) rfl (by kernel_rfl) ?_
          refine Ls.buildOne rfl rfl rfl rfl und_parts hiP hzP hsP rfl rfl rfl rfl (cells := pcs (at_, bt s (j : Int))) rfl rfl ?_
          have hr18 := reads_oneZ w17 69 (pcs (at_, bt s (j : Int))) 2 rfl
          have m18 : Mv (fun _ => False) w17 (w17.alloc (.cells (pcs (at_, bt s (j : Int))).toArray 69)) := (Mv.refl _ w17).alloc _
          generalize w17.alloc (.cells (pcs (at_, bt s (j : Int))).toArray 69) = w18 at hr18 m18
          have m16 : Mv (fun _ => False) w16 w18 := ((Mv.refl _ w16).same s17).trans m18
          refine Ls.nil (N.goOn (fun _ => m16.mono fun _ e => e.elim) ?_)
          refine H.only (i := 14) rfl (by kernel_rfl) ?_
          refine Ls.appendZ rfl rfl rfl rfl und_parts hiP hzP hsP hbP rfl (by decide) (v := x2.lv) (by rw [hlv]; rfl) rfl (hE2.p.moved m16 fun _ _ e => e) hr18 (fun u hu => ?_) (by rw [hps]; simp only [maxLen]; omega) (by rw [hps]; omega) ?_
          · simp only [pcs, List.mem_cons, List.not_mem_nil, or_false] at hu
            rcases hu with rfl | rfl <;> rfl
          intro v2 w19 ho19 m19 hb19
          have m16' : Mv (fun b => x2.lv.ownBlock = some b) w16 w19 := (m16.mono fun _ e => e.elim).cut m19 fun _ _ e => e
          refine Ls.nil (N.goOn (fun _ => m16') ?_)
          apply H.takesK LO false [0, 2, 4, 9, 10, 11, 184, 182] [15, 16] (k := 1) rfl (by kernel_rfl)
          · repeat' (first | rfl | with_reducible assumption | assumption | (intro w' hw'; replace hw' := True.intro) | constructor)
          intro g_ hg_
          replace hg_ : g_ = [(0, _), (2, _), (4, _), (9, _), (10, _), (11, _), (184, _), (182, _)] := hg_
          subst hg_
          obtain ⟨a2, c2', hv2, _, _, _⟩ := ho19.slice
          obtain ⟨cs, hcs, hcl, hst⟩ := hP.at_.cell (hMk x2) hg
          have hcs' : w19.heap[g]? = some (.cells cs.toArray 63 (0, 0)) := (m16'.block g (Array.getElem?_eq_some_iff.1 hcs).1 fun e => hlvg e).trans hcs
          refine H.only (i := 17) rfl (by kernel_rfl) ?_
          refine Ls.store LO rfl rfl rfl rfl rfl (vs := [v2]) (by rw [hv2]; rfl) rfl (by rw [hv2]; rfl) hcs' (Nat.ble_eq_true_of_le (by show 0 + k * 7 + 4 + 1 ≤ _; omega)) ?_
          intro w20 hb20 m20 _
          refine Ls.nil (N.goOn (fun hint => absurd (show true = false from hint 17 List.mem_cons_self) (by decide)) ?_)
          obtain ⟨x3, hx3⟩ : ∃ x3 : RE, x3 = ⟨x1.key, ps ++ [(at_, bt s (j : Int))], x1.all, x1.at_, v2⟩ := ⟨_, rfl⟩
          have hrow := hst w20 4 v2 x3 (by decide) (by rw [hx3, hx2]; rfl) hb20
          rw [List.length_set] at hrow
          have hg16 := (Array.getElem?_eq_some_iff.1 hcs).1
          have h2lv : ∀ b, v2.ownBlock = some b → x2.lv.ownBlock = some b ∨ w16.heap.size ≤ b := fun b hb => by
            rcases hb19 with e1 | e1
            · exact .inl (e1.symm.trans hb)
            · rw [e1] at hb; have := Option.some.inj hb; have := m16.size; exact .inr (by omega)
          have h2g : v2.ownBlock ≠ some g := fun e => by
            rcases h2lv g e with e1 | e1
            · exact hlvg e1
            · omega
          have hent3 : OwnZ w20 69 2 x3.lv x3.parts.length (prow x3.parts) := by
            rw [hx3]
            show OwnZ w20 _ 2 v2 (ps ++ [(at_, bt s (j : Int))]).length (prow (ps ++ [(at_, bt s (j : Int))]))
            have e1 : prow (ps ++ [(at_, bt s (j : Int))]) = prow ps ++ pcs (at_, bt s (j : Int)) := by unfold prow; rw [List.flatMap_append]; simp
            rw [e1, List.length_append, List.length_singleton]
            rw [hps] at ho19
            exact ho19.moved m20 fun b hb e => h2g (by rw [hb, e])
          have hP := hP.put (x' := x3) (hMk x2) hg ((m16'.mono fun _ e => .inr e).cut m20 fun _ _ e => .inl e) (by rw [List.length_set]; exact hrow) hent3 (by rw [hx3]; exact h2lv)
          rw [List.set_set, hx3] at hP
          refine H.done (by kernel_rfl) (N.inb (N.cut ⟨⟨_, v2, hP, by rw [List.length_append, List.length_singleton]; omega, ?_⟩, rfl⟩ (sub_keys rfl)))
          rw [hbt, ← hins]
        · rw [if_neg hlay] at hins
          refine W.cutS (fun w' g' => Same w15 w' ∧ g' = [(0, .pointer (some ⟨q, 0, none⟩)), (2, .string s), (4, .pointer (some ⟨qi, 0, none⟩)), (9, .int .i64 (k : Nat)), (10, .pointer (some ⟨g, 0 + k * 7, none⟩)), (11, .int .i64 (j : Nat)), (167, .bool false)]) ?_ ?_
          · cases b_ with
            | true =>
              apply W.readN LO mixed [0, 2, 4, 9, 10, 11, 167] (by kernel_rfl)
              · repeat' (first | rfl | with_reducible assumption | assumption | constructor)
              intro w16 f16 s16 hf16
              replace hf16 : f16 = [(0, _), (2, _), (4, _), (9, _), (10, _), (11, _), (167, _)] := hf16
              subst hf16
              exact N.cut ⟨s16, rfl⟩ (sub_keys rfl)
            | false =>
              have hln : ps.lookup at_ = none := by
                cases hl : ps.lookup at_ with
                | none => rfl
                | some z => rw [hl] at hb_; cases hb_
              have k3 : Kn (decide (x1.all < 0)) false := .no fun e => hlay ⟨hln, .inl e⟩
              have k4 : Kn (decide (at_ < x1.all)) false := .no fun e => hlay ⟨hln, .inr e⟩
              apply W.readN LO mixed [0, 2, 4, 9, 10, 11, 167] (by kernel_rfl)
              · repeat' (first | rfl | with_reducible assumption | assumption | constructor)
              intro w16 f16 s16 hf16
              replace hf16 : f16 = [(0, _), (2, _), (4, _), (9, _), (10, _), (11, _), (167, _)] := hf16
              subst hf16
              exact N.cut ⟨s16, rfl⟩ (sub_keys rfl)
          rintro w16 _ ⟨s16, rfl⟩
          refine W.cond (b := false) rfl (fun h => by cases h) (fun _ => W.skip ?_)
          exact N.inb (N.cut ⟨⟨ps, lv, hP.same s16, by omega, hins⟩, rfl⟩ (sub_keys rfl))
      · clear hP
        rintro w15 _ ⟨⟨ps', lv', hP, hpl', hins'⟩, rfl⟩
        have k5 : Kn (IntKind.i64.wrap ((j : Int) + 1)) ((j + 1 : Nat) : Int) := .of (IntWalk.i64_in _ (by omega))
        apply W.readN LO mixed [0, 2, 4, 9, 10, 11] (by kernel_rfl)
        · repeat' (first | rfl | with_reducible assumption | assumption | constructor)
        intro w16 f16 s16 hf16
        replace hf16 : f16 = [(0, _), (2, _), (4, _), (9, _), (10, _), (11, _)] := hf16
        subst hf16
        refine N.round (r - 1) _ (by omega) ⟨j + 1, ps', lv', by omega, hP.same s16, hpl', ?_, rfl⟩ (sub_keys rfl)
        rw [← hins', hat]
        congr 1
        omega
    · have k1 : Kn (decide ((j : Int) < (s.size : Int))) false := .no (by omega)
      refine W.seq ?_
      apply W.readS LO mixed [0, 2, 4, 9, 10, 136] (by kernel_rfl)
      · repeat' (first | rfl | with_reducible assumption | assumption | constructor)
      intro w14 f14 s14 hf14
      replace hf14 : f14 = [(0, _), (2, _), (4, _), (9, _), (10, _), (136, _)] := hf14
      subst hf14
      have hd : s.data.toList.drop j = [] := List.drop_eq_nil_iff.2 (by rw [bytes_len]; omega)
      rw [hd] at hins
      simp only [insR] at hins
      refine W.cond (b := false) rfl (fun h => by cases h) (fun _ => W.exit ?_)
      refine N.thenE (N.thenE (N.out (N.cut ⟨⟨lv, ?_, by rw [← hins]; omega⟩, rfl⟩ (sub_keys rfl))))
      rw [← hins]
      exact hP.same s14
  clear hP
  rintro w12 _ ⟨⟨lv2, hP, hpl2⟩, rfl⟩
  obtain ⟨x2, hx2⟩ : ∃ x2 : RE, x2 = ⟨x1.key, insR x1.parts i.off s.data.toList x1.all, x1.all, x1.at_, lv2⟩ := ⟨_, rfl⟩
  rw [← hx2] at hP
  have hpl : x2.parts.length ≤ 4001 := by rw [hx2]; exact hpl2
  clear hpl2
  -- what is kept
  apply W.readS LO mixed [0, 9, 10, 14] (by kernel_rfl)
  · repeat' (first | rfl | with_reducible assumption | assumption | constructor)
  intro w13 f13 s13 hf13
  replace hf13 : f13 = [(0, _), (9, _), (10, _), (14, _)] := hf13
  subst hf13
  have hP := hP.same s13
  clear s13
  refine W.cutS (fun w' g' => ∃ vm, (Mv (fun _ => False) w13 w' ∧ OwnZ w' 69 2 vm (keepR x2.all x2.parts).length (prow (keepR x2.all x2.parts)) ∧ ∀ b, vm.ownBlock = some b → w13.heap.size ≤ b) ∧ g' = [(0, .pointer (some ⟨q, 0, none⟩)), (9, .int .i64 (k : Nat)), (10, .pointer (some ⟨g, 0 + k * 7, none⟩)), (14, vm)]) ?_ ?_
  ·
    apply W.readS LO mixed [0, 9, 10, 14, 15] (by kernel_rfl)
    · repeat' (first | rfl | with_reducible assumption | assumption | constructor)
    intro w14 f14 s14 hf14
    replace hf14 : f14 = [(0, _), (9, _), (10, _), (14, _), (15, _)] := hf14
    subst hf14
    refine W.block (W.loop (fun r w' g' => ∃ (j : Nat) (vm : Value), r + j = x2.parts.length ∧ Mv (fun _ => False) w13 w' ∧ OwnZ w' 69 2 vm (keepR x2.all (x2.parts.take j)).length (prow (keepR x2.all (x2.parts.take j))) ∧ (∀ b, vm.ownBlock = some b → w13.heap.size ≤ b) ∧
      g' = [(0, .pointer (some ⟨q, 0, none⟩)), (9, .int .i64 (k : Nat)), (10, .pointer (some ⟨g, 0 + k * 7, none⟩)), (14, vm), (15, .int .i64 (j : Nat))]) x2.parts.length _ ⟨0, .slice none 0 0, rfl, (Mv.refl _ w13).same s14, OwnZ.nil _ _ _, fun b hb => (by cases hb), rfl⟩ (sub_keys rfl) ?_)
    clear s14
    rintro r w15 _ ⟨j, vm, hrj, hmv, hvm, hfr, rfl⟩
    have hP15 := hP.non hmv
    obtain ⟨al, cl, hlv, _, _, _⟩ := (hy _ _ hP15).p.slice
    obtain ⟨b4, b5, b6⟩ := (hy _ _ hP15).cls
    rw [hlv] at b4
    by_cases hlt : j < x2.parts.length
    · have k1 : Kn (decide ((j : Int) < (x2.parts.length : Int))) true := .yes (by omega)
      refine W.seq ?_
      apply W.readS LO mixed [0, 9, 10, 14, 15, 191] (by kernel_rfl)
      · repeat' (first | rfl | with_reducible assumption | assumption | constructor)
      intro w16 f16 s16 hf16
      replace hf16 : f16 = [(0, _), (9, _), (10, _), (14, _), (15, _), (191, _)] := hf16
      subst hf16
      have hmv := hmv.same s16
      have hvm := hvm.same s16
      have hP16 := hP15.same s16
      refine W.cond (b := true) rfl (fun _ => W.skip (N.to ?_)) (fun h => by cases h)
      clear b4 b5 b6 hP15 s16
      obtain ⟨p, hp⟩ : ∃ p, x2.parts[j]? = some p := ⟨_, List.getElem?_eq_getElem hlt⟩
      have htk : x2.parts.take (j + 1) = x2.parts.take j ++ [p] := by rw [List.take_add_one, hp]; rfl
      have hkl0 : (keepR x2.all (x2.parts.take j)).length ≤ 4001 := by
        have := List.length_filter_le (fun q : Int × Int => decide (x2.all < 0) || decide (q.1 < x2.all)) (x2.parts.take j)
        rw [List.length_take] at this
        unfold keepR
        omega
      refine W.cutS (fun w' g' => ∃ vm, (Mv (fun _ => False) w13 w' ∧ OwnZ w' 69 2 vm (keepR x2.all (x2.parts.take (j + 1))).length (prow (keepR x2.all (x2.parts.take (j + 1)))) ∧ ∀ b, vm.ownBlock = some b → w13.heap.size ≤ b) ∧ g' = [(0, .pointer (some ⟨q, 0, none⟩)), (9, .int .i64 (k : Nat)), (10, .pointer (some ⟨g, 0 + k * 7, none⟩)), (14, vm), (15, .int .i64 (j : Nat))]) ?_ ?_
      · refine W.block ?_
        have i0 : (0 : Int) ≤ (j : Int) := by omega
        have i1 : (j : Int) < (x2.parts.length : Int) := by omega
        by_cases hkp : x2.all < 0 ∨ p.1 < x2.all
        · refine W.cutS (fun w' g' => Same w16 w' ∧ g' = [(0, .pointer (some ⟨q, 0, none⟩)), (9, .int .i64 (k : Nat)), (10, .pointer (some ⟨g, 0 + k * 7, none⟩)), (14, vm), (15, .int .i64 (j : Nat)), (213, .bool true)]) ?_ ?_
          · obtain ⟨b4, b5, b6⟩ := (hy _ _ hP16).cls
            obtain ⟨gp, cp, hvp, _, p0, p1⟩ := (hy _ _ hP16).part hp
            rw [hvp] at b4
            by_cases ha0 : x2.all < 0
            · have k2 : Kn (decide (x2.all < 0)) true := .yes ha0
              apply W.readN LO mixed [0, 9, 10, 14, 15, 213] (by kernel_rfl)
              · repeat' (first | rfl | with_reducible assumption | assumption | constructor)
              intro w17 f17 s17 hf17
              replace hf17 : f17 = [(0, _), (9, _), (10, _), (14, _), (15, _), (213, _)] := hf17
              subst hf17
              exact N.cut ⟨s17, rfl⟩ (sub_keys rfl)
            · have k2 : Kn (decide (x2.all < 0)) false := .no ha0
              have k3 : Kn (decide (p.1 < x2.all)) true := .yes (by omega)
              apply W.readN LO mixed [0, 9, 10, 14, 15, 213] (by kernel_rfl)
              · repeat' (first | rfl | with_reducible assumption | assumption | constructor)
              intro w17 f17 s17 hf17
              replace hf17 : f17 = [(0, _), (9, _), (10, _), (14, _), (15, _), (213, _)] := hf17
              subst hf17
              exact N.cut ⟨s17, rfl⟩ (sub_keys rfl)
          rintro w17 _ ⟨s17, rfl⟩
          have hmv := hmv.same s17
          have hvm := hvm.same s17
          have hP17 := hP16.same s17
          clear hP16 s17
          refine W.cond (b := true) rfl (fun _ => W.list ?_) (fun h => by cases h)
          obtain ⟨b4, b5, b6⟩ := (hy _ _ hP17).cls
          obtain ⟨gp, cp, hvp, _, p0, p1⟩ := (hy _ _ hP17).part hp
          rw [hvp] at b4
          have hcells : CellsAt w17 gp (0 + (j : Int).toNat * 2) 2 (pcs p) := .cons p0 (.cons p1 .nil)
          apply Ls.runK LO [0, 9, 10, 15, 214, 221] 8
          · repeat' (first | rfl | with_reducible assumption | assumption | constructor)
          intro w18 f18 s18 hf18
          replace hf18 : f18 = [(0, _), (9, _), (10, _), (15, _), (214, _), (221, _)] := hf18
          subst hf18
          have hmv := hmv.same s18
          have hvm := hvm.same s18
          refine Ls.buildOne rfl rfl rfl rfl und_parts hiP hzP hsP rfl rfl rfl rfl (cells := pcs p) rfl rfl ?_
          have hr19 := reads_oneZ w18 69 (pcs p) 2 rfl
          have m19 : Mv (fun _ => False) w18 (w18.alloc (.cells (pcs p).toArray 69)) := (Mv.refl _ w18).alloc _
          generalize w18.alloc (.cells (pcs p).toArray 69) = w19 at hr19 m19
          have hmv := hmv.trans m19
          refine Ls.appendZ rfl rfl rfl rfl und_parts hiP hzP hsP hbP rfl (by decide) (v := vm) rfl rfl (hvm.moved m19 fun _ _ e => e) hr19 (fun u hu => ?_) (by simp only [maxLen]; omega) (by omega) ?_
          · simp only [pcs, List.mem_cons, List.not_mem_nil, or_false] at hu
            rcases hu with rfl | rfl <;> rfl
          intro v2 w20 ho20 m20 hb20
          have hmv20 : Mv (fun _ => False) w13 w20 := hmv.cut m20 fun b hb e => by have := hfr b e; omega
          apply Ls.runK LO [0, 9, 10, 14, 15] 1
          · repeat' (first | rfl | with_reducible assumption | assumption | constructor)
          intro w21 f21 s21 hf21
          replace hf21 : f21 = [(0, _), (9, _), (10, _), (14, _), (15, _)] := hf21
          subst hf21
          refine Ls.nil (N.inb (N.cut ⟨v2, ⟨hmv20.same s21, ?_, fun b hb => ?_⟩, rfl⟩ (sub_keys rfl)))
          · have e1 : keepR x2.all (x2.parts.take (j + 1)) = keepR x2.all (x2.parts.take j) ++ [p] := by
              rw [htk]
              unfold keepR
              rw [List.filter_append]
              congr 1
              have : (decide (x2.all < 0) || decide (p.1 < x2.all)) = true := by rw [Bool.or_eq_true, decide_eq_true_eq, decide_eq_true_eq]; exact hkp
              rw [List.filter_cons, if_pos this]; rfl
            have e2 : prow (keepR x2.all (x2.parts.take j) ++ [p]) = prow (keepR x2.all (x2.parts.take j)) ++ pcs p := by unfold prow; rw [List.flatMap_append]; simp
            rw [e1, e2, List.length_append, List.length_singleton]
            exact ho20.same s21
          · rcases hb20 with e1 | e1
            · exact hfr b (e1.symm.trans hb)
            · rw [e1] at hb; have := Option.some.inj hb; have := hmv.size; omega
        · refine W.cutS (fun w' g' => Same w16 w' ∧ g' = [(0, .pointer (some ⟨q, 0, none⟩)), (9, .int .i64 (k : Nat)), (10, .pointer (some ⟨g, 0 + k * 7, none⟩)), (14, vm), (15, .int .i64 (j : Nat)), (213, .bool false)]) ?_ ?_
          · obtain ⟨b4, b5, b6⟩ := (hy _ _ hP16).cls
            obtain ⟨gp, cp, hvp, _, p0, p1⟩ := (hy _ _ hP16).part hp
            rw [hvp] at b4
            have k2 : Kn (decide (x2.all < 0)) false := .no fun e => hkp (.inl e)
            have k3 : Kn (decide (p.1 < x2.all)) false := .no fun e => hkp (.inr e)
            apply W.readN LO mixed [0, 9, 10, 14, 15, 213] (by kernel_rfl)
            · repeat' (first | rfl | with_reducible assumption | assumption | constructor)
            intro w17 f17 s17 hf17
            replace hf17 : f17 = [(0, _), (9, _), (10, _), (14, _), (15, _), (213, _)] := hf17
            subst hf17
            exact N.cut ⟨s17, rfl⟩ (sub_keys rfl)
          rintro w17 _ ⟨s17, rfl⟩
          refine W.cond (b := false) rfl (fun h => by cases h) (fun _ => W.skip ?_)
          refine N.inb (N.cut ⟨vm, ⟨hmv.same s17, ?_, hfr⟩, rfl⟩ (sub_keys rfl))
          have e1 : keepR x2.all (x2.parts.take (j + 1)) = keepR x2.all (x2.parts.take j) := by
            rw [htk]
            unfold keepR
            rw [List.filter_append]
            have : ¬ (decide (x2.all < 0) || decide (p.1 < x2.all)) = true := by rw [Bool.or_eq_true, decide_eq_true_eq, decide_eq_true_eq]; exact hkp
            rw [List.filter_cons, if_neg this, List.filter_nil, List.append_nil]
          rw [e1]; exact hvm.same s17
      · rintro w17 _ ⟨vm', ⟨hmv', hvm', hfr'⟩, rfl⟩
        have k5 : Kn (IntKind.i64.wrap ((j : Int) + 1)) ((j + 1 : Nat) : Int) := .of (IntWalk.i64_in _ (by omega))
        apply W.readN LO mixed [0, 9, 10, 14, 15] (by kernel_rfl)
        · repeat' (first | rfl | with_reducible assumption | assumption | constructor)
        intro w18 f18 s18 hf18
        replace hf18 : f18 = [(0, _), (9, _), (10, _), (14, _), (15, _)] := hf18
        subst hf18
        exact N.round (r - 1) _ (by omega) ⟨j + 1, vm', by omega, hmv'.same s18, hvm'.same s18, hfr', rfl⟩ (sub_keys rfl)
    · have k1 : Kn (decide ((j : Int) < (x2.parts.length : Int))) false := .no (by omega)
      refine W.seq ?_
      apply W.readS LO mixed [0, 9, 10, 14, 191] (by kernel_rfl)
      · repeat' (first | rfl | with_reducible assumption | assumption | constructor)
      intro w16 f16 s16 hf16
      replace hf16 : f16 = [(0, _), (9, _), (10, _), (14, _), (191, _)] := hf16
      subst hf16
      rw [List.take_of_length_le (by omega)] at hvm
      refine W.cond (b := false) rfl (fun h => by cases h) (fun _ => W.exit ?_)
      exact N.thenE (N.thenE (N.out (N.cut ⟨vm, ⟨hmv.same s16, hvm.same s16, hfr⟩, rfl⟩ (sub_keys rfl))))
  rintro w14 _ ⟨vm, ⟨hmv, hvm, hfr⟩, rfl⟩
  obtain ⟨x3, hx3⟩ : ∃ x3 : RE, x3 = ⟨x2.key, keepR x2.all x2.parts, x2.all, x2.at_, vm⟩ := ⟨_, rfl⟩
  obtain ⟨hev, hok3⟩ := re_add now hxok i s ⟨hs0, hgood, ho0, hoff, by
    cases hmo : i.more with
    | true => exact .inl rfl
    | false => right; rcases Int.lt_or_le 0 i.off with e | e; exact e; exact absurd ⟨hmo, e⟩ hnp⟩ vm x3 (by
    rw [hx3, hx2]
    show RE.mk x1.key (keepR x1.all (insR x1.parts i.off s.data.toList x1.all)) x1.all x1.at_ vm = _
    rw [hx1p.1, hx1p.2.1, hx1p.2.2.1, hx1])
  have hevE : x3.ev now = E := by rw [hev, hE, hent]; exact (addE_getD _ _ _).symm
  have hk3 : x3.key = x.key := by rw [hx3, hx2]; exact hx1p.2.1
  have hat3 : x3.at_ = x.at_ := by rw [hx3, hx2]; exact hx1p.2.2.1
  refine W.cutS (fun w' g' => RP q most ticks now vL L i qi w w' vL1 (L1.set k x3) ∧ g' = [(0, .pointer (some ⟨q, 0, none⟩)), (9, .int .i64 (k : Nat)), (10, .pointer (some ⟨g, 0 + k * 7, none⟩))]) ?_ ?_
  · refine W.list ?_
    apply Ls.runK LO [0, 9, 10, 227, 225] 4
    · repeat' (first | rfl | with_reducible assumption | assumption | constructor)
    intro w15 f15 s15 hf15
    replace hf15 : f15 = [(0, _), (9, _), (10, _), (227, _), (225, _)] := hf15
    subst hf15
    have hmv := hmv.same s15
    have hvm := hvm.same s15
    obtain ⟨a2, c2', hv2, _, _, _⟩ := hvm.slice
    obtain ⟨cs, hcs, hcl, hst⟩ := hP.at_.cell (hMk x2) hg
    have hg13 := (Array.getElem?_eq_some_iff.1 hcs).1
    have hcs' : w15.heap[g]? = some (.cells cs.toArray 63 (0, 0)) := (hmv.block g hg13 fun e => e).trans hcs
    refine Ls.store LO rfl rfl rfl rfl rfl (vs := [vm]) (by rw [hv2]; rfl) rfl (by rw [hv2]; rfl) hcs' (Nat.ble_eq_true_of_le (by show 0 + k * 7 + 4 + 1 ≤ _; omega)) ?_
    intro w16 hb16 m16 _
    have hrow := hst w16 4 vm x3 (by decide) (by rw [hx3]; rfl) hb16
    rw [List.length_set] at hrow
    have hent3 : OwnZ w16 69 2 x3.lv x3.parts.length (prow x3.parts) := by
      rw [hx3]
      exact hvm.moved m16 fun b hb e => by have := hfr b hb; omega
    have hP := hP.put (x' := x3) (hMk x2) hg ((hmv.mono fun _ e => e.elim).cut m16 fun _ _ e => .inl e) (by rw [List.length_set]; exact hrow) hent3 (by rw [hx3]; exact fun b hb => .inr (hfr b hb))
    rw [List.set_set] at hP
    exact Ls.nil (N.cut ⟨hP, rfl⟩ (sub_keys rfl))
  clear hP hmv hvm hfr
  rintro w15 _ ⟨hP, rfl⟩
  -- is it whole
  refine W.seq (W.list ?_)
  apply Ls.runK LO [0, 9, 10, 229] 1
  · repeat' (first | rfl | with_reducible assumption | assumption | constructor)
  intro w16 f16 s16 hf16
  replace hf16 : f16 = [(0, _), (9, _), (10, _), (229, _)] := hf16
  subst hf16
  have hP := hP.same s16
  have hgl : g < w16.heap.size := hP.at_.row.lt g hg
  refine Ls.call LO rfl rfl rfl rfl rfl (vs := [.pointer (some ⟨g, 0 + k * 7, none⟩)]) rfl (rwhole_walk g (0 + k * 7) x3 now w16 (hy _ _ hP) hgl hok3) ?_
  rintro _ w17 ⟨rfl, m17⟩
  have hP := hP.non m17
  refine ⟨_, rfl, ?_⟩
  rw [hevE]
  obtain ⟨ow, how⟩ : ∃ ow, ow = E.whole := ⟨_, rfl⟩
  rw [← how] at hR0
  rw [← how]
  apply Ls.runK LO [0, 9, 16, 17] 5
  · repeat' (first | rfl | with_reducible assumption | assumption | constructor)
  intro w18 f18 s18 hf18
  replace hf18 : f18 = [(0, _), (9, _), (16, _), (17, _)] := hf18
  subst hf18
  refine Ls.nil (N.to ?_)
  have hP := hP.same s18
  have hinv3 : RInv most now (L1.set k x3) := hinv.set hxk hk3 hat3 hok3
  refine W.cutS (fun w' g' => (RP q most ticks now vL L i qi w w' vL1 (L1.set k x3) ∧ g' = []) ∧ ow = none) ?_ ?_
  ·
    apply W.readS LO mixed [0, 9, 16, 233] (by kernel_rfl)
    · repeat' (first | rfl | with_reducible assumption | assumption | constructor)
    intro w19 f19 s19 hf19
    replace hf19 : f19 = [(0, _), (9, _), (16, _), (233, _)] := hf19
    subst hf19
    have hP := hP.same s19
    cases ow with
    | some z =>
      refine W.cond (b := true) rfl (fun _ => ?_) (fun h => by cases h)
      refine W.seq (W.list ?_)
      apply Ls.runK LO [16, 234, 235] 2
      · repeat' (first | rfl | with_reducible assumption | assumption | constructor)
      intro w20 f20 s20 hf20
      replace hf20 : f20 = [(16, _), (234, _), (235, _)] := hf20
      subst hf20
      have hP := hP.same s20
      refine Ls.call LO rfl rfl rfl rfl rfl (vs := [.pointer (some ⟨q, 0, none⟩), .int .i64 k]) rfl (drop_walk q vL1 most ticks now (L1.set k x3) k w20 hP.at_ (by rw [List.length_set]; exact hkl) (by rw [List.length_set]; omega)) ?_
      intro _ w21 hd
      obtain ⟨rfl, vL', hP⟩ := hP.dropped hd fun y hy => List.mem_of_mem_eraseIdx hy
      refine ⟨_, rfl, Ls.nil (N.to ?_)⟩
      apply W.readS LO mixed [6, 7, 8] (by kernel_rfl)
      · repeat' (first | rfl | with_reducible assumption | assumption | constructor)
      intro w22 f22 s22 hf22
      replace hf22 : f22 = [(6, _), (7, _), (8, _)] := hf22
      subst hf22
      rw [← hR0]
      refine W.ret (N.thenR ((hP.same s22).ret ?_ (hinv3.sub (List.eraseIdx_sublist _ _)) rfl rfl rfl))
      rw [List.eraseIdx_set_eq, hfil]
    | none =>
      refine W.cond (b := false) rfl (fun h => by cases h) (fun _ => W.skip ?_)
      exact N.cut ⟨⟨hP, rfl⟩, rfl⟩ (sub_keys rfl)
  clear hP
  rintro w20 _ ⟨⟨hP, rfl⟩, rfl⟩
  apply W.readS LO mixed [6, 7, 8] (by kernel_rfl)
  · repeat' (first | rfl | with_reducible assumption | assumption | constructor)
  intro w21 f21 s21 hf21
  replace hf21 : f21 = [(6, _), (7, _), (8, _)] := hf21
  subst hf21
  rw [← hR0]
  refine W.ret ((hP.same s21).ret ?_ hinv3 rfl rfl rfl)
  rw [hrel x3 (hk3.trans hky), hevE]
end Go.Proofs.Ytnghmaejmfhigaa
