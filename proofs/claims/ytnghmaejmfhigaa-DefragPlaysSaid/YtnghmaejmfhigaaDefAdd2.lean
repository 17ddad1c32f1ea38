/- What is proved: a part is added: the walk. Conditions: those that stand in each theorem. -/
import Derived.Test.YtnghmaejmfhigaaDefAdd
namespace Go.Proofs.Ytnghmaejmfhigaa
set_option linter.unusedVariables false
set_option linter.unusedSimpArgs false
set_option linter.unusedSectionVars false
open Go.RowKit Go.Maps Go.MapKept Go.ChangeMaps Fw
theorem empty_of {s : ByteArray} (h : s.size = 0) : s = ⟨#[]⟩ := by
  cases s with
  | mk a => have : a = #[] := Array.eq_empty_of_size_eq_zero h
            rw [this]
theorem isEmpty_of {s : ByteArray} (h : ¬ s.size = 0) : (s.toList == (⟨#[]⟩ : ByteArray).toList) = false := by
  rw [beq_eq_false_iff_ne]
  intro e
  rw [ByteArray.toList_eq, ByteArray.toList_eq] at e
  apply h
  have := congrArg List.length e
  simpa using this
theorem isEmpty_em : ((⟨#[]⟩ : ByteArray).toList == (⟨#[]⟩ : ByteArray).toList) = true := beq_self_eq_true _
theorem bytes_len (s : ByteArray) : s.data.toList.length = s.size := Array.length_toList
def IB (w : World) (q : Nat) (i : IPV) : Prop := w.heap[q]? = some (.cells (ipVs i).toArray 29 (0, 0))
theorem IB.cls {w : World} {q : Nat} {i : IPV} (h : IB w q i) : Cl w ⟨q, 1, none⟩ (.int .i64 i.id) ∧ Cl w ⟨q, 2, none⟩ (.bool i.more) ∧ Cl w ⟨q, 4, none⟩ (.int .i64 i.off) ∧ Cl w ⟨q, 6, none⟩ (.int .i64 i.proto) ∧ Cl w ⟨q, 7, none⟩ (.int .u32 i.src) ∧ Cl w ⟨q, 8, none⟩ (.int .u32 i.dst) := by
  unfold IB at h
  refine ⟨⟨?_⟩, ⟨?_⟩, ⟨?_⟩, ⟨?_⟩, ⟨?_⟩, ⟨?_⟩⟩ <;> (unfold World.cell?; rw [h]; rfl)
theorem IB.moved {S : Nat → Prop} {w w' : World} {q : Nat} {i : IPV} (h : IB w q i) (mv : Mv S w w') (hs : ¬ S q) : IB w' q i := (mv.block q (Array.getElem?_eq_some_iff.1 h).1 hs).trans h
def KB (w : World) (q : Nat) (k : KeyV) : Prop := w.heap[q]? = some (.cells [.int .u32 k.src, .int .u32 k.dst, .int .i64 k.proto, .int .i64 k.id].toArray 53 (0, 0))
theorem KB.moved {S : Nat → Prop} {w w' : World} {q : Nat} {k : KeyV} (h : KB w q k) (mv : Mv S w w') (hs : ¬ S q) : KB w' q k := (mv.block q (Array.getElem?_eq_some_iff.1 h).1 hs).trans h
theorem KB.cells {w : World} {q : Nat} {k : KeyV} (h : KB w q k) : CellsAt w q 0 4 [.int .u32 k.src, .int .u32 k.dst, .int .i64 k.proto, .int .i64 k.id] := by
  unfold KB at h
  refine .cons ⟨?_⟩ (.cons ⟨?_⟩ (.cons ⟨?_⟩ (.cons ⟨?_⟩ .nil))) <;> (unfold World.cell?; rw [h]; rfl)
theorem TAt.off {w : World} {t m r T : Nat} {most ticks : Int} {L : List Ent} {cs : Array Value} {fr : Nat × Nat} (h : TAt w t m most ticks L) (hr : w.heap[r]? = some (.cells cs T fr)) (h1 : T ≠ 51) (h2 : T ≠ 57) (k : Nat) (hk : TB t m L k) : k ≠ r := by
  rcases hk with rfl | rfl | ⟨x, hx, rfl | rfl⟩
  · exact cells_ne h.blk hr (Ne.symm h1)
  · exact fun e => ml_ne h.map hr e.symm
  · exact cells_ne (h.ent x hx).blk hr (Ne.symm h2)
  · exact fun e => ml_ne (h.ent x hx).map hr e.symm
/-- Under way: the table, the head's variable, the name's. -/
structure AP (t m : Nat) (most ticks : Int) (L0 : List Ent) (i : IPV) (q qk : Nat) (w w' : World) (L : List Ent) : Prop where
  at_ : TAt w' t m most ticks L
  mv : Mv (TB t m L0) w w'
  own : ∀ k, TB t m L k → TB t m L0 k ∨ w.heap.size ≤ k
  ib : IB w' q i
  kb : KB w' qk i.key
  fq : w.heap.size ≤ q ∧ w.heap.size ≤ qk
theorem AP.same {t m : Nat} {most ticks : Int} {L0 L : List Ent} {i : IPV} {q qk : Nat} {w w' w'' : World} (h : AP t m most ticks L0 i q qk w w' L) (s : Same w' w'') : AP t m most ticks L0 i q qk w w'' L :=
  ⟨h.at_.same s, h.mv.same s, h.own, by unfold IB; rw [s.heap]; exact h.ib, by unfold KB; rw [s.heap]; exact h.kb, h.fq⟩
theorem AP.step {t m : Nat} {most ticks : Int} {L0 L L' : List Ent} {i : IPV} {q qk : Nat} {w w' w'' : World} (h : AP t m most ticks L0 i q qk w w' L) (hA : TAt w'' t m most ticks L') (hM : Mv (TB t m L) w' w'') (hO : ∀ k, TB t m L' k → TB t m L k ∨ w'.heap.size ≤ k) : AP t m most ticks L0 i q qk w w'' L' := by
  refine ⟨hA, h.mv.cut hM fun k hk hS => ?_, fun k hk => ?_, h.ib.moved hM fun e => h.at_.off h.ib (by decide) (by decide) q e rfl, h.kb.moved hM fun e => h.at_.off h.kb (by decide) (by decide) qk e rfl, h.fq⟩
  · rcases h.own k hS with h1 | h1
    · exact h1
    · omega
  · rcases hO k hk with h1 | h1
    · exact h.own k h1
    · right; have := h.mv.size; omega
theorem AP.ret {t m : Nat} {most ticks : Int} {L0 L : List Ent} {i : IPV} {q qk : Nat} {w w' : World} {f : Fr} {T : List (KeyV × EV)} {x : ByteArray} {b : Bool} {n : Int} (h : AP t m most ticks L0 i q qk w w' L) (hT : L.map ke = T) (h6 : fget f 6 = some (.string x)) (h7 : fget f 7 = some (.bool b)) (h8 : fget f 8 = some (.int .i64 n)) :
    N 178 f w' (bodyPost Try.prog Try.f9 (AddPost t m most ticks L0 (T, x, b, n) w)) .ret :=
  post LO (rs := [.tmp 6, .tmp 7, .tmp 8]) rfl (vs := [.string x, .bool b, .int .i64 n]) (.tmp h6 (.tmp h7 (.tmp h8 .nil))) ⟨L, rfl, h.at_, hT, h.mv, h.own⟩
theorem AP.drop {t m : Nat} {most ticks : Int} {L0 L : List Ent} {i : IPV} {q qk : Nat} {w w' w'' : World} (h : AP t m most ticks L0 i q qk w w' L) (k : KeyV) (hm : Mv (· = m) w' w'') (hM : KMap w'' m ((L.map fun x => (x.key, x.b)).filter (fun p => p.1 != k))) : AP t m most ticks L0 i q qk w w'' (L.filter fun z => z.key != k) :=
  h.step (h.at_.drop k hm hM) (hm.mono fun j e => .inr (.inl e)) fun j hj => .inl (TB_filter j hj)
theorem TAt.new {w w' : World} {t m : Nat} {most ticks : Int} {L : List Ent} {k : KeyV} {b me : Nat} {e : EV} (h : TAt w t m most ticks L) (mv : Mv (· = m) w w') (hM : KMap w' m ((L.map fun x => (x.key, x.b)) ++ [(k, b)])) (he : EAt w' b me e) (hb : w.heap.size ≤ b ∨ ∀ k, TB t m L k → k ≠ b) (hm : w.heap.size ≤ me ∨ ∀ k, TB t m L k → k ≠ me) : TAt w' t m most ticks (L ++ [⟨k, b, me, e⟩]) := by
  have hb' : ∀ k, TB t m L k → k ≠ b := fun k hk => by
    rcases hb with e | e
    · have := h.lt k hk; omega
    · exact e k hk
  have hm' : ∀ k, TB t m L k → k ≠ me := fun k hk => by
    rcases hm with e | e
    · have := h.lt k hk; omega
    · exact e k hk
  refine ⟨h.blk.moved mv h.tm, by rw [List.map_append]; exact hM, fun x hx => ?_, ?_, ?_, fun x hx => ?_⟩
  · rcases List.mem_append.1 hx with hx | hx
    · have ht := h.tb hx
      exact (h.ent x hx).moved mv ht.2.1 ht.2.2.2.1
    · obtain rfl := List.mem_singleton.1 hx
      exact he
  · rw [List.map_append, List.nodup_append]
    refine ⟨h.nb, by simp, fun a ha c hc => ?_⟩
    obtain ⟨x, hx, rfl⟩ := List.mem_map.1 ha
    obtain rfl : c = b := by simpa using hc
    exact hb' x.b (.inr (.inr ⟨x, hx, .inl rfl⟩))
  · rw [List.map_append, List.nodup_append]
    refine ⟨h.nm, by simp, fun a ha c hc => ?_⟩
    obtain ⟨x, hx, rfl⟩ := List.mem_map.1 ha
    obtain rfl : c = me := by simpa using hc
    exact hm' x.m (.inr (.inr ⟨x, hx, .inr rfl⟩))
  · rcases List.mem_append.1 hx with hx | hx
    · exact h.mm x hx
    · obtain rfl := List.mem_singleton.1 hx
      exact Ne.symm (hm' m (.inr (.inl rfl)))
theorem find_some {L : List Ent} {k : KeyV} {y : Ent} (h : some y = L.find? (fun z => z.key = k)) : y ∈ L ∧ y.key = k := by
  have h1 := List.mem_of_find?_eq_some h.symm
  have h2 := List.find?_some h.symm
  exact ⟨h1, of_decide_eq_true h2⟩
theorem find_none {L : List Ent} {k : KeyV} (h : none = L.find? (fun z => z.key = k)) : ∀ z ∈ L, z.key ≠ k := by
  intro z hz
  have := List.find?_eq_none.1 h.symm z hz
  simpa using this
theorem AP.ent {t m : Nat} {most ticks : Int} {L0 L1 : List Ent} {i : IPV} {q qk : Nat} {w w' : World} {y : Ent} {e : EV} (hy : y ∈ L1) (h : AP t m most ticks L0 i q qk w w' (setE L1 y.key e)) : EAt w' y.b y.m e := h.at_.ent _ (setE_mem hy e)
theorem AP.set {t m : Nat} {most ticks : Int} {L0 L1 : List Ent} {i : IPV} {q qk : Nat} {w w' w'' : World} {y : Ent} {e e' : EV} (hy : y ∈ L1) (h : AP t m most ticks L0 i q qk w w' (setE L1 y.key e)) (hm : Mv (fun k => k = y.b ∨ k = y.m) w' w'') (he : EAt w'' y.b y.m e') : AP t m most ticks L0 i q qk w w'' (setE L1 y.key e') :=
  h.step (h.at_.set hy hm he) (hm.mono fun k hk => TB_setE k |>.2 (.inr (.inr ⟨y, hy, hk⟩))) fun k hk => .inl ((TB_setE k).2 ((TB_setE k).1 hk))
theorem idx_byte {s : ByteArray} {j : Nat} (hj : j < s.size) : ∃ c, s.data.toList[j]? = some c ∧ bt s (j : Int) = (c.toNat : Int) ∧ s.data.toList.drop j = c :: s.data.toList.drop (j + 1) := by
  have hl : j < s.data.toList.length := by rw [bytes_len]; exact hj
  refine ⟨s.data.toList[j], List.getElem?_eq_getElem hl, ?_, List.drop_eq_getElem_cons hl⟩
  unfold bt
  rw [Int.toNat_natCast, List.getD_eq_getElem?_getD, List.getElem?_eq_getElem hl]
  rfl
/-- What the block leaves behind: the entry is there. -/
structure APE (t m : Nat) (most ticks : Int) (L0 : List Ent) (i : IPV) (q qk : Nat) (w w' : World) (L1 : List Ent) (y : Ent) : Prop where
  ap : AP t m most ticks L0 i q qk w w' L1
  my : y ∈ L1
  ky : y.key = i.key
  rel : ∀ e, (setE L1 y.key e).map ke = if (L0.map ke).lookup i.key = none then L0.map ke ++ [(i.key, e)] else (L0.map ke).map (fun p => if p.1 = i.key then (p.1, e) else p)
  fil : (L1.filter (fun z => z.key != i.key)).map ke = (L0.map ke).filter (fun p => p.1 != i.key)
  ent : y.e = ((L0.map ke).lookup i.key).getD ⟨[], 0, 0⟩
set_option maxRecDepth 100000 in
set_option maxHeartbeats 4000000 in
theorem add_walk (t m : Nat) (most ticks : Int) (L : List Ent) (i : IPV) (s : ByteArray) (w : World) (h : TAt w t m most ticks L) (hi : IPok i) (hs : s.size ≤ 1000000000) (hall : ∀ x ∈ L, 0 ≤ x.e.all ∧ x.e.all ≤ 2000) :
    Calls Try.prog 9 #[.pointer (some ⟨t, 0, none⟩), .agg (ipVs i).toArray, .string s] w (AddPost t m most ticks L (TVadd most (L.map ke) i s) w) := by
  refine calls_W (n := 178) (vs := [.pointer (some ⟨t, 0, none⟩), .agg (ipVs i).toArray, .string s]) Try.func9 rfl rfl rfl ?_
  obtain ⟨T, hT⟩ : ∃ T, T = L.map ke := ⟨_, rfl⟩
  rw [← hT]
  refine W.seq (W.list ?_)
  refine Ls.box rfl rfl rfl rfl rfl (vs := ipVs i) rfl ?_
  have hb1 := heap_alloc_new w (.cells (ipVs i).toArray 29)
  have m1 : Mv (fun _ => False) w (w.alloc (.cells (ipVs i).toArray 29)) := (Mv.refl _ w).alloc _
  generalize w.alloc (.cells (ipVs i).toArray 29) = w1 at hb1 m1
  obtain ⟨q, hq⟩ : ∃ q, q = w.heap.size := ⟨_, rfl⟩
  rw [← hq] at hb1
  rw [← hq]
  apply Ls.runK LO [0, 2, 4] 3
  · repeat' (first | rfl | with_reducible assumption | assumption | constructor)
  intro w2 f2 s2 hf2
  replace hf2 : f2 = [(0, _), (2, _), (4, _)] := hf2
  subst hf2
  refine Ls.nil (N.to ?_)
  have h2 := (h.moved m1 (fun _ _ e => e)).same s2
  have hib2 : IB w2 q i := by unfold IB; rw [s2.heap]; exact hb1
  have mv2 : Mv (fun _ => False) w w2 := m1.same s2
  clear hb1 m1 s2
  have ho := hi.off
  -- no part
  by_cases hnp : i.more = false ∧ i.off ≤ 0
  · refine W.cutS (fun _ _ => False) ?_ (fun _ _ h => h.elim)
    obtain ⟨c1, c2, c4, c6, c7, c8⟩ := hib2.cls
    rw [hnp.1] at c2
    have k1 : Kn (decide (i.off ≤ 0)) true := .yes hnp.2
    apply W.readS LO mixed [2, 22] (by kernel_rfl)
    · repeat' (first | rfl | with_reducible assumption | assumption | constructor)
    intro w3 f3 s3 hf3
    replace hf3 : f3 = [(2, _), (22, _)] := hf3
    subst hf3
    refine W.cond (b := true) rfl (fun _ => ?_) (fun h => by cases h)
    apply W.readS LO mixed [6, 7, 8] (by kernel_rfl)
    · repeat' (first | rfl | with_reducible assumption | assumption | constructor)
    intro w4 f4 s4 hf4
    replace hf4 : f4 = [(6, _), (7, _), (8, _)] := hf4
    subst hf4
    refine W.ret ?_
    have hr : TVadd most T i s = (T, s, true, 0) := by unfold TVadd; rw [if_pos hnp]
    rw [hr]
    refine N.thenR ?_
    exact post LO (rs := [.tmp 6, .tmp 7, .tmp 8]) rfl (vs := [.string s, .bool true, .int .i64 0]) (.tmp rfl (.tmp rfl (.tmp rfl .nil))) ⟨L, rfl, (h2.same s3).same s4, hT.symm, ((mv2.mono fun _ e => e.elim).same s3).same s4, fun k hk => .inl hk⟩
  refine W.cutS (fun w' g => Same w2 w' ∧ g = [(0, .pointer (some ⟨t, 0, none⟩)), (2, .string s), (4, .pointer (some ⟨q, 0, none⟩))]) ?_ ?_
  · obtain ⟨c1, c2, c4, c6, c7, c8⟩ := hib2.cls
    cases hmo : i.more with
    | true =>
      rw [hmo] at c2
      apply W.readS LO mixed [0, 2, 4, 22] (by kernel_rfl)
      · repeat' (first | rfl | with_reducible assumption | assumption | constructor)
      intro w3 f3 s3 hf3
      replace hf3 : f3 = [(0, _), (2, _), (4, _), (22, _)] := hf3
      subst hf3
      refine W.cond (b := false) rfl (fun h => by cases h) (fun _ => W.skip ?_)
      exact N.cut ⟨s3, rfl⟩ (sub_keys rfl)
    | false =>
      rw [hmo] at c2
      have k1 : Kn (decide (i.off ≤ 0)) false := .no fun h => hnp ⟨hmo, h⟩
      apply W.readS LO mixed [0, 2, 4, 22] (by kernel_rfl)
      · repeat' (first | rfl | with_reducible assumption | assumption | constructor)
      intro w3 f3 s3 hf3
      replace hf3 : f3 = [(0, _), (2, _), (4, _), (22, _)] := hf3
      subst hf3
      refine W.cond (b := false) rfl (fun h => by cases h) (fun _ => W.skip ?_)
      exact N.cut ⟨s3, rfl⟩ (sub_keys rfl)
  rintro w3 _ ⟨s3, rfl⟩
  have h3 := h2.same s3
  have hib3 : IB w3 q i := by unfold IB; rw [s3.heap]; exact hib2
  have mv3 := mv2.same s3
  clear h2 hib2 mv2 s3
  -- its name
  refine W.seq (W.list ?_)
  obtain ⟨c1, c2, c4, c6, c7, c8⟩ := hib3.cls
  apply Ls.runK LO [0, 2, 4, 32] 9
  · repeat' (first | rfl | with_reducible assumption | assumption | constructor)
  intro w4 f4 s4 hf4
  replace hf4 : f4 = [(0, _), (2, _), (4, _), (32, _)] := hf4
  subst hf4
  have h4 := h3.same s4
  have hib4 : IB w4 q i := by unfold IB; rw [s4.heap]; exact hib3
  have mv4 := mv3.same s4
  clear h3 hib3 mv3 s4 c1 c2 c4 c6 c7 c8
  refine Ls.alloc LO rfl rfl rfl rfl rfl ?_
  have hb5 := heap_alloc_new w4 (.cells [.int .u32 0, .int .u32 0, .int .i64 0, .int .i64 0].toArray 53)
  have m5 : Mv (fun _ => False) w4 (w4.alloc (.cells [.int .u32 0, .int .u32 0, .int .i64 0, .int .i64 0].toArray 53)) := (Mv.refl _ w4).alloc _
  generalize w4.alloc (.cells [.int .u32 0, .int .u32 0, .int .i64 0, .int .i64 0].toArray 53) = w5 at hb5 m5
  obtain ⟨qk, hqk⟩ : ∃ qk, qk = w4.heap.size := ⟨_, rfl⟩
  rw [← hqk] at hb5
  rw [← hqk]
  refine Ls.store LO rfl rfl rfl rfl rfl (vs := [.int .u32 i.src, .int .u32 i.dst, .int .i64 i.proto, .int .i64 i.id]) rfl rfl rfl hb5 rfl ?_
  intro w6 hb6 m6 _
  refine Ls.nil (N.to ?_)
  have hqlt : q < w4.heap.size := (Array.getElem?_eq_some_iff.1 hib4).1
  have hqw : w.heap.size ≤ w4.heap.size := mv4.size
  have hP : AP t m most ticks L i q qk w w6 L := by
    have h5 := h4.moved m5 (fun _ _ e => e)
    have ho5 := h5.off hb5 (by decide) (by decide)
    refine ⟨h5.moved m6 (fun k hk e => ho5 k hk e), ?_, fun k hk => .inl hk, (hib4.moved m5 (fun e => e)).moved m6 (by omega), hb6, by omega⟩
    exact ((mv4.mono fun _ e => e.elim).cut m5 fun k hk e => e.elim).cut m6 fun k hk e => by omega
  clear h4 hib4 mv4 hb5 m5 hb6 m6 hqlt hqw hqk hq
  have hnk : TVadd most T i s = if s.size = 0 ∨ (i.more = true ∧ s.size % 8 ≠ 0) ∨ i.off < 0 then (T, ⟨#[]⟩, false, (3 : Int)) else
      if 2000 < s.size ∨ 2000 - (s.size : Int) < i.off then (T.filter (fun p => p.1 != i.key), ⟨#[]⟩, false, (5 : Int)) else
      if T.lookup i.key = none ∧ most ≤ T.length then (T, ⟨#[]⟩, false, (10 : Int)) else
      match (addE (T.lookup i.key) i s).whole with
      | some x => (T.filter (fun p => p.1 != i.key), x, true, (0 : Int))
      | none => (if T.lookup i.key = none then T ++ [(i.key, addE (T.lookup i.key) i s)] else T.map (fun p => if p.1 = i.key then (p.1, addE (T.lookup i.key) i s) else p), ⟨#[]⟩, false, (0 : Int)) := by
    unfold TVadd; rw [if_neg hnp]; rfl
  rw [hnk]
  clear hnk
  obtain ⟨fy, hfy⟩ : ∃ fy, fy = L.find? (fun z => z.key = i.key) := ⟨_, rfl⟩
  have hlk : T.lookup i.key = fy.map (·.e) := by rw [hT, lookup_ke, hfy]
  refine W.cutS (fun w' g => AP t m most ticks L i q qk w w' L ∧ g = [(0, .pointer (some ⟨t, 0, none⟩)), (2, .string s), (4, .pointer (some ⟨q, 0, none⟩)), (9, .pointer (some ⟨qk, 0, none⟩)), (10, (fy.map fun y => mkP y.b).getD (.pointer none))]) ?_ ?_
  · obtain ⟨c0, c1, c2⟩ := hP.at_.blk.cls
    have hl := look_one (P := Try.prog) hP.at_.map KMk Try.underlying49 zero_ent i.key hi.key _ rfl
    rw [lookup_kb, ← hfy, Option.map_map] at hl
    have hcells := hP.kb.cells
    apply W.readN LO mixed [0, 2, 4, 9, 10] (by kernel_rfl)
    · repeat' (first | rfl | with_reducible assumption | assumption | constructor)
    intro w7 f7 s7 hf7
    replace hf7 : f7 = [(0, _), (2, _), (4, _), (9, _), (10, _)] := hf7
    subst hf7
    exact N.cut ⟨hP.same s7, rfl⟩ (sub_keys rfl)
  rintro w7 _ ⟨hP, rfl⟩
  have r8 : (8 : Int) ≠ 0 := by decide
  -- what may not be
  by_cases hbad : s.size = 0 ∨ (i.more = true ∧ s.size % 8 ≠ 0) ∨ i.off < 0
  · rw [if_pos hbad]
    refine W.cutS (fun _ _ => False) ?_ (fun _ _ h => h.elim)
    refine W.block ?_
    refine W.cutS (fun w' g => Same w7 w' ∧ g = [(39, .bool true)]) ?_ ?_
    · obtain ⟨c1, c2, c4, c6, c7, c8⟩ := hP.ib.cls
      by_cases hs0 : s.size = 0
      · have k1 : Kn (s.toList == (⟨#[]⟩ : ByteArray).toList) true := .of (by rw [empty_of hs0]; exact isEmpty_em)
        apply W.readN LO mixed [39] (by kernel_rfl)
        · repeat' (first | rfl | with_reducible assumption | assumption | constructor)
        intro w8 f8 s8 hf8
        replace hf8 : f8 = [(39, _)] := hf8
        subst hf8
        exact N.cut ⟨s8, rfl⟩ (sub_keys rfl)
      · have k1 : Kn (s.toList == (⟨#[]⟩ : ByteArray).toList) false := .of (isEmpty_of hs0)
        cases hmo : i.more with
        | false =>
          rw [hmo] at c2
          have k2 : Kn (decide (i.off < 0)) true := .yes (by rcases hbad with e | e | e; exact absurd e hs0; (rw [hmo] at e; cases e.1); exact e)
          apply W.readN LO mixed [39] (by kernel_rfl)
          · repeat' (first | rfl | with_reducible assumption | assumption | constructor)
          intro w8 f8 s8 hf8
          replace hf8 : f8 = [(39, _)] := hf8
          subst hf8
          exact N.cut ⟨s8, rfl⟩ (sub_keys rfl)
        | true =>
          rw [hmo] at c2
          obtain ⟨rm, hrm⟩ : ∃ rm : Int, rm = ((s.size % 8 : Nat) : Int) := ⟨_, rfl⟩
          have k3 : Kn ((s.size : Int).tmod 8) rm := .of (by rw [Int.tmod_eq_emod_of_nonneg (by omega)]; omega)
          by_cases hr0 : rm = 0
          · have k4 : Kn (rm != 0) false := .of (by simp [hr0])
            have k2 : Kn (decide (i.off < 0)) true := .yes (by rcases hbad with e | e | e; exact absurd e hs0; (exact absurd (by omega) e.2); exact e)
            apply W.readN LO mixed [39] (by kernel_rfl)
            · repeat' (first | rfl | with_reducible assumption | assumption | constructor)
            intro w8 f8 s8 hf8
            replace hf8 : f8 = [(39, _)] := hf8
            subst hf8
            exact N.cut ⟨s8, rfl⟩ (sub_keys rfl)
          · have k4 : Kn (rm != 0) true := .of (by simp [hr0])
            apply W.readN LO mixed [39] (by kernel_rfl)
            · repeat' (first | rfl | with_reducible assumption | assumption | constructor)
            intro w8 f8 s8 hf8
            replace hf8 : f8 = [(39, _)] := hf8
            subst hf8
            exact N.cut ⟨s8, rfl⟩ (sub_keys rfl)
    rintro w8 _ ⟨s8, rfl⟩
    refine W.cond (b := true) rfl (fun _ => ?_) (fun h => by cases h)
    apply W.readS LO mixed [6, 7, 8] (by kernel_rfl)
    · repeat' (first | rfl | with_reducible assumption | assumption | constructor)
    intro w9 f9 s9 hf9
    replace hf9 : f9 = [(6, _), (7, _), (8, _)] := hf9
    subst hf9
    exact W.ret (N.inbR (N.thenR (((hP.same s8).same s9).ret hT.symm rfl rfl rfl)))
  rw [if_neg hbad]
  have hs0 : ¬ s.size = 0 := fun e => hbad (.inl e)
  have ho0 : 0 ≤ i.off := by
    rcases Int.lt_or_le i.off 0 with e | e
    · exact absurd (.inr (.inr e)) hbad
    · exact e
  have step5 : ∀ (Q : Exit → Act → World → Prop), (∀ w8, Same w7 w8 → N 178 [(0, .pointer (some ⟨t, 0, none⟩)), (2, .string s), (4, .pointer (some ⟨q, 0, none⟩)), (9, .pointer (some ⟨qk, 0, none⟩)), (10, (fy.map fun y => mkP y.b).getD (.pointer none)), (39, .bool false)] w8 Q .normal) → True := fun _ _ => trivial
  clear step5
  -- too long
  by_cases hbig : 2000 < s.size ∨ 2000 - (s.size : Int) < i.off
  · rw [if_pos hbig]
    refine W.cutS (fun _ _ => False) ?_ (fun _ _ h => h.elim)
    refine W.block ?_
    refine W.cutS (fun w' g => Same w7 w' ∧ g = [(0, .pointer (some ⟨t, 0, none⟩)), (2, .string s), (4, .pointer (some ⟨q, 0, none⟩)), (9, .pointer (some ⟨qk, 0, none⟩)), (39, .bool false)]) ?_ ?_
    · obtain ⟨c1, c2, c4, c6, c7, c8⟩ := hP.ib.cls
      have k1 : Kn (s.toList == (⟨#[]⟩ : ByteArray).toList) false := .of (isEmpty_of hs0)
      have k2 : Kn (decide (i.off < 0)) false := .no (by omega)
      cases hmo : i.more with
      | false =>
        rw [hmo] at c2
        apply W.readN LO mixed [0, 2, 4, 9, 39] (by kernel_rfl)
        · repeat' (first | rfl | with_reducible assumption | assumption | constructor)
        intro w8 f8 s8 hf8
        replace hf8 : f8 = [(0, _), (2, _), (4, _), (9, _), (39, _)] := hf8
        subst hf8
        exact N.cut ⟨s8, rfl⟩ (sub_keys rfl)
      | true =>
        rw [hmo] at c2
        have k3 : Kn ((s.size : Int).tmod 8) 0 := .of (by
          rw [Int.tmod_eq_emod_of_nonneg (by omega)]
          by_cases e : s.size % 8 = 0
          · omega
          · exact absurd (.inr (.inl ⟨hmo, e⟩)) hbad)
        have k4 : Kn ((0 : Int) != 0) false := .of rfl
        apply W.readN LO mixed [0, 2, 4, 9, 39] (by kernel_rfl)
        · repeat' (first | rfl | with_reducible assumption | assumption | constructor)
        intro w8 f8 s8 hf8
        replace hf8 : f8 = [(0, _), (2, _), (4, _), (9, _), (39, _)] := hf8
        subst hf8
        exact N.cut ⟨s8, rfl⟩ (sub_keys rfl)
    rintro w8 _ ⟨s8, rfl⟩
    have hP := hP.same s8
    refine W.cond (b := false) rfl (fun h => by cases h) (fun _ => ?_)
    refine W.cutS (fun w' g => Same w8 w' ∧ g = [(0, .pointer (some ⟨t, 0, none⟩)), (9, .pointer (some ⟨qk, 0, none⟩)), (57, .bool true)]) ?_ ?_
    · obtain ⟨c1, c2, c4, c6, c7, c8⟩ := hP.ib.cls
      by_cases h1 : 2000 < s.size
      · have k1 : Kn (decide (2000 < (s.size : Int))) true := .yes (by omega)
        apply W.readN LO mixed [0, 9, 57] (by kernel_rfl)
        · repeat' (first | rfl | with_reducible assumption | assumption | constructor)
        intro w9 f9 s9 hf9
        replace hf9 : f9 = [(0, _), (9, _), (57, _)] := hf9
        subst hf9
        exact N.cut ⟨s9, rfl⟩ (sub_keys rfl)
      · have k1 : Kn (decide (2000 < (s.size : Int))) false := .no (by omega)
        have k2 : Kn (IntKind.i64.wrap (2000 - (s.size : Int))) (2000 - (s.size : Int)) := .of (IntWalk.i64_in _ (by omega))
        have k3 : Kn (decide (2000 - (s.size : Int) < i.off)) true := .yes (by omega)
        apply W.readN LO mixed [0, 9, 57] (by kernel_rfl)
        · repeat' (first | rfl | with_reducible assumption | assumption | constructor)
        intro w9 f9 s9 hf9
        replace hf9 : f9 = [(0, _), (9, _), (57, _)] := hf9
        subst hf9
        exact N.cut ⟨s9, rfl⟩ (sub_keys rfl)
    rintro w9 _ ⟨s9, rfl⟩
    have hP := hP.same s9
    refine W.cond (b := true) rfl (fun _ => ?_) (fun h => by cases h)
    refine W.seq ?_
    obtain ⟨c0, c1, c2⟩ := hP.at_.blk.cls
    have hcells := hP.kb.cells
    apply W.tailK LO mixed [72, 73] 5 (by kernel_rfl)
    · repeat' (first | rfl | with_reducible assumption | assumption | constructor)
    intro w10 f10 s10 hf10
    replace hf10 : f10 = [(72, _), (73, _)] := hf10
    subst hf10
    have hP := hP.same s10
    refine Ls.mdelete rfl rfl rfl KMk Try.underlying49 hP.at_.map rfl i.key rfl hi.key ?_
    intro w11 hM11 m11
    have hP := hP.drop i.key m11 hM11
    refine Ls.nil (N.to ?_)
    apply W.readS LO mixed [6, 7, 8] (by kernel_rfl)
    · repeat' (first | rfl | with_reducible assumption | assumption | constructor)
    intro w12 f12 s12 hf12
    replace hf12 : f12 = [(6, _), (7, _), (8, _)] := hf12
    subst hf12
    exact W.ret (N.inbR (N.thenR ((hP.same s12).ret (by rw [filter_ke, hT]) rfl rfl rfl)))
  rw [if_neg hbig]
  have hsz : s.size ≤ 2000 := by
    rcases Nat.lt_or_ge 2000 s.size with e | e
    · exact absurd (.inl e) hbig
    · exact e
  have hoff : i.off + s.size ≤ 2000 := by
    rcases Int.lt_or_le (2000 - (s.size : Int)) i.off with e | e
    · exact absurd (.inr e) hbig
    · omega
  -- full
  have hlenT : T.length = L.length := by rw [hT, List.length_map]
  have fr7 : ∀ (v10 : Value), Fr := fun v10 => [(0, .pointer (some ⟨t, 0, none⟩)), (2, .string s), (4, .pointer (some ⟨q, 0, none⟩)), (9, .pointer (some ⟨qk, 0, none⟩)), (10, v10)]
  clear fr7
  by_cases hfull : T.lookup i.key = none ∧ most ≤ T.length
  · rw [if_pos hfull]
    have hfy0 : fy = none := by
      have := hfull.1
      rw [hlk] at this
      exact Option.map_eq_none_iff.1 this
    subst hfy0
    refine W.cutS (fun _ _ => False) ?_ (fun _ _ h => h.elim)
    refine W.block ?_
    refine W.cutS (fun w' g => Same w7 w' ∧ g = [(0, .pointer (some ⟨t, 0, none⟩)), (2, .string s), (4, .pointer (some ⟨q, 0, none⟩)), (9, .pointer (some ⟨qk, 0, none⟩)), (10, .pointer none), (39, .bool false)]) ?_ ?_
    · obtain ⟨c1, c2, c4, c6, c7, c8⟩ := hP.ib.cls
      have k1 : Kn (s.toList == (⟨#[]⟩ : ByteArray).toList) false := .of (isEmpty_of hs0)
      have k2 : Kn (decide (i.off < 0)) false := .no (by omega)
      cases hmo : i.more with
      | false =>
        rw [hmo] at c2
        apply W.readN LO mixed [0, 2, 4, 9, 10, 39] (by kernel_rfl)
        · repeat' (first | rfl | with_reducible assumption | assumption | constructor)
        intro w8 f8 s8 hf8
        replace hf8 : f8 = [(0, _), (2, _), (4, _), (9, _), (10, _), (39, _)] := hf8
        subst hf8
        exact N.cut ⟨s8, rfl⟩ (sub_keys rfl)
      | true =>
        rw [hmo] at c2
        have k3 : Kn ((s.size : Int).tmod 8) 0 := .of (by
          rw [Int.tmod_eq_emod_of_nonneg (by omega)]
          by_cases e : s.size % 8 = 0
          · omega
          · exact absurd (.inr (.inl ⟨hmo, e⟩)) hbad)
        have k4 : Kn ((0 : Int) != 0) false := .of rfl
        apply W.readN LO mixed [0, 2, 4, 9, 10, 39] (by kernel_rfl)
        · repeat' (first | rfl | with_reducible assumption | assumption | constructor)
        intro w8 f8 s8 hf8
        replace hf8 : f8 = [(0, _), (2, _), (4, _), (9, _), (10, _), (39, _)] := hf8
        subst hf8
        exact N.cut ⟨s8, rfl⟩ (sub_keys rfl)
    rintro w8 _ ⟨s8, rfl⟩
    have hP := hP.same s8
    refine W.cond (b := false) rfl (fun h => by cases h) (fun _ => ?_)
    obtain ⟨c1, c2, c4, c6, c7, c8⟩ := hP.ib.cls
    have k1 : Kn (decide (2000 < (s.size : Int))) false := .no (by omega)
    have k2 : Kn (IntKind.i64.wrap (2000 - (s.size : Int))) (2000 - (s.size : Int)) := .of (IntWalk.i64_in _ (by omega))
    have k3 : Kn (decide (2000 - (s.size : Int) < i.off)) false := .no (by omega)
    apply W.readS LO mixed [0, 2, 4, 9, 10, 57] (by kernel_rfl)
    · repeat' (first | rfl | with_reducible assumption | assumption | constructor)
    intro w9 f9 s9 hf9
    replace hf9 : f9 = [(0, _), (2, _), (4, _), (9, _), (10, _), (57, _)] := hf9
    subst hf9
    have hP := hP.same s9
    refine W.cond (b := false) rfl (fun h => by cases h) (fun _ => ?_)
    clear c1 c2 c4 c6 c7 c8
    obtain ⟨c0, c1, c2⟩ := hP.at_.blk.cls
    have hl := len_same (P := Try.prog) hP.at_.map Try.underlying49
    rw [List.length_map] at hl
    have k4 : Kn (decide (most ≤ (L.length : Int))) true := .yes (by omega)
    apply W.readS LO mixed [74] (by kernel_rfl)
    · repeat' (first | rfl | with_reducible assumption | assumption | constructor)
    intro w10 f10 s10 hf10
    replace hf10 : f10 = [(74, _)] := hf10
    subst hf10
    have hP := hP.same s10
    refine W.cond (b := true) rfl (fun _ => ?_) (fun h => by cases h)
    apply W.readS LO mixed [6, 7, 8] (by kernel_rfl)
    · repeat' (first | rfl | with_reducible assumption | assumption | constructor)
    intro w11 f11 s11 hf11
    replace hf11 : f11 = [(6, _), (7, _), (8, _)] := hf11
    subst hf11
    exact W.ret (N.inbR (N.thenR ((hP.same s11).ret hT.symm rfl rfl rfl)))
  rw [if_neg hfull]
  obtain ⟨E, hE⟩ : ∃ E, E = addE (T.lookup i.key) i s := ⟨_, rfl⟩
  rw [← hE]
  refine W.cutS (fun w' g => ∃ L1 y, APE t m most ticks L i q qk w w' L1 y ∧ g = [(0, .pointer (some ⟨t, 0, none⟩)), (2, .string s), (4, .pointer (some ⟨q, 0, none⟩)), (9, .pointer (some ⟨qk, 0, none⟩)), (10, .pointer (some ⟨y.b, 0, none⟩))]) ?_ ?_
  · refine W.block ?_
    refine W.cutS (fun w' g => Same w7 w' ∧ g = [(0, .pointer (some ⟨t, 0, none⟩)), (2, .string s), (4, .pointer (some ⟨q, 0, none⟩)), (9, .pointer (some ⟨qk, 0, none⟩)), (10, (fy.map fun y => mkP y.b).getD (.pointer none)), (39, .bool false)]) ?_ ?_
    · obtain ⟨c1, c2, c4, c6, c7, c8⟩ := hP.ib.cls
      have k1 : Kn (s.toList == (⟨#[]⟩ : ByteArray).toList) false := .of (isEmpty_of hs0)
      have k2 : Kn (decide (i.off < 0)) false := .no (by omega)
      cases hmo : i.more with
      | false =>
        rw [hmo] at c2
        apply W.readN LO mixed [0, 2, 4, 9, 10, 39] (by kernel_rfl)
        · repeat' (first | rfl | with_reducible assumption | assumption | constructor)
        intro w8 f8 s8 hf8
        replace hf8 : f8 = [(0, _), (2, _), (4, _), (9, _), (10, _), (39, _)] := hf8
        subst hf8
        exact N.cut ⟨s8, rfl⟩ (sub_keys rfl)
      | true =>
        rw [hmo] at c2
        have k3 : Kn ((s.size : Int).tmod 8) 0 := .of (by
          rw [Int.tmod_eq_emod_of_nonneg (by omega)]
          by_cases e : s.size % 8 = 0
          · omega
          · exact absurd (.inr (.inl ⟨hmo, e⟩)) hbad)
        have k4 : Kn ((0 : Int) != 0) false := .of rfl
        apply W.readN LO mixed [0, 2, 4, 9, 10, 39] (by kernel_rfl)
        · repeat' (first | rfl | with_reducible assumption | assumption | constructor)
        intro w8 f8 s8 hf8
        replace hf8 : f8 = [(0, _), (2, _), (4, _), (9, _), (10, _), (39, _)] := hf8
        subst hf8
        exact N.cut ⟨s8, rfl⟩ (sub_keys rfl)
    rintro w8 _ ⟨s8, rfl⟩
    have hP := hP.same s8
    refine W.cond (b := false) rfl (fun h => by cases h) (fun _ => ?_)
    obtain ⟨c1, c2, c4, c6, c7, c8⟩ := hP.ib.cls
    have k1 : Kn (decide (2000 < (s.size : Int))) false := .no (by omega)
    have k2 : Kn (IntKind.i64.wrap (2000 - (s.size : Int))) (2000 - (s.size : Int)) := .of (IntWalk.i64_in _ (by omega))
    have k3 : Kn (decide (2000 - (s.size : Int) < i.off)) false := .no (by omega)
    apply W.readS LO mixed [0, 2, 4, 9, 10, 57] (by kernel_rfl)
    · repeat' (first | rfl | with_reducible assumption | assumption | constructor)
    intro w9 f9 s9 hf9
    replace hf9 : f9 = [(0, _), (2, _), (4, _), (9, _), (10, _), (57, _)] := hf9
    subst hf9
    have hP := hP.same s9
    refine W.cond (b := false) rfl (fun h => by cases h) (fun _ => ?_)
    clear c1 c2 c4 c6 c7 c8 k1 k2 k3 s8 s9
    cases fy with
    | some y =>
      obtain ⟨hy, hyk⟩ := find_some hfy
      have hdone : ∀ w', AP t m most ticks L i q qk w w' L → APE t m most ticks L i q qk w w' L y := fun w' hP => by
        refine ⟨hP, hy, hyk, fun e => ?_, by rw [filter_ke], ?_⟩
        · rw [← hT, if_neg (by rw [hlk]; simp), hT, setE_ke_old, hyk]
        · rw [← hT, hlk]; rfl
      refine W.cutS (fun w' g => Same w9 w' ∧ g = [(0, .pointer (some ⟨t, 0, none⟩)), (2, .string s), (4, .pointer (some ⟨q, 0, none⟩)), (9, .pointer (some ⟨qk, 0, none⟩)), (10, .pointer (some ⟨y.b, 0, none⟩)), (74, .bool false)]) ?_ ?_
      ·
        apply W.readN LO mixed [0, 2, 4, 9, 10, 74] (by kernel_rfl)
        · repeat' (first | rfl | with_reducible assumption | assumption | constructor)
        intro w10 f10 s10 hf10
        replace hf10 : f10 = [(0, _), (2, _), (4, _), (9, _), (10, _), (74, _)] := hf10
        subst hf10
        exact N.cut ⟨s10, rfl⟩ (sub_keys rfl)
      rintro w10 _ ⟨s10, rfl⟩
      refine W.cond (b := false) rfl (fun h => by cases h) (fun _ => ?_)
      apply W.readS LO mixed [0, 2, 4, 9, 10, 89] (by kernel_rfl)
      · repeat' (first | rfl | with_reducible assumption | assumption | constructor)
      intro w11 f11 s11 hf11
      replace hf11 : f11 = [(0, _), (2, _), (4, _), (9, _), (10, _), (89, _)] := hf11
      subst hf11
      refine W.cond (b := false) rfl (fun h => by cases h) (fun _ => W.skip (N.inb ?_))
      exact N.cut ⟨L, y, hdone _ ((hP.same s10).same s11), rfl⟩ (sub_keys rfl)
    | none =>
      have hno := find_none hfy
      have hlkn : T.lookup i.key = none := by rw [hlk]; rfl
      have hroom : ¬ most ≤ (L.length : Int) := fun e => hfull ⟨hlkn, by omega⟩
      refine W.cutS (fun w' g => Same w9 w' ∧ g = [(0, .pointer (some ⟨t, 0, none⟩)), (2, .string s), (4, .pointer (some ⟨q, 0, none⟩)), (9, .pointer (some ⟨qk, 0, none⟩)), (10, .pointer none), (74, .bool false)]) ?_ ?_
      · obtain ⟨c0, c1, c2⟩ := hP.at_.blk.cls
        have hl := len_same (P := Try.prog) hP.at_.map Try.underlying49
        rw [List.length_map] at hl
        have k4 : Kn (decide (most ≤ (L.length : Int))) false := .no hroom
        apply W.readN LO mixed [0, 2, 4, 9, 10, 74] (by kernel_rfl)
        · repeat' (first | rfl | with_reducible assumption | assumption | constructor)
        intro w10 f10 s10 hf10
        replace hf10 : f10 = [(0, _), (2, _), (4, _), (9, _), (10, _), (74, _)] := hf10
        subst hf10
        exact N.cut ⟨s10, rfl⟩ (sub_keys rfl)
      rintro w10 _ ⟨s10, rfl⟩
      refine W.cond (b := false) rfl (fun h => by cases h) (fun _ => ?_)
      apply W.readS LO mixed [0, 2, 4, 9, 10, 89] (by kernel_rfl)
      · repeat' (first | rfl | with_reducible assumption | assumption | constructor)
      intro w11 f11 s11 hf11
      replace hf11 : f11 = [(0, _), (2, _), (4, _), (9, _), (10, _), (89, _)] := hf11
      subst hf11
      have hP := (hP.same s10).same s11
      refine W.cond (b := true) rfl (fun _ => ?_) (fun h => by cases h)
      refine W.seq (W.list ?_)
      refine Ls.mmake rfl rfl rfl rfl ?_
      have hM12 := ML.made (Value.int .i64) (Value.int .u8) okI w11
      have m12 : Mv (fun _ => False) w11 (w11.alloc (.map #[] 0)) := (Mv.refl _ w11).alloc _
      have z12 := size_alloc' w11 (.map #[] 0)
      generalize w11.alloc (.map #[] 0) = w12 at hM12 m12 z12
      obtain ⟨me, hme⟩ : ∃ me, me = w11.heap.size := ⟨_, rfl⟩
      rw [← hme] at hM12
      rw [← hme]
      apply Ls.runK LO [0, 2, 4, 9, 93] 1
      · repeat' (first | rfl | with_reducible assumption | assumption | constructor)
      intro w13 f13 s13 hf13
      replace hf13 : f13 = [(0, _), (2, _), (4, _), (9, _), (93, _)] := hf13
      subst hf13
      refine Ls.box rfl rfl rfl rfl rfl (vs := [.map (some me), .int .i64 0, .int .i64 0]) rfl ?_
      have hb14 := heap_alloc_new w13 (.cells [.map (some me), .int .i64 0, .int .i64 0].toArray 57)
      have m14 : Mv (fun _ => False) w13 (w13.alloc (.cells [.map (some me), .int .i64 0, .int .i64 0].toArray 57)) := (Mv.refl _ w13).alloc _
      generalize w13.alloc (.cells [.map (some me), .int .i64 0, .int .i64 0].toArray 57) = w14 at hb14 m14
      obtain ⟨b, hb⟩ : ∃ b, b = w13.heap.size := ⟨_, rfl⟩
      rw [← hb] at hb14
      rw [← hb]
      apply Ls.runK LO [0, 2, 4, 9, 10] 1
      · repeat' (first | rfl | with_reducible assumption | assumption | constructor)
      intro w15 f15 s15 hf15
      replace hf15 : f15 = [(0, _), (2, _), (4, _), (9, _), (10, _)] := hf15
      subst hf15
      refine Ls.nil (N.to ?_)
      have mv15 : Mv (fun _ => False) w11 w15 := ((m12.same s13).trans m14).same s15
      have hA15 := hP.at_.moved mv15 (fun _ _ e => e)
      have he15 : EAt w15 b me ⟨[], 0, 0⟩ := EAt.same ⟨hb14, (hM12.moved ((Mv.refl (fun _ => False) _).same s13) (fun e => e)).moved m14 (fun e => e)⟩ s15
      have hz13 : w13.heap.size = w12.heap.size := by rw [s13.heap]
      have hP15 : AP t m most ticks L i q qk w w15 L := hP.step hA15 (mv15.mono fun _ e => e.elim) fun k hk => .inl hk
      have hold : ∀ k, TB t m L k → k < w11.heap.size := hP.at_.lt
      obtain ⟨c0, c1, c2⟩ := hA15.blk.cls
      have hcells := hP15.kb.cells
      apply W.tailK LO mixed [0, 2, 4, 9, 10, 98, 99, 100] 6 (by kernel_rfl)
      · repeat' (first | rfl | with_reducible assumption | assumption | constructor)
      intro w16 f16 s16 hf16
      replace hf16 : f16 = [(0, _), (2, _), (4, _), (9, _), (10, _), (98, _), (99, _), (100, _)] := hf16
      subst hf16
      have hP16 := hP15.same s16
      have he16 := he15.same s16
      refine Ls.mstore rfl rfl rfl KMk Try.underlying49 hP16.at_.map rfl i.key rfl hi.key b rfl (by rw [lookup_kb, ← hfy]; rfl) ?_
      intro w17 hM17 m17
      have hmne : m < w11.heap.size := hP.at_.map.lt
      have he17 : EAt w17 b me ⟨[], 0, 0⟩ := he16.moved m17 (by omega) (by omega)
      have hA17 : TAt w17 t m most ticks (L ++ [⟨i.key, b, me, ⟨[], 0, 0⟩⟩]) := hP16.at_.new m17 hM17 he17 (.inr fun k hk e => by have := hold k hk; omega) (.inr fun k hk e => by have := hold k hk; omega)
      have hP17 : AP t m most ticks L i q qk w w17 (L ++ [⟨i.key, b, me, ⟨[], 0, 0⟩⟩]) := by
        have h1 : AP t m most ticks L i q qk w w16 L := hP16
        refine ⟨hA17, h1.mv.cut m17 fun k _ e => .inr (.inl e), fun k hk => ?_, h1.ib.moved m17 fun e => ?_, h1.kb.moved m17 fun e => ?_, h1.fq⟩
        · rcases hk with e | e | ⟨x, hx, e⟩
          · exact .inl (.inl e)
          · exact .inl (.inr (.inl e))
          · rcases List.mem_append.1 hx with hx | hx
            · exact .inl (.inr (.inr ⟨x, hx, e⟩))
            · obtain rfl := List.mem_singleton.1 hx
              have := hP.mv.size
              simp only at e
              right
              rcases e with e | e <;> omega
        · exact h1.at_.off h1.ib (by decide) (by decide) m (.inr (.inl rfl)) e.symm
        · exact h1.at_.off h1.kb (by decide) (by decide) m (.inr (.inl rfl)) e.symm
      refine Ls.nil (N.inb (N.cut ⟨L ++ [⟨i.key, b, me, ⟨[], 0, 0⟩⟩], ⟨i.key, b, me, ⟨[], 0, 0⟩⟩, ⟨hP17, by simp, rfl, fun e => ?_, ?_, ?_⟩, rfl⟩ (sub_keys rfl)))
      · rw [← hT, if_pos hlkn, hT, setE_ke_new L i.key b me _ e hno]
      · rw [List.filter_append, List.map_append, filter_ke]
        simp
      · rw [← hT, hlkn]; rfl
  rintro w8 _ ⟨L1, y, hQ, rfl⟩
  clear hfull hlk hfy hP fy
  have hy := hQ.my
  obtain ⟨e1, he1⟩ : ∃ e1, e1 = if i.more = false ∧ y.e.all = 0 then ({ y.e with all := i.off + s.size } : EV).trim else y.e := ⟨_, rfl⟩
  have hyall : 0 ≤ y.e.all ∧ y.e.all ≤ 2000 := by
    rw [hQ.ent, ← hT, hT, lookup_ke]
    cases hf : L.find? (fun z => z.key = i.key) with
    | none => exact ⟨Int.le_refl _, by show (0 : Int) ≤ 2000; omega⟩
    | some z => exact hall z (List.mem_of_find?_eq_some hf)
  have he1all : 0 ≤ e1.all ∧ e1.all ≤ 2000 := by
    rw [he1]
    split
    · exact ⟨by show 0 ≤ i.off + (s.size : Int); omega, hoff⟩
    · exact hyall
  have hEe : E = { e1 with bytes := insD e1.bytes i.off s.data.toList e1.all } := by
    rw [hE, he1]
    unfold addE
    have : ((T.lookup i.key).getD ⟨[], 0, 0⟩) = y.e := by rw [hQ.ent, ← hT]
    simp only [this]
  have hrel := hQ.rel
  have hfil := hQ.fil
  rw [← hT] at hrel hfil
  have hky := hQ.ky
  have hP : AP t m most ticks L i q qk w w8 (setE L1 y.key y.e) := by rw [setE_self hQ.ap.at_ hy]; exact hQ.ap
  clear hQ
  refine W.cutS (fun w' g => AP t m most ticks L i q qk w w' (setE L1 y.key e1) ∧ g = [(0, .pointer (some ⟨t, 0, none⟩)), (2, .string s), (4, .pointer (some ⟨q, 0, none⟩)), (9, .pointer (some ⟨qk, 0, none⟩)), (10, .pointer (some ⟨y.b, 0, none⟩))]) ?_ ?_
  · by_cases hset : i.more = false ∧ y.e.all = 0
    · rw [if_pos hset] at he1
      obtain ⟨c1, c2, c4, c6, c7, c8⟩ := hP.ib.cls
      obtain ⟨d0, d1, d2⟩ := (hP.ent hy).blk.cls
      rw [hset.1] at c2
      have k1 : Kn (y.e.all == 0) true := .of (by rw [hset.2]; rfl)
      apply W.readS LO mixed [0, 2, 4, 9, 10, 110] (by kernel_rfl)
      · repeat' (first | rfl | with_reducible assumption | assumption | constructor)
      intro w9 f9 s9 hf9
      replace hf9 : f9 = [(0, _), (2, _), (4, _), (9, _), (10, _), (110, _)] := hf9
      subst hf9
      have hP := hP.same s9
      refine W.cond (b := true) rfl (fun _ => ?_) (fun h => by cases h)
      refine W.seq (W.list ?_)
      clear c1 c2 c4 c6 c7 c8
      obtain ⟨c1, c2, c4, c6, c7, c8⟩ := hP.ib.cls
      have k2 : Kn (IntKind.i64.wrap (i.off + (s.size : Int))) (i.off + s.size) := .of (IntWalk.i64_in _ (by omega))
      apply Ls.runK LO [0, 2, 4, 9, 10, 118, 116] 8
      · repeat' (first | rfl | with_reducible assumption | assumption | constructor)
      intro w10 f10 s10 hf10
      replace hf10 : f10 = [(0, _), (2, _), (4, _), (9, _), (10, _), (118, _), (116, _)] := hf10
      subst hf10
      have hP := hP.same s10
      have he := hP.ent hy
      refine Ls.store LO rfl rfl rfl rfl rfl (vs := [.int .i64 (i.off + s.size)]) rfl rfl rfl he.blk rfl ?_
      intro w11 hb11 m11 _
      have he11 : EAt w11 y.b y.m { y.e with all := i.off + s.size } := ⟨hb11, he.map.moved m11 (Ne.symm he.ne)⟩
      have hP := hP.set hy (m11.mono fun k e => .inl e) he11
      refine Ls.nil (N.to (W.list ?_))
      apply Ls.runK LO [0, 2, 4, 9, 10, 119] 1
      · repeat' (first | rfl | with_reducible assumption | assumption | constructor)
      intro w12 f12 s12 hf12
      replace hf12 : f12 = [(0, _), (2, _), (4, _), (9, _), (10, _), (119, _)] := hf12
      subst hf12
      have hP := hP.same s12
      refine Ls.call LO rfl rfl rfl rfl rfl (vs := [.pointer (some ⟨y.b, 0, none⟩)]) rfl (trim_walk y.b y.m _ w12 (hP.ent hy)) ?_
      rintro _ w13 ⟨rfl, he13, m13⟩
      have hP := hP.set hy (m13.mono fun k e => .inr e) he13
      refine ⟨_, rfl, Ls.nil (N.cut ⟨?_, rfl⟩ (sub_keys rfl))⟩
      rw [he1]; exact hP
    · rw [if_neg hset] at he1
      rw [he1]
      refine W.cutS (fun w' g => Same w8 w' ∧ g = [(0, .pointer (some ⟨t, 0, none⟩)), (2, .string s), (4, .pointer (some ⟨q, 0, none⟩)), (9, .pointer (some ⟨qk, 0, none⟩)), (10, .pointer (some ⟨y.b, 0, none⟩)), (110, .bool false)]) ?_ ?_
      · obtain ⟨c1, c2, c4, c6, c7, c8⟩ := hP.ib.cls
        obtain ⟨d0, d1, d2⟩ := (hP.ent hy).blk.cls
        cases hmo : i.more with
        | true =>
          rw [hmo] at c2
          apply W.readN LO mixed [0, 2, 4, 9, 10, 110] (by kernel_rfl)
          · repeat' (first | rfl | with_reducible assumption | assumption | constructor)
          intro w9 f9 s9 hf9
          replace hf9 : f9 = [(0, _), (2, _), (4, _), (9, _), (10, _), (110, _)] := hf9
          subst hf9
          exact N.cut ⟨s9, rfl⟩ (sub_keys rfl)
        | false =>
          rw [hmo] at c2
          have k1 : Kn (y.e.all == 0) false := .of (by rw [beq_eq_false_iff_ne]; exact fun e => hset ⟨hmo, e⟩)
          apply W.readN LO mixed [0, 2, 4, 9, 10, 110] (by kernel_rfl)
          · repeat' (first | rfl | with_reducible assumption | assumption | constructor)
          intro w9 f9 s9 hf9
          replace hf9 : f9 = [(0, _), (2, _), (4, _), (9, _), (10, _), (110, _)] := hf9
          subst hf9
          exact N.cut ⟨s9, rfl⟩ (sub_keys rfl)
      rintro w9 _ ⟨s9, rfl⟩
      refine W.cond (b := false) rfl (fun h => by cases h) (fun _ => W.skip ?_)
      exact N.cut ⟨hP.same s9, rfl⟩ (sub_keys rfl)
  rintro w9 _ ⟨hP, rfl⟩
  clear he1 hyall hnp hbad hbig hE
  refine W.cutS (fun w' g => AP t m most ticks L i q qk w w' (setE L1 y.key E) ∧ g = [(0, .pointer (some ⟨t, 0, none⟩)), (9, .pointer (some ⟨qk, 0, none⟩)), (10, .pointer (some ⟨y.b, 0, none⟩))]) ?_ ?_
  ·
    apply W.readS LO mixed [0, 2, 4, 9, 10, 122, 123] (by kernel_rfl)
    · repeat' (first | rfl | with_reducible assumption | assumption | constructor)
    intro w10 f10 s10 hf10
    replace hf10 : f10 = [(0, _), (2, _), (4, _), (9, _), (10, _), (122, _), (123, _)] := hf10
    subst hf10
    refine W.block (W.loop (fun k w' g => ∃ (j : Nat) (bs : List (Int × Int)), k + j = s.size ∧ AP t m most ticks L i q qk w w' (setE L1 y.key { e1 with bytes := bs }) ∧ insD bs (i.off + j) (s.data.toList.drop j) e1.all = insD e1.bytes i.off s.data.toList e1.all ∧
      g = [(0, .pointer (some ⟨t, 0, none⟩)), (2, .string s), (4, .pointer (some ⟨q, 0, none⟩)), (9, .pointer (some ⟨qk, 0, none⟩)), (10, .pointer (some ⟨y.b, 0, none⟩)), (122, .int .i64 s.size), (123, .int .i64 j)]) s.size _ ⟨0, e1.bytes, rfl, hP.same s10, by simp, rfl⟩ (sub_keys rfl) ?_)
    clear hP s10
    rintro k w11 _ ⟨j, bs, hkj, hP, hins, rfl⟩
    by_cases hlt : j < s.size
    · have k1 : Kn (decide ((j : Int) < (s.size : Int))) true := .yes (by omega)
      apply W.readS LO mixed [0, 2, 4, 9, 10, 122, 123, 124] (by kernel_rfl)
      · repeat' (first | rfl | with_reducible assumption | assumption | constructor)
      intro w12 f12 s12 hf12
      replace hf12 : f12 = [(0, _), (2, _), (4, _), (9, _), (10, _), (122, _), (123, _), (124, _)] := hf12
      subst hf12
      have hP := hP.same s12
      refine W.seq (W.cond (b := true) rfl (fun _ => W.skip (N.to ?_)) (fun h => by cases h))
      obtain ⟨c, hc, hbt, hdrop⟩ := idx_byte hlt
      rw [hdrop] at hins
      simp only [insD] at hins
      refine W.cutS (fun w' g => (∃ bs', AP t m most ticks L i q qk w w' (setE L1 y.key { e1 with bytes := bs' }) ∧ insD bs' (i.off + (j + 1 : Nat)) (s.data.toList.drop (j + 1)) e1.all = insD e1.bytes i.off s.data.toList e1.all) ∧ g = [(0, .pointer (some ⟨t, 0, none⟩)), (2, .string s), (4, .pointer (some ⟨q, 0, none⟩)), (9, .pointer (some ⟨qk, 0, none⟩)), (10, .pointer (some ⟨y.b, 0, none⟩)), (122, .int .i64 s.size), (123, .int .i64 j)]) ?_ ?_
      · refine W.block ?_
        apply W.readS LO mixed [0, 2, 4, 9, 10, 11, 122, 123] (by kernel_rfl)
        · repeat' (first | rfl | with_reducible assumption | assumption | constructor)
        intro w13 f13 s13 hf13
        replace hf13 : f13 = [(0, _), (2, _), (4, _), (9, _), (10, _), (11, _), (122, _), (123, _)] := hf13
        subst hf13
        have hP := hP.same s13
        obtain ⟨at_, hat⟩ : ∃ at_, at_ = i.off + (j : Int) := ⟨_, rfl⟩
        have k2 : Kn (IntKind.i64.wrap (i.off + (j : Int))) at_ := .of (by rw [hat]; exact IntWalk.i64_in _ (by omega))
        obtain ⟨c1, c2, c4, c6, c7, c8⟩ := hP.ib.cls
        apply W.readS LO mixed [0, 2, 4, 9, 10, 11, 12, 122, 123] (by kernel_rfl)
        · repeat' (first | rfl | with_reducible assumption | assumption | constructor)
        intro w14 f14 s14 hf14
        replace hf14 : f14 = [(0, _), (2, _), (4, _), (9, _), (10, _), (11, _), (12, _), (122, _), (123, _)] := hf14
        subst hf14
        have hP := hP.same s14
        clear c1 c2 c4 c6 c7 c8
        have hoka : okI at_ := okI_mk (by omega) (by omega)
        obtain ⟨lk, hlk⟩ : ∃ lk, lk = bs.lookup at_ := ⟨_, rfl⟩
        refine W.cutS (fun w' g => AP t m most ticks L i q qk w w' (setE L1 y.key { e1 with bytes := bs }) ∧ g = [(0, .pointer (some ⟨t, 0, none⟩)), (2, .string s), (4, .pointer (some ⟨q, 0, none⟩)), (9, .pointer (some ⟨qk, 0, none⟩)), (10, .pointer (some ⟨y.b, 0, none⟩)), (11, .int .i64 j), (12, .int .i64 at_), (14, .bool lk.isSome), (122, .int .i64 s.size), (123, .int .i64 j)]) ?_ ?_
        · have he := hP.ent hy
          obtain ⟨d0, d1, d2⟩ := he.blk.cls
          have hl := look_same (P := Try.prog) he.map KMi Try.underlying55 zero_u8 at_ hoka lk hlk.symm
          apply W.readN LO mixed [0, 2, 4, 9, 10, 11, 12, 14, 122, 123] (by kernel_rfl)
          · repeat' (first | rfl | with_reducible assumption | assumption | constructor)
          intro w15 f15 s15 hf15
          replace hf15 : f15 = [(0, _), (2, _), (4, _), (9, _), (10, _), (11, _), (12, _), (14, _), (122, _), (123, _)] := hf15
          subst hf15
          exact N.cut ⟨hP.same s15, rfl⟩ (sub_keys rfl)
        rintro w15 _ ⟨hP, rfl⟩
        rw [← hat, ← hlk] at hins
        by_cases hlay : lk = none ∧ (e1.all = 0 ∨ at_ < e1.all)
        · rw [if_pos hlay] at hins
          refine W.cutS (fun w' g => Same w15 w' ∧ g = [(0, .pointer (some ⟨t, 0, none⟩)), (2, .string s), (4, .pointer (some ⟨q, 0, none⟩)), (9, .pointer (some ⟨qk, 0, none⟩)), (10, .pointer (some ⟨y.b, 0, none⟩)), (11, .int .i64 j), (12, .int .i64 at_), (122, .int .i64 s.size), (123, .int .i64 j), (155, .bool true)]) ?_ ?_
          · have he := hP.ent hy
            obtain ⟨d0, d1, d2⟩ := he.blk.cls
            rw [hlay.1]
            by_cases ha0 : e1.all = 0
            · have k3 : Kn (e1.all == 0) true := .of (by rw [ha0]; rfl)
              apply W.readN LO mixed [0, 2, 4, 9, 10, 11, 12, 122, 123, 155] (by kernel_rfl)
              · repeat' (first | rfl | with_reducible assumption | assumption | constructor)
              intro w16 f16 s16 hf16
              replace hf16 : f16 = [(0, _), (2, _), (4, _), (9, _), (10, _), (11, _), (12, _), (122, _), (123, _), (155, _)] := hf16
              subst hf16
              exact N.cut ⟨s16, rfl⟩ (sub_keys rfl)
            · have k3 : Kn (e1.all == 0) false := .of (by rw [beq_eq_false_iff_ne]; exact ha0)
              have k4 : Kn (decide (at_ < e1.all)) true := .yes (by omega)
              apply W.readN LO mixed [0, 2, 4, 9, 10, 11, 12, 122, 123, 155] (by kernel_rfl)
              · repeat' (first | rfl | with_reducible assumption | assumption | constructor)
              intro w16 f16 s16 hf16
              replace hf16 : f16 = [(0, _), (2, _), (4, _), (9, _), (10, _), (11, _), (12, _), (122, _), (123, _), (155, _)] := hf16
              subst hf16
              exact N.cut ⟨s16, rfl⟩ (sub_keys rfl)
          rintro w16 _ ⟨s16, rfl⟩
          have hP := hP.same s16
          refine W.cond (b := true) rfl (fun _ => ?_) (fun h => by cases h)
          have he := hP.ent hy
          obtain ⟨d0, d1, d2⟩ := he.blk.cls
          have i0 : (0 : Int) ≤ (j : Int) := by omega
          have i1 : (j : Int) < (s.size : Int) := by omega
          apply W.tailK LO mixed [0, 2, 4, 9, 10, 122, 123, 159, 160, 163] 8 (by kernel_rfl)
          · repeat' (first | rfl | with_reducible assumption | assumption | constructor)
          intro w17 f17 s17 hf17
          replace hf17 : f17 = [(0, _), (2, _), (4, _), (9, _), (10, _), (122, _), (123, _), (159, _), (160, _), (163, _)] := hf17
          rw [hbt] at hf17
          subst hf17
          have hP := hP.same s17
          have he := hP.ent hy
          refine Ls.mstore rfl rfl rfl KMi Try.underlying55 he.map rfl at_ rfl hoka (c.toNat : Int) rfl (by show bs.lookup at_ = none; rw [← hlk]; exact hlay.1) ?_
          intro w18 hM18 m18
          have he18 : EAt w18 y.b y.m { e1 with bytes := bs ++ [(at_, (c.toNat : Int))] } := ⟨he.blk.moved m18 he.ne, hM18⟩
          have hP := hP.set hy (m18.mono fun k e => .inr e) he18
          refine Ls.nil (N.inb (N.cut ⟨⟨_, hP, ?_⟩, rfl⟩ (sub_keys rfl)))
          rw [← hins, hat]
          congr 1
          omega
        · rw [if_neg hlay] at hins
          refine W.cutS (fun w' g => Same w15 w' ∧ g = [(0, .pointer (some ⟨t, 0, none⟩)), (2, .string s), (4, .pointer (some ⟨q, 0, none⟩)), (9, .pointer (some ⟨qk, 0, none⟩)), (10, .pointer (some ⟨y.b, 0, none⟩)), (122, .int .i64 s.size), (123, .int .i64 j), (155, .bool false)]) ?_ ?_
          · have he := hP.ent hy
            obtain ⟨d0, d1, d2⟩ := he.blk.cls
            cases lk with
            | some v =>
              apply W.readN LO mixed [0, 2, 4, 9, 10, 122, 123, 155] (by kernel_rfl)
              · repeat' (first | rfl | with_reducible assumption | assumption | constructor)
              intro w16 f16 s16 hf16
              replace hf16 : f16 = [(0, _), (2, _), (4, _), (9, _), (10, _), (122, _), (123, _), (155, _)] := hf16
              subst hf16
              exact N.cut ⟨s16, rfl⟩ (sub_keys rfl)
            | none =>
              have ha0 : ¬ e1.all = 0 := fun e => hlay ⟨rfl, .inl e⟩
              have k3 : Kn (e1.all == 0) false := .of (by rw [beq_eq_false_iff_ne]; exact ha0)
              have k4 : Kn (decide (at_ < e1.all)) false := .no fun e => hlay ⟨rfl, .inr e⟩
              apply W.readN LO mixed [0, 2, 4, 9, 10, 122, 123, 155] (by kernel_rfl)
              · repeat' (first | rfl | with_reducible assumption | assumption | constructor)
              intro w16 f16 s16 hf16
              replace hf16 : f16 = [(0, _), (2, _), (4, _), (9, _), (10, _), (122, _), (123, _), (155, _)] := hf16
              subst hf16
              exact N.cut ⟨s16, rfl⟩ (sub_keys rfl)
          rintro w16 _ ⟨s16, rfl⟩
          refine W.cond (b := false) rfl (fun h => by cases h) (fun _ => W.skip ?_)
          refine N.inb (N.cut ⟨⟨bs, hP.same s16, ?_⟩, rfl⟩ (sub_keys rfl))
          rw [← hins, hat]
          congr 1
          omega
      · rintro w13 _ ⟨⟨bs', hP', hins'⟩, rfl⟩
        have k5 : Kn (IntKind.i64.wrap ((j : Int) + 1)) ((j + 1 : Nat) : Int) := .of (IntWalk.i64_in _ (by omega))
        apply W.readN LO mixed [0, 2, 4, 9, 10, 122, 123] (by kernel_rfl)
        · repeat' (first | rfl | with_reducible assumption | assumption | constructor)
        intro w14 f14 s14 hf14
        replace hf14 : f14 = [(0, _), (2, _), (4, _), (9, _), (10, _), (122, _), (123, _)] := hf14
        subst hf14
        exact N.round (k - 1) _ (by omega) ⟨j + 1, bs', by omega, hP'.same s14, hins', rfl⟩ (sub_keys rfl)
    · have k1 : Kn (decide ((j : Int) < (s.size : Int))) false := .no (by omega)
      apply W.readS LO mixed [0, 9, 10, 124] (by kernel_rfl)
      · repeat' (first | rfl | with_reducible assumption | assumption | constructor)
      intro w12 f12 s12 hf12
      replace hf12 : f12 = [(0, _), (9, _), (10, _), (124, _)] := hf12
      subst hf12
      refine W.seq (W.cond (b := false) rfl (fun h => by cases h) (fun _ => W.exit ?_))
      have hd : s.data.toList.drop j = [] := List.drop_eq_nil_iff.2 (by rw [bytes_len]; omega)
      rw [hd] at hins
      simp only [insD] at hins
      refine N.thenE (N.thenE (N.out (N.cut ⟨?_, rfl⟩ (sub_keys rfl))))
      rw [hEe, ← hins]
      exact hP.same s12
  rintro w10 _ ⟨hP, rfl⟩
  have hEall : 0 ≤ E.all ∧ E.all ≤ 100000 := by rw [hEe]; exact ⟨he1all.1, by have := he1all.2; show e1.all ≤ _; omega⟩
  clear hEe he1all
  -- is it whole
  generalize hR3 : (match E.whole with
    | some x => (T.filter (fun p => p.1 != i.key), x, true, (0 : Int))
    | none => (if T.lookup i.key = none then T ++ [(i.key, E)] else T.map (fun p => if p.1 = i.key then (p.1, E) else p), ⟨#[]⟩, false, (0 : Int)) : List (KeyV × EV) × ByteArray × Bool × Int) = R3
  refine W.cutS (fun w' g => ∃ L' x b, AP t m most ticks L i q qk w w' L' ∧ R3 = (L'.map ke, x, b, 0) ∧ g = [(6, .string x), (7, .bool b)]) ?_ ?_
  · refine W.seq (W.list ?_)
    apply Ls.runK LO [0, 9, 166] 1
    · repeat' (first | rfl | with_reducible assumption | assumption | constructor)
    intro w11 f11 s11 hf11
    replace hf11 : f11 = [(0, _), (9, _), (166, _)] := hf11
    subst hf11
    have hP := hP.same s11
    refine Ls.call LO rfl rfl rfl rfl rfl (vs := [.pointer (some ⟨y.b, 0, none⟩)]) rfl (whole_walk y.b y.m E w11 (hP.ent hy) hEall) ?_
    rintro _ w12 ⟨rfl, m12⟩
    have hP : AP t m most ticks L i q qk w w12 (setE L1 y.key E) := hP.step (hP.at_.moved m12 fun _ _ e => e) (m12.mono fun _ e => e.elim) fun k hk => .inl hk
    refine ⟨_, rfl, ?_⟩
    obtain ⟨ow, how⟩ : ∃ ow, ow = E.whole := ⟨_, rfl⟩
    rw [← how] at hR3
    rw [← how]
    apply Ls.runK LO [0, 6, 7, 9] 5
    · repeat' (first | rfl | with_reducible assumption | assumption | constructor)
    intro w13 f13 s13 hf13
    replace hf13 : f13 = [(0, _), (6, _), (7, _), (9, _)] := hf13
    subst hf13
    refine Ls.nil (N.to ?_)
    have hP := hP.same s13
    apply W.readS LO mixed [0, 6, 7, 9, 170] (by kernel_rfl)
    · repeat' (first | rfl | with_reducible assumption | assumption | constructor)
    intro w14 f14 s14 hf14
    replace hf14 : f14 = [(0, _), (6, _), (7, _), (9, _), (170, _)] := hf14
    subst hf14
    have hP := hP.same s14
    cases ow with
    | some x =>
      refine W.cond (b := true) rfl (fun _ => ?_) (fun h => by cases h)
      obtain ⟨c0, c1, c2⟩ := hP.at_.blk.cls
      have hcells := hP.kb.cells
      apply W.tailK LO mixed [6, 7, 174, 175] 5 (by kernel_rfl)
      · repeat' (first | rfl | with_reducible assumption | assumption | constructor)
      intro w15 f15 s15 hf15
      replace hf15 : f15 = [(6, _), (7, _), (174, _), (175, _)] := hf15
      subst hf15
      have hP := hP.same s15
      refine Ls.mdelete rfl rfl rfl KMk Try.underlying49 hP.at_.map rfl i.key rfl hi.key ?_
      intro w16 hM16 m16
      have hP := hP.drop i.key m16 hM16
      rw [hky, setE_filter] at hP
      refine Ls.nil (N.cut ⟨_, x, true, hP, ?_, rfl⟩ (sub_keys rfl))
      rw [hfil, ← hR3]
    | none =>
      refine W.cond (b := false) rfl (fun h => by cases h) (fun _ => W.skip ?_)
      refine N.cut ⟨_, ⟨#[]⟩, false, hP, ?_, rfl⟩ (sub_keys rfl)
      rw [hrel E, ← hR3]
  rintro w15 _ ⟨L', x, b, hP, hr, rfl⟩
  have hr' := hR3.trans hr
  apply W.readS LO mixed [6, 7, 8] (by kernel_rfl)
  · repeat' (first | rfl | with_reducible assumption | assumption | constructor)
  intro w16 f16 s16 hf16
  replace hf16 : f16 = [(6, _), (7, _), (8, _)] := hf16
  subst hf16
  refine W.ret ?_
  have := (hP.same s16).ret (T := L'.map ke) (x := x) (b := b) (n := 0) (f := [(6, .string x), (7, .bool b), (8, .int .i64 0)]) rfl rfl rfl rfl
  rw [← hr] at this
  exact this
end Go.Proofs.Ytnghmaejmfhigaa
