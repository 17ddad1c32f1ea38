/- What is proved: a table of parts: its small functions. Conditions: those that stand in each theorem. -/
import Derived.Test.YtnghmaejmfhigaaDefBase
import Derived.Great.Walk
namespace Go.Proofs.Ytnghmaejmfhigaa
set_option linter.unusedVariables false
set_option linter.unusedSimpArgs false
set_option linter.unusedSectionVars false
open Go.RowKit Go.Maps Go.MapKept Go.ChangeMaps Fw
theorem post0 {n : Nat} {f : Fr} {w : World} {fn : Func} {R : Ending → World → Prop} (hr : fn.results = #[]) (h : R (.returned (.tuple #[])) w) : N n f w (bodyPost Try.prog fn R) .normal := fun a hf => Go.Great.bodyPost_end0 hr hf.nodefer h
theorem entry_same {P : Program} {r : Nat} {v : Value} {w w' : World} (h : (Instr.entry (.pointer (some ⟨r, 0, none⟩))).run P w = .ok v w) (s : w'.heap = w.heap) : (Instr.entry (.pointer (some ⟨r, 0, none⟩))).run P w' = .ok v w' := by
  simp only [Instr.entry, getObj, Sem.run_bind, Sem.run] at h ⊢
  rw [s]
  cases hr : w.heap[r]? with
  | none => rw [hr] at h; simp [Result.andThen] at h
  | some o =>
    rw [hr] at h
    cases o with
    | mapIter m since seen stepped =>
      cases m with
      | none => simp [Result.andThen] at h
      | some m =>
        simp only [Result.andThen] at h ⊢
        cases hs : seen.back? with
        | none => rw [hs] at h; simp at h
        | some stamp =>
          rw [hs] at h
          simp only [Sem.run_bind, Sem.run, Result.andThen] at h ⊢
          rw [s]
          cases hm : w.heap[m]? with
          | none => rw [hm] at h; simp at h
          | some o =>
            rw [hm] at h
            cases o with
            | map es clock =>
              simp only [bne_iff_ne, ne_eq] at h ⊢
              by_cases hc : clock = stepped
              · simp only [hc, not_true_eq_false, if_false] at h ⊢
                cases hf : es.find? (·.born == stamp) with
                | none => rw [hf] at h; simp at h
                | some e =>
                  rw [hf] at h
                  simp only [Sem.run_pure, Result.ok.injEq, and_true] at h ⊢
                  exact h
              · simp [hc] at h
            | _ => simp at h
    | _ => simp [Result.andThen] at h
theorem size_nums (xs : List Int) : (strOfNums xs).size = xs.length := by
  unfold strOfNums
  show (Array.size _) = _
  simp
theorem info_u8 : (Try.prog.info? 5).map (fun i => (i.zero, i.size, i.bytes)) = some (some (.int .u8 0), 1, 1) := by kernel_rfl
theorem info_sl8 : Try.prog.underlying 36 = some (.slice 5) := by kernel_rfl
theorem und_u8 : Try.prog.underlying 5 = some (.int .u8) := by kernel_rfl
theorem und_str : Try.prog.underlying 9 = some .string := by kernel_rfl
theorem size_alloc' (w : World) (o : Obj) : (w.alloc o).heap.size = w.heap.size + 1 := Array.size_push _
theorem cut_says (v m : Int) (w : World) : Calls Try.prog 20 #[.int .i64 v, .int .i64 m] w (Says w (.int .i64 (max 1 (min v m)))) := by
  refine calls_W (n := 9) (vs := [.int .i64 v, .int .i64 m]) Try.func20 rfl rfl rfl ?_
  apply W.readS LO mixed [0, 1] (by kernel_rfl)
  · repeat' (first | rfl | with_reducible assumption | assumption | constructor)
  intro w1 f1 s1 hf1
  replace hf1 : f1 = [(0, _), (1, _)] := hf1
  subst hf1
  have k1 : Kn (if m < v then m else v) (min v m) := .of (by split <;> omega)
  have k2 : Kn (if min v m > 1 then min v m else 1) (max 1 (min v m)) := .of (by split <;> omega)
  apply W.readS LO mixed [4] (by kernel_rfl)
  · repeat' (first | rfl | with_reducible assumption | assumption | constructor)
  intro w2 f2 s2 hf2
  replace hf2 : f2 = [(4, _)] := hf2
  subst hf2
  exact W.ret (post LO (rs := [.tmp 4]) rfl (vs := [.int .i64 _]) (.tmp rfl .nil) ⟨rfl, s1.trans s2⟩)
def NewPost (most ticks : Int) (w : World) (e : Ending) (w' : World) : Prop :=
  ∃ t m, e = .returned (.pointer (some ⟨t, 0, none⟩)) ∧ TAt w' t m (max 1 (min most 32)) (max 1 (min ticks 100000)) [] ∧ w.heap.size ≤ t ∧ w.heap.size ≤ m ∧ Mv (fun _ => False) w w'
theorem new_walk (most ticks : Int) (w : World) : Calls Try.prog 8 #[.int .i64 most, .int .i64 ticks] w (NewPost most ticks w) := by
  refine calls_W (n := 12) (vs := [.int .i64 most, .int .i64 ticks]) Try.func8 rfl rfl rfl ?_
  apply W.readS LO mixed [0, 1] (by kernel_rfl)
  · repeat' (first | rfl | with_reducible assumption | assumption | constructor)
  intro w1 f1 s1 hf1
  replace hf1 : f1 = [(0, _), (1, _)] := hf1
  subst hf1
  have q1 := quiet_of (w := w1) fun w' _ => cut_says most 32 w'
  have q2 := quiet_of (w := w1) fun w' _ => cut_says ticks 100000 w'
  refine W.seq (W.list ?_)
  apply Ls.runK LO [6, 8] 4
  · repeat' (first | rfl | with_reducible assumption | assumption | constructor)
  intro w2 f2 s2 hf2
  replace hf2 : f2 = [(6, _), (8, _)] := hf2
  subst hf2
  refine Ls.mmake rfl rfl rfl rfl ?_
  have hM := ML.made mkK mkP okK w2
  have z3 := size_alloc' w2 (.map #[] 0)
  have m3 : Mv (fun _ => False) w2 (w2.alloc (.map #[] 0)) := (Mv.refl _ w2).alloc _
  generalize w2.alloc (.map #[] 0) = w3 at hM z3 m3
  apply Ls.runK LO [10] 1
  · repeat' (first | rfl | with_reducible assumption | assumption | constructor)
  intro w4 f4 s4 hf4
  replace hf4 : f4 = [(10, _)] := hf4
  subst hf4
  refine Ls.box rfl rfl rfl rfl rfl (vs := [.int .i64 (max 1 (min most 32)), .int .i64 (max 1 (min ticks 100000)), .map (some w2.heap.size)]) rfl ?_
  have hb5 := heap_alloc_new w4 (.cells [.int .i64 (max 1 (min most 32)), .int .i64 (max 1 (min ticks 100000)), .map (some w2.heap.size)].toArray 51)
  have m5 : Mv (fun _ => False) w4 (w4.alloc (.cells [.int .i64 (max 1 (min most 32)), .int .i64 (max 1 (min ticks 100000)), .map (some w2.heap.size)].toArray 51)) := (Mv.refl _ w4).alloc _
  generalize w4.alloc (.cells [.int .i64 (max 1 (min most 32)), .int .i64 (max 1 (min ticks 100000)), .map (some w2.heap.size)].toArray 51) = w5 at hb5 m5
  apply Ls.runK LO [4] 1
  · repeat' (first | rfl | with_reducible assumption | assumption | constructor)
  intro w6 f6 s6 hf6
  replace hf6 : f6 = [(4, _)] := hf6
  subst hf6
  have hz2 : w.heap.size = w2.heap.size := by rw [s2.heap, s1.heap]
  have hz4 : w4.heap.size = w3.heap.size := by rw [s4.heap]
  refine Ls.nil (N.to (W.ret (post LO (rs := [.tmp 4]) rfl (vs := [.pointer (some ⟨w4.heap.size, 0, none⟩)]) (.tmp rfl .nil) ⟨w4.heap.size, w2.heap.size, rfl, TAt.same ⟨hb5, ?_, fun x hx => (by cases hx), .nil, .nil, fun x hx => (by cases hx)⟩ s6, by omega, by omega, ?_⟩)))
  · exact (hM.moved ((Mv.refl (fun _ => False) _).same s4) (fun e => e)).moved m5 (fun e => e)
  · exact ((((((Mv.refl _ w).same s1).same s2).trans m3).same s4).trans m5).same s6
theorem len_says (t m : Nat) (most ticks : Int) (L : List Ent) (w : World) (h : TAt w t m most ticks L) : Calls Try.prog 11 #[.pointer (some ⟨t, 0, none⟩)] w (Says w (.int .i64 L.length)) := by
  refine calls_W (n := 8) (vs := [.pointer (some ⟨t, 0, none⟩)]) Try.func11 rfl rfl rfl ?_
  apply W.readS LO mixed [0] (by kernel_rfl)
  · repeat' (first | rfl | with_reducible assumption | assumption | constructor)
  intro w1 f1 s1 hf1
  replace hf1 : f1 = [(0, _)] := hf1
  subst hf1
  obtain ⟨c0, c1, c2⟩ := (h.same s1).blk.cls
  have hl := len_same (P := Try.prog) (h.same s1).map Try.underlying49
  rw [List.length_map] at hl
  apply W.readS LO mixed [2] (by kernel_rfl)
  · repeat' (first | rfl | with_reducible assumption | assumption | constructor)
  intro w2 f2 s2 hf2
  replace hf2 : f2 = [(2, _)] := hf2
  subst hf2
  exact W.ret (post LO (rs := [.tmp 2]) rfl (vs := [.int .i64 L.length]) (.tmp rfl .nil) ⟨rfl, s1.trans s2⟩)
theorem flush_walk (t m : Nat) (most ticks : Int) (L : List Ent) (w : World) (h : TAt w t m most ticks L) : Calls Try.prog 17 #[.pointer (some ⟨t, 0, none⟩)] w fun e w' => e = .returned (.tuple #[]) ∧ TAt w' t m most ticks [] ∧ Mv (· = m) w w' := by
  refine calls_W (n := 6) (vs := [.pointer (some ⟨t, 0, none⟩)]) Try.func17 rfl rfl rfl ?_
  obtain ⟨c0, c1, c2⟩ := h.blk.cls
  refine W.list ?_
  apply Ls.runK LO [5] 4
  · repeat' (first | rfl | with_reducible assumption | assumption | constructor)
  intro w1 f1 s1 hf1
  replace hf1 : f1 = [(5, _)] := hf1
  subst hf1
  have h := h.same s1
  refine Ls.mclear rfl rfl rfl Try.underlying49 h.map rfl ?_
  intro w2 hM hm
  exact Ls.nil (post0 rfl ⟨rfl, ⟨h.blk.moved hm h.tm, hM, fun x hx => (by cases hx), .nil, .nil, fun x hx => (by cases hx)⟩, (((Mv.refl _ w).same s1).trans hm)⟩)
theorem filter_shorter {α : Type} {l : List α} {p : α → Bool} {x : α} (hx : x ∈ l) (hp : p x = false) : (l.filter p).length < l.length := by
  induction l with
  | nil => cases hx
  | cons y r ih =>
    rw [List.filter_cons]
    have := List.length_filter_le p r
    rcases List.mem_cons.1 hx with rfl | hx
    · rw [hp, if_neg Bool.false_ne_true, List.length_cons]; omega
    · have := ih hx
      split <;> simp only [List.length_cons] <;> omega
theorem ml_ok {K V : Type} {mk : K → Value} {mv : V → Value} {ok : K → Prop} {w : World} {b : Nat} {l : List (K × V)} (h : ML mk mv ok w b l) {p : K × V} (hp : p ∈ l) : ok p.1 := by
  obtain ⟨_, _, _, _, _, h⟩ := h
  exact h p hp
/-! ### trim -/
def EV.trim (e : EV) : EV := { e with bytes := e.bytes.filter fun q => decide (q.1 < e.all) }
def TrimPost (b m : Nat) (e : EV) (w : World) (en : Ending) (w' : World) : Prop := en = .returned (.tuple #[]) ∧ EAt w' b m e.trim ∧ Mv (· = m) w w'
theorem trim_keep (l left : List (Int × Int)) (all x : Int) (hx : x < all) : l.filter (fun q => decide (q.1 < all) || left.any (fun z => z.1 == q.1)) = l.filter (fun q => decide (q.1 < all) || (left.filter (fun q => q.1 != x)).any (fun z => z.1 == q.1)) := by
  apply List.filter_congr
  intro q _
  by_cases h : q.1 < all
  · rw [decide_eq_true h]; rfl
  · rw [decide_eq_false h, Bool.false_or, Bool.false_or, Bool.eq_iff_iff, List.any_eq_true, List.any_eq_true]
    constructor
    · rintro ⟨z, hz, he⟩
      have he : z.1 = q.1 := by simpa using he
      exact ⟨z, List.mem_filter.2 ⟨hz, by simp only [bne_iff_ne, ne_eq]; omega⟩, by simpa using he⟩
    · rintro ⟨z, hz, he⟩
      exact ⟨z, (List.mem_filter.1 hz).1, he⟩
theorem trim_drop (l left : List (Int × Int)) (all x : Int) (hx : ¬ x < all) : (l.filter (fun q => decide (q.1 < all) || left.any (fun z => z.1 == q.1))).filter (fun q => q.1 != x) = l.filter (fun q => decide (q.1 < all) || (left.filter (fun q => q.1 != x)).any (fun z => z.1 == q.1)) := by
  rw [List.filter_filter]
  apply List.filter_congr
  intro q _
  by_cases h : q.1 < all
  · have : q.1 ≠ x := by omega
    rw [decide_eq_true h]
    simp [this]
  · rw [decide_eq_false h, Bool.false_or, Bool.false_or, Bool.eq_iff_iff, Bool.and_eq_true, List.any_eq_true, List.any_eq_true]
    constructor
    · rintro ⟨hne, z, hz, he⟩
      have he : z.1 = q.1 := by simpa using he
      have hne : q.1 ≠ x := by simpa using hne
      exact ⟨z, List.mem_filter.2 ⟨hz, by simp only [bne_iff_ne, ne_eq]; omega⟩, by simpa using he⟩
    · rintro ⟨z, hz, he⟩
      have he' : z.1 = q.1 := by simpa using he
      have hz2 := (List.mem_filter.1 hz).2
      simp only [bne_iff_ne, ne_eq] at hz2
      exact ⟨by simp only [bne_iff_ne, ne_eq]; omega, z, (List.mem_filter.1 hz).1, he⟩
set_option maxRecDepth 100000 in
set_option maxHeartbeats 2000000 in
theorem trim_walk (b m : Nat) (e : EV) (w : World) (h : EAt w b m e) : Calls Try.prog 21 #[.pointer (some ⟨b, 0, none⟩)] w (TrimPost b m e w) := by
  refine calls_W (n := 23) (vs := [.pointer (some ⟨b, 0, none⟩)]) Try.func21 rfl rfl rfl ?_
  obtain ⟨c0, c1, c2⟩ := h.blk.cls
  refine W.seq (W.list ?_)
  apply Ls.runK LO [0, 6] 4
  · repeat' (first | rfl | with_reducible assumption | assumption | constructor)
  intro w1 f1 s1 hf1
  replace hf1 : f1 = [(0, _), (6, _)] := hf1
  subst hf1
  have h1 := h.same s1
  refine Ls.mrange rfl rfl rfl rfl Try.underlying55 h1.map rfl ?_
  intro w2 hI hz hm2
  obtain ⟨r, hr⟩ : ∃ r, r = w1.heap.size := ⟨_, rfl⟩
  rw [← hr] at hI
  rw [← hr]
  have hrw : w.heap.size ≤ r := by rw [hr, s1.heap]; exact Nat.le_refl _
  have hbr : b < r := by rw [hr]; exact h1.blk.lt
  have hmr : m < r := by rw [hr]; exact h1.map.lt
  have hbm := h.ne
  refine Ls.nil (N.to ?_)
  refine W.block (W.loop (fun k w' g => ∃ left cur, left.length = k ∧ MI (.int .i64) (.int .u8) okI w' r m cur left ∧ cur = e.bytes.filter (fun q => decide (q.1 < e.all) || left.any (fun z => z.1 == q.1)) ∧ EBlk w' b m e ∧ Mv (· = m) w w' ∧ g = [(0, .pointer (some ⟨b, 0, none⟩)), (7, .pointer (some ⟨r, 0, none⟩))]) e.bytes.length _ ⟨e.bytes, e.bytes, rfl, hI, ?_, h1.blk.moved hm2 (fun e => e), (((Mv.refl _ w).same s1).cut hm2 fun _ _ e => e.elim), rfl⟩ (sub_keys rfl) ?_)
  · rw [List.filter_eq_self.2]
    intro q hq
    rw [Bool.or_eq_true]
    right
    exact List.any_eq_true.2 ⟨q, hq, by simp⟩
  clear hI hm2 hz hr h1 s1 c0 c1 c2
  rintro k w3 _ ⟨left, cur, hk, hI, hcur, hE, hm3, rfl⟩
  refine W.seq (W.list ?_)
  refine Ls.mnext rfl rfl rfl rfl KMi hI rfl ?_ ?_
  · rintro rfl
    apply Ls.runK LO [0, 7, 9] 1
    · repeat' (first | rfl | with_reducible assumption | assumption | constructor)
    intro w4 f4 s4 hf4
    replace hf4 : f4 = [(0, _), (7, _), (9, _)] := hf4
    subst hf4
    refine Ls.nil (N.to (W.seq (W.cond (b := false) rfl (fun h => by cases h) (fun _ => W.exit ?_))))
    refine N.thenE (N.thenE (N.out (post0 rfl ⟨rfl, ⟨EBlk.moved hE ((Mv.refl (fun _ => False) _).same s4) (fun e => e), ?_⟩, hm3.same s4⟩)))
    have hM := hI.ml
    have : cur = e.trim.bytes := by rw [hcur]; unfold EV.trim; simp
    rw [this] at hM
    exact hM.moved ((Mv.refl (fun _ => False) _).same s4) (fun e => e)
  · intro x v w4 hx hx2 hI4 hm4 hz4 hen
    apply Ls.runK LO [0, 7, 9] 1
    · repeat' (first | rfl | with_reducible assumption | assumption | constructor)
    intro w5 f5 s5 hf5
    replace hf5 : f5 = [(0, _), (7, _), (9, _)] := hf5
    subst hf5
    refine Ls.nil (N.to (W.seq (W.cond (b := true) rfl (fun _ => W.skip (N.to ?_)) (fun h => by cases h))))
    have hE5 : EBlk w5 b m e := (hE.moved hm4 (by omega)).moved ((Mv.refl (fun _ => False) _).same s5) (fun e => e)
    have hI5 : MI (.int .i64) (.int .u8) okI w5 r m cur (left.filter (fun q => q.1 != x)) := hI4.moved ((Mv.refl (fun _ => False) _).same s5) (fun e => e) (fun e => e)
    have hm5 : Mv (· = m) w w5 := (hm3.cut hm4 fun i hi e => by omega).same s5
    have hlen : (left.filter (fun q => q.1 != x)).length < k := by rw [← hk]; exact filter_shorter hx (by simp)
    have hokx : okI x := ml_ok hI4.ml hx2
    refine W.block ?_
    refine W.seq (W.list ?_)
    refine Ls.mentry rfl rfl rfl rfl rfl (entry_same hen s5.heap) ?_
    apply Ls.runK LO [0, 2, 7] 2
    · repeat' (first | rfl | with_reducible assumption | assumption | constructor)
    intro w6 f6 s6 hf6
    replace hf6 : f6 = [(0, _), (2, _), (7, _)] := hf6
    subst hf6
    refine Ls.nil (N.to ?_)
    have hE6 : EBlk w6 b m e := hE5.moved ((Mv.refl (fun _ => False) _).same s6) (fun e => e)
    obtain ⟨c0, c1, c2⟩ := hE6.cls
    by_cases hlt : x < e.all
    · have k1 : Kn (decide (e.all ≤ x)) false := .no (by omega)
      apply W.readS LO mixed [0, 7, 17] (by kernel_rfl)
      · repeat' (first | rfl | with_reducible assumption | assumption | constructor)
      intro w7 f7 s7 hf7
      replace hf7 : f7 = [(0, _), (7, _), (17, _)] := hf7
      subst hf7
      refine W.cond (b := false) rfl (fun h => by cases h) (fun _ => W.skip (N.inb ?_))
      refine N.round _ _ hlen ⟨_, cur, rfl, (hI5.moved ((Mv.refl (fun _ => False) _).same s6) (fun e => e) (fun e => e)).moved ((Mv.refl (fun _ => False) _).same s7) (fun e => e) (fun e => e), ?_, hE6.moved ((Mv.refl (fun _ => False) _).same s7) (fun e => e), (hm5.same s6).same s7, rfl⟩ (sub_keys rfl)
      rw [hcur]; exact trim_keep _ _ _ _ hlt
    · have k1 : Kn (decide (e.all ≤ x)) true := .yes (by omega)
      apply W.readS LO mixed [0, 2, 7, 17] (by kernel_rfl)
      · repeat' (first | rfl | with_reducible assumption | assumption | constructor)
      intro w7 f7 s7 hf7
      replace hf7 : f7 = [(0, _), (2, _), (7, _), (17, _)] := hf7
      subst hf7
      refine W.cond (b := true) rfl (fun _ => W.list ?_) (fun h => by cases h)
      have hE7 : EBlk w7 b m e := hE6.moved ((Mv.refl (fun _ => False) _).same s7) (fun e => e)
      clear c0 c1 c2
      obtain ⟨c0, c1, c2⟩ := hE7.cls
      apply Ls.runK LO [0, 7, 21, 22] 5
      · repeat' (first | rfl | with_reducible assumption | assumption | constructor)
      intro w8 f8 s8 hf8
      replace hf8 : f8 = [(0, _), (7, _), (21, _), (22, _)] := hf8
      subst hf8
      have hI8 := ((hI5.moved ((Mv.refl (fun _ => False) _).same s6) (fun e => e) (fun e => e)).moved ((Mv.refl (fun _ => False) _).same s7) (fun e => e) (fun e => e)).moved ((Mv.refl (fun _ => False) _).same s8) (fun e => e) (fun e => e)
      refine Ls.mdeleteI rfl rfl rfl KMi Try.underlying55 hI8 rfl x rfl hokx ?_
      intro w9 hI9 hm9
      refine Ls.nil (N.inb (N.round _ _ hlen ⟨left.filter (fun q => q.1 != x), cur.filter (fun q => q.1 != x), rfl, ?_, ?_, (hE7.moved ((Mv.refl (fun _ => False) _).same s8) (fun e => e)).moved hm9 hbm, (((hm5.same s6).same s7).same s8).trans hm9, rfl⟩ (sub_keys rfl)))
      · rw [List.filter_filter] at hI9
        simpa using hI9
      · rw [hcur]; exact trim_drop _ _ _ _ hlt
end Go.Proofs.Ytnghmaejmfhigaa
