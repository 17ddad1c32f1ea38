/- What is proved: how many bytes lie there; ticks and bytes of a table told by its list. Conditions: those that stand in each theorem. -/
import Derived.Test.YtnghmaejmfhigaaDefTick
import Derived.Test.YtnghmaejmfhigaaDefAwake
namespace Go.Proofs.Ytnghmaejmfhigaa
set_option linter.unusedVariables false
set_option linter.unusedSimpArgs false
set_option linter.unusedSectionVars false
open Go.RowKit Go.Maps Go.MapKept Go.ChangeMaps Fw
theorem sum_out (f : KeyV × Nat → Nat) (x : KeyV) (v : Nat) : ∀ (l : List (KeyV × Nat)), (l.map (·.1)).Nodup → (x, v) ∈ l → (l.map f).sum = f (x, v) + ((l.filter fun p => p.1 != x).map f).sum
  | [], _, h => by cases h
  | p :: r, hn, h => by
    rw [List.map_cons, List.nodup_cons] at hn
    by_cases hp : p.1 = x
    · have hr : r.filter (fun p => p.1 != x) = r := List.filter_eq_self.2 fun q hq => by
        simp only [bne_iff_ne, ne_eq]
        intro e
        exact hn.1 (List.mem_map.2 ⟨q, hq, by rw [e, hp]⟩)
      have hpe : p = (x, v) := by
        rcases List.mem_cons.1 h with e | e
        · exact e.symm
        · exact absurd (List.mem_map.2 ⟨_, e, hp.symm⟩) hn.1
      rw [List.filter_cons, if_neg (by simp [hp]), hr, List.map_cons, List.sum_cons, hpe]
    · rw [List.filter_cons, if_pos (by simp [hp]), List.map_cons, List.sum_cons, List.map_cons, List.sum_cons]
      rcases List.mem_cons.1 h with e | e
      · exact absurd (by rw [← e]) hp
      · rw [sum_out f x v r hn.2 e]; omega
def sumB (T : List (KeyV × EV)) : Nat := (T.map fun p => p.2.bytes.length).sum
def szB (L : List Ent) (p : KeyV × Nat) : Nat := match L.find? (fun z => z.key = p.1) with | some z => z.e.bytes.length | none => 0
theorem szB_at {L : List Ent} (hn : (L.map (·.key)).Nodup) {y : Ent} (hy : y ∈ L) (v : Nat) : szB L (y.key, v) = y.e.bytes.length := by
  unfold szB
  cases hf : L.find? (fun z => z.key = y.key) with
  | none =>
    have := List.find?_eq_none.1 hf y hy
    simp at this
  | some z =>
    obtain ⟨h1, h2⟩ := find_some hf.symm
    rw [inj_of_pw (f := fun x : Ent => x.key) (l := L) (List.pairwise_map.1 hn) z h1 y hy h2]
set_option maxRecDepth 100000 in
set_option maxHeartbeats 2000000 in
theorem bytes_walk (t m : Nat) (most ticks : Int) (L : List Ent) (w : World) (h : TAt w t m most ticks L) (hb : sumB (L.map ke) ≤ 1000000000000) :
    Calls Try.prog 13 #[.pointer (some ⟨t, 0, none⟩)] w fun e w' => e = .returned (.int .i64 (sumB (L.map ke))) ∧ Mv (fun _ => False) w w' := by
  refine calls_W (n := 23) (vs := [.pointer (some ⟨t, 0, none⟩)]) Try.func13 rfl rfl rfl ?_
  apply W.readS LO mixed [0] (by kernel_rfl)
  · repeat' (first | rfl | with_reducible assumption | assumption | constructor)
  intro w1 f1 s1 hf1
  replace hf1 : f1 = [(0, _)] := hf1
  subst hf1
  apply W.readS LO mixed [0, 3] (by kernel_rfl)
  · repeat' (first | rfl | with_reducible assumption | assumption | constructor)
  intro w2 f2 s2 hf2
  replace hf2 : f2 = [(0, _), (3, _)] := hf2
  subst hf2
  have h2 := (h.same s1).same s2
  have mv2 : Mv (fun _ => False) w w2 := ((Mv.refl _ w).same s1).same s2
  have z2 : w2.heap.size = w.heap.size := by rw [s2.heap, s1.heap]
  clear s1 s2
  refine W.cutS (fun w' g => Mv (fun _ => False) w w' ∧ g = [(3, .int .i64 (sumB (L.map ke)))]) ?_ ?_
  · refine W.seq (W.list ?_)
    obtain ⟨c0, c1, c2⟩ := h2.blk.cls
    apply Ls.runK LO [3, 9] 4
    · repeat' (first | rfl | with_reducible assumption | assumption | constructor)
    intro w3 f3 s3 hf3
    replace hf3 : f3 = [(3, _), (9, _)] := hf3
    subst hf3
    have h3 := h2.same s3
    refine Ls.mrange rfl rfl rfl rfl Try.underlying49 h3.map rfl ?_
    intro w4 hI hz hm4
    obtain ⟨r, hr⟩ : ∃ r, r = w3.heap.size := ⟨_, rfl⟩
    rw [← hr] at hI
    rw [← hr]
    have hr3 : r = w.heap.size := by rw [hr, s3.heap]; exact z2
    refine Ls.nil (N.to ?_)
    have h4 := h3.moved hm4 (fun _ _ e => e)
    have mv4 : Mv (fun _ => False) w w4 := (mv2.same s3).trans hm4
    have hkn : ((L.map fun x => (x.key, x.b)).map (·.1)).Nodup := by rw [List.map_map]; exact h.keys
    have hsum : ((L.map fun x => (x.key, x.b)).map (szB L)).sum = sumB (L.map ke) := by
      unfold sumB
      rw [List.map_map, List.map_map]
      congr 1
      apply List.map_congr_left
      intro y hy
      exact szB_at h.keys hy y.b
    refine W.block (W.loop (fun k w' g => ∃ (left : List (KeyV × Nat)) (acc : Nat), left.length = k ∧ MI mkK mkP okK w' r m (L.map fun x => (x.key, x.b)) left ∧ (left.map (·.1)).Nodup ∧ acc + (left.map (szB L)).sum = sumB (L.map ke) ∧ TAt w' t m most ticks L ∧ Mv (fun _ => False) w w' ∧
      g = [(3, .int .i64 acc), (10, .pointer (some ⟨r, 0, none⟩))]) L.length [(3, .int .i64 0), (10, .pointer (some ⟨r, 0, none⟩))] ⟨L.map fun x => (x.key, x.b), 0, List.length_map .., hI, hkn, by rw [hsum, Nat.zero_add], h4, mv4, rfl⟩ (sub_keys rfl) ?_)
    clear hI hz hm4 h4 mv4 h3 s3 h2 mv2 z2 c0 c1 c2 hsum hkn hr
    rintro k w5 _ ⟨left, acc, hk, hI, hnd, hacc, hA, hmv, rfl⟩
    refine W.seq (W.list ?_)
    refine Ls.mnext rfl rfl rfl rfl KMk hI rfl ?_ ?_
    · rintro rfl
      apply Ls.runK LO [3, 12] 1
      · repeat' (first | rfl | with_reducible assumption | assumption | constructor)
      intro w6 f6 s6 hf6
      replace hf6 : f6 = [(3, _), (12, _)] := hf6
      subst hf6
      refine Ls.nil (N.to (W.seq (W.cond (b := false) rfl (fun h => by cases h) (fun _ => W.exit ?_))))
      have : acc = sumB (L.map ke) := by simpa using hacc
      rw [this]
      exact N.thenE (N.thenE (N.out (N.cut ⟨hmv.same s6, rfl⟩ (sub_keys rfl))))
    · intro x vb w6 hx hx2 hI6 hm6 hz6 hen
      apply Ls.runK LO [3, 10, 12] 1
      · repeat' (first | rfl | with_reducible assumption | assumption | constructor)
      intro w7 f7 s7 hf7
      replace hf7 : f7 = [(3, _), (10, _), (12, _)] := hf7
      subst hf7
      refine Ls.nil (N.to (W.seq (W.cond (b := true) rfl (fun _ => W.skip (N.to ?_)) (fun h => by cases h))))
      have hold : ∀ k, TB t m L k → k < r := fun k hk => by rw [hr3]; exact h.lt k hk
      have hA7 : TAt w7 t m most ticks L := (hA.moved hm6 fun k hk e => by have := hold k hk; omega).same s7
      have hI7 := hI6.moved ((Mv.refl (fun _ => False) _).same s7) (fun e => e) (fun e => e)
      have hmv7 : Mv (fun _ => False) w w7 := (hmv.cut hm6 fun i hi e => by omega).same s7
      have hshort : (left.filter (fun q => q.1 != x)).length < k := by rw [← hk]; exact filter_shorter hx (by simp)
      obtain ⟨y, hy, hyx⟩ := List.mem_map.1 hx2
      simp only [Prod.mk.injEq] at hyx
      obtain ⟨hyk, hyb⟩ := hyx
      have hs := sum_out (szB L) x vb left hnd hx
      have hsy : szB L (x, vb) = y.e.bytes.length := by rw [← hyk]; exact szB_at h.keys hy vb
      refine W.block ?_
      refine W.seq (W.list ?_)
      refine Ls.mentry rfl rfl rfl rfl rfl (entry_same hen s7.heap) ?_
      rw [show mkP vb = .pointer (some ⟨y.b, 0, none⟩) by rw [← hyb]; rfl]
      apply Ls.runK LO [3, 5, 10] 2
      · repeat' (first | rfl | with_reducible assumption | assumption | constructor)
      intro w8 f8 s8 hf8
      replace hf8 : f8 = [(3, _), (5, _), (10, _)] := hf8
      subst hf8
      refine Ls.nil (N.to ?_)
      have hA8 := hA7.same s8
      have hI8 := hI7.moved ((Mv.refl (fun _ => False) _).same s8) (fun e => e) (fun e => e)
      have he := hA8.ent y hy
      obtain ⟨d0, d1, d2⟩ := he.blk.cls
      have hl := len_same (P := Try.prog) he.map Try.underlying55
      have k5 : Kn (IntKind.i64.wrap ((acc : Int) + (y.e.bytes.length : Int))) ((acc + y.e.bytes.length : Nat) : Int) := .of ((IntWalk.i64_in _ (by omega)).trans (by omega))
      apply W.readN LO mixed [3, 10] (by kernel_rfl)
      · repeat' (first | rfl | with_reducible assumption | assumption | constructor)
      intro w9 f9 s9 hf9
      replace hf9 : f9 = [(3, _), (10, _)] := hf9
      subst hf9
      exact N.inb (N.round _ _ hshort ⟨left.filter (fun q => q.1 != x), acc + y.e.bytes.length, rfl, hI8.moved ((Mv.refl (fun _ => False) _).same s9) (fun e => e) (fun e => e), hnd.sublist (List.filter_sublist.map _), by omega, hA8.same s9, (hmv7.same s8).same s9, rfl⟩ (sub_keys rfl))
  rintro w3 _ ⟨hmv, rfl⟩
  apply W.readS LO mixed [2] (by kernel_rfl)
  · repeat' (first | rfl | with_reducible assumption | assumption | constructor)
  intro w4 f4 s4 hf4
  replace hf4 : f4 = [(2, _)] := hf4
  subst hf4
  exact W.ret (post LO (rs := [.tmp 2]) rfl (vs := [.int .i64 _]) (.tmp rfl .nil) ⟨rfl, hmv.same s4⟩)
theorem ts_bytes (w0 w : World) (t : Nat) (most ticks : Int) (T : List (KeyV × EV)) (h : TS w0 w t most ticks T) (hb : sumB T ≤ 1000000000000) :
    Calls Try.prog 13 #[.pointer (some ⟨t, 0, none⟩)] w fun e w' => e = .returned (.int .i64 (sumB T)) ∧ TS w0 w' t most ticks T ∧ Mv (fun _ => False) w w' := by
  have h' := h
  obtain ⟨m, L, hA, hT, hm, hf⟩ := h
  subst hT
  exact (bytes_walk t m most ticks L w hA hb).mono fun e w' ⟨he, hmv⟩ => ⟨he, h'.non hmv, hmv⟩
def ageB (T : List (KeyV × EV)) : Bool := T.all fun p => decide (0 ≤ p.2.age) && decide (p.2.age ≤ 1000000000)
theorem ts_tick (w0 w : World) (t : Nat) (most ticks n : Int) (T : List (KeyV × EV)) (h : TS w0 w t most ticks T) (hlen : T.length ≤ 1000000) (hage : ageB T = true) :
    Calls Try.prog 14 #[.pointer (some ⟨t, 0, none⟩), .int .i64 n] w fun e w' => e = .returned (.int .i64 ((T.length : Int) - (TVtick ticks (max 0 (min n 100000)) T).length)) ∧ TS w0 w' t most ticks (TVtick ticks (max 0 (min n 100000)) T) := by
  obtain ⟨m, L, hA, hT, hm, hf⟩ := h
  subst hT
  rw [List.length_map] at hlen ⊢
  refine (tick_walk t m most ticks L n w hA hlen fun x hx => ?_).mono fun e w' ⟨L', he, hA', hL', hmv, hown⟩ => ⟨he, m, L', hA', hL', hm.cut hmv fun k hk e => by have := hf k e; omega, fun k hk => hf k (hown k hk)⟩
  have := List.all_eq_true.1 hage (ke x) (List.mem_map_of_mem hx)
  simp only [Bool.and_eq_true, decide_eq_true_eq] at this
  exact this
theorem ts_flush (w0 w : World) (t : Nat) (most ticks : Int) (T : List (KeyV × EV)) (h : TS w0 w t most ticks T) :
    Calls Try.prog 17 #[.pointer (some ⟨t, 0, none⟩)] w fun e w' => e = .returned (.tuple #[]) ∧ TS w0 w' t most ticks [] := by
  obtain ⟨m, L, hA, hT, hm, hf⟩ := h
  refine (flush_walk t m most ticks L w hA).mono fun e w' ⟨he, hA', hmv⟩ => ⟨he, m, [], hA', rfl, hm.cut hmv fun k hk e => by have := hf m (.inr (.inl rfl)); omega, fun k hk => ?_⟩
  rcases hk with e | e | ⟨x, hx, _⟩
  · exact hf k (.inl e)
  · exact hf k (.inr (.inl e))
  · cases hx
end Go.Proofs.Ytnghmaejmfhigaa
