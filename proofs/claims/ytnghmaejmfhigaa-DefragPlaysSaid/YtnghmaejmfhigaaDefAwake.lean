/- What is proved: a table as its list of entries; the document's example. Conditions: those that stand in each theorem. -/
import Derived.Test.YtnghmaejmfhigaaDefAdd2
namespace Go.Proofs.Ytnghmaejmfhigaa
set_option linter.unusedVariables false
set_option linter.unusedSimpArgs false
set_option linter.unusedSectionVars false
open Go.RowKit Go.Maps Go.MapKept Go.ChangeMaps Fw
/-- A table that was made behind w0, told by its list. -/
def TS (w0 w : World) (t : Nat) (most ticks : Int) (T : List (KeyV × EV)) : Prop := ∃ m L, TAt w t m most ticks L ∧ L.map ke = T ∧ Mv (fun _ => False) w0 w ∧ ∀ k, TB t m L k → w0.heap.size ≤ k
theorem TS.mv {w0 w : World} {t : Nat} {most ticks : Int} {T : List (KeyV × EV)} (h : TS w0 w t most ticks T) : Mv (fun _ => False) w0 w := by
  obtain ⟨_, _, _, _, h, _⟩ := h
  exact h
theorem TS.same {w0 w w' : World} {t : Nat} {most ticks : Int} {T : List (KeyV × EV)} (h : TS w0 w t most ticks T) (s : Same w w') : TS w0 w' t most ticks T := by
  obtain ⟨m, L, hA, hT, hm, hf⟩ := h
  exact ⟨m, L, hA.same s, hT, hm.same s, hf⟩
theorem TS.moved {S : Nat → Prop} {w0 w w' : World} {t : Nat} {most ticks : Int} {T : List (KeyV × EV)} (h : TS w0 w t most ticks T) (mv : Mv S w w') (hs : ∀ k, S k → w.heap.size ≤ k) : TS w0 w' t most ticks T := by
  obtain ⟨m, L, hA, hT, hm, hf⟩ := h
  exact ⟨m, L, hA.moved mv (fun k hk e => by have := hA.lt k hk; have := hs k e; omega), hT, hm.cut mv (fun k hk e => by have := hs k e; have := hm.size; omega), hf⟩
theorem TS.non {w0 w w' : World} {t : Nat} {most ticks : Int} {T : List (KeyV × EV)} (h : TS w0 w t most ticks T) (mv : Mv (fun _ => False) w w') : TS w0 w' t most ticks T := h.moved mv fun _ e => e.elim
/-- A block of another kind that is changed leaves it alone. -/
theorem TS.beside {w0 w w' : World} {t r Ty : Nat} {most ticks : Int} {T : List (KeyV × EV)} {cs : Array Value} (h : TS w0 w t most ticks T) (mv : Mv (· = r) w w') (hr : w.heap[r]? = some (.cells cs Ty (0, 0))) (h1 : Ty ≠ 51) (h2 : Ty ≠ 57) (hw : w0.heap.size ≤ r) : TS w0 w' t most ticks T := by
  obtain ⟨m, L, hA, hT, hm, hf⟩ := h
  exact ⟨m, L, hA.moved mv (fun k hk e => hA.off hr h1 h2 k hk e), hT, hm.cut mv (fun k hk e => by omega), hf⟩
def allB (T : List (KeyV × EV)) : Bool := T.all fun p => decide (0 ≤ p.2.all) && decide (p.2.all ≤ 2000)
theorem ts_new (w0 w : World) (most ticks : Int) (hm0 : Mv (fun _ => False) w0 w) : Calls Try.prog 8 #[.int .i64 most, .int .i64 ticks] w fun e w' => ∃ t, e = .returned (.pointer (some ⟨t, 0, none⟩)) ∧ TS w0 w' t (max 1 (min most 32)) (max 1 (min ticks 100000)) [] :=
  (new_walk most ticks w).mono fun e w' ⟨t, m, he, hA, ht, hm, hmv⟩ => ⟨t, he, m, [], hA, rfl, hm0.trans hmv, fun k hk => by
    have := hm0.size
    rcases hk with e | e | ⟨x, hx, _⟩
    · omega
    · omega
    · cases hx⟩
theorem ts_add (w0 w : World) (t : Nat) (most ticks : Int) (T : List (KeyV × EV)) (i : IPV) (s : ByteArray) (h : TS w0 w t most ticks T) (hi : IPok i) (hs : s.size ≤ 1000000000) (hall : allB T = true) :
    Calls Try.prog 9 #[.pointer (some ⟨t, 0, none⟩), .agg (ipVs i).toArray, .string s] w fun e w' => e = .returned (.tuple #[.string (TVadd most T i s).2.1, .bool (TVadd most T i s).2.2.1, .int .i64 (TVadd most T i s).2.2.2]) ∧ TS w0 w' t most ticks (TVadd most T i s).1 := by
  obtain ⟨m, L, hA, hT, hm, hf⟩ := h
  subst hT
  refine (add_walk t m most ticks L i s w hA hi hs fun x hx => ?_).mono fun e w' ⟨L', he, hA', hL', hmv, hown⟩ => ⟨he, m, L', hA', hL', hm.cut hmv fun k hk e => by have := hf k e; omega, fun k hk => ?_⟩
  · have := List.all_eq_true.1 hall (ke x) (List.mem_map_of_mem hx)
    simp only [Bool.and_eq_true, decide_eq_true_eq] at this
    exact this
  · rcases hown k hk with h1 | h1
    · exact hf k h1
    · have := hm.size; omega
theorem ts_len (w0 w : World) (t : Nat) (most ticks : Int) (T : List (KeyV × EV)) (h : TS w0 w t most ticks T) : Calls Try.prog 11 #[.pointer (some ⟨t, 0, none⟩)] w (Says w (.int .i64 T.length)) := by
  obtain ⟨m, L, hA, hT, _⟩ := h
  have := len_says t m most ticks L w hA
  rw [← hT, List.length_map]
  exact this
def Yes (w : World) (e : Ending) (w' : World) : Prop := e = .returned (.bool true) ∧ Mv (fun _ => False) w w'
theorem ipok (i : IPV) (h1 : (Lit.int .u32 i.src).wf = true) (h2 : (Lit.int .u32 i.dst).wf = true) (h3 : (Lit.int .i64 i.proto).wf = true) (h4 : (Lit.int .i64 i.id).wf = true) (h5 : -9223372036854775808 ≤ i.off ∧ i.off ≤ 9223372036854775807) : IPok i := ⟨⟨h1, h2, h3, h4⟩, h5⟩
def iw1 : IPV := ⟨0, 0, false, false, 8, 0, 0, 0, 0, ⟨#[]⟩⟩
def iw2 : IPV := ⟨0, 0, true, false, 0, 0, 0, 0, 0, ⟨#[]⟩⟩
def sw1 : ByteArray := ⟨#[119, 111, 114, 108, 100]⟩
def sw2 : ByteArray := ⟨#[104, 101, 108, 108, 111, 32, 119, 111]⟩
theorem aw1 : (TVadd 2 [] iw1 sw1).2 = (⟨#[]⟩, false, 0) := by kernel_rfl
theorem aw2 : (TVadd 2 (TVadd 2 [] iw1 sw1).1 iw2 sw2).2 = (⟨#[104, 101, 108, 108, 111, 32, 119, 111, 119, 111, 114, 108, 100]⟩, true, 0) := by kernel_rfl
theorem aw3 : (TVadd 2 (TVadd 2 [] iw1 sw1).1 iw2 sw2).1.length = 0 := by kernel_rfl
theorem aw4 : allB (TVadd 2 [] iw1 sw1).1 = true := by kernel_rfl
set_option maxRecDepth 100000 in
set_option maxHeartbeats 2000000 in
theorem awake_walk (w : World) : Calls Try.prog 12 #[] w (Yes w) := by
  refine calls_W (n := 47) (vs := []) Try.func12 rfl rfl rfl ?_
  apply W.readS LO mixed [0] (by kernel_rfl)
  · repeat' (first | rfl | with_reducible assumption | assumption | constructor)
  intro w1 f1 s1 hf1
  replace hf1 : f1 = [(0, _)] := hf1
  subst hf1
  refine W.seq (W.list ?_)
  refine Ls.call LO rfl rfl rfl rfl rfl (vs := [.int .i64 2, .int .i64 5]) rfl (ts_new w w1 2 5 ((Mv.refl _ w).same s1)) ?_
  rintro _ w2 ⟨t, rfl, hS⟩
  refine ⟨_, rfl, ?_⟩
  apply Ls.runK LO [1] 1
  · repeat' (first | rfl | with_reducible assumption | assumption | constructor)
  intro w3 f3 s3 hf3
  replace hf3 : f3 = [(1, _)] := hf3
  subst hf3
  refine Ls.nil (N.to ?_)
  have hS : TS w w3 t 2 5 [] := hS.same s3
  refine W.cutS (fun w' g => TS w w' t 2 5 [] ∧ g = [(1, .pointer (some ⟨t, 0, none⟩))]) ?_ ?_
  ·
    apply W.readS LO mixed [1, 10] (by kernel_rfl)
    · repeat' (first | rfl | with_reducible assumption | assumption | constructor)
    intro w4 f4 s4 hf4
    replace hf4 : f4 = [(1, _), (10, _)] := hf4
    subst hf4
    refine W.cond (b := false) rfl (fun h => by cases h) (fun _ => W.skip ?_)
    exact N.cut ⟨hS.same s4, rfl⟩ (sub_keys rfl)
  rintro w4 _ ⟨hS, rfl⟩
  refine W.seq (W.list ?_)
  apply Ls.runK LO [1, 12, 13] 2
  · repeat' (first | rfl | with_reducible assumption | assumption | constructor)
  intro w5 f5 s5 hf5
  replace hf5 : f5 = [(1, _), (12, _), (13, _)] := hf5
  subst hf5
  refine Ls.call LO rfl rfl rfl rfl rfl (vs := [.pointer (some ⟨t, 0, none⟩), .agg (ipVs iw1).toArray, .string sw1]) rfl (ts_add w w5 t 2 5 [] iw1 sw1 (hS.same s5) (ipok iw1 rfl rfl rfl rfl (by decide)) (by decide) rfl) ?_
  rintro _ w6 ⟨rfl, hS⟩
  refine ⟨_, rfl, ?_⟩
  rw [aw1]
  apply Ls.runK LO [1, 3, 4] 7
  · repeat' (first | rfl | with_reducible assumption | assumption | constructor)
  intro w7 f7 s7 hf7
  replace hf7 : f7 = [(1, _), (3, _), (4, _)] := hf7
  subst hf7
  refine Ls.nil (N.to ?_)
  refine W.seq (W.list ?_)
  have hS := hS.same s7
  apply Ls.runK LO [1, 3, 4, 19, 20] 2
  · repeat' (first | rfl | with_reducible assumption | assumption | constructor)
  intro w8 f8 s8 hf8
  replace hf8 : f8 = [(1, _), (3, _), (4, _), (19, _), (20, _)] := hf8
  subst hf8
  refine Ls.call LO rfl rfl rfl rfl rfl (vs := [.pointer (some ⟨t, 0, none⟩), .agg (ipVs iw2).toArray, .string sw2]) rfl (ts_add w w8 t 2 5 _ iw2 sw2 (hS.same s8) (ipok iw2 rfl rfl rfl rfl (by decide)) (by decide) aw4) ?_
  rintro _ w9 ⟨rfl, hS⟩
  refine ⟨_, rfl, ?_⟩
  rw [aw2]
  apply Ls.runK LO [1, 3, 4, 5, 6, 7] 7
  · repeat' (first | rfl | with_reducible assumption | assumption | constructor)
  intro w10 f10 s10 hf10
  replace hf10 : f10 = [(1, _), (3, _), (4, _), (5, _), (6, _), (7, _)] := hf10
  subst hf10
  refine Ls.nil (N.to ?_)
  have hS := hS.same s10
  have q1 := quiet_of (w := w10) fun w' s' => ts_len w w' t 2 5 _ (hS.same s')
  rw [aw3] at q1
  have k1 : Kn ((⟨#[104, 101, 108, 108, 111, 32, 119, 111, 119, 111, 114, 108, 100]⟩ : ByteArray).toList == (⟨#[104, 101, 108, 108, 111, 32, 119, 111, 119, 111, 114, 108, 100]⟩ : ByteArray).toList) true := .of (beq_self_eq_true _)
  apply W.readS LO mixed [0] (by kernel_rfl)
  · repeat' (first | rfl | with_reducible assumption | assumption | constructor)
  intro w11 f11 s11 hf11
  replace hf11 : f11 = [(0, _)] := hf11
  subst hf11
  exact W.ret (post LO (rs := [.tmp 0]) rfl (vs := [.bool true]) (.tmp rfl .nil) ⟨rfl, (hS.same s11).mv⟩)
end Go.Proofs.Ytnghmaejmfhigaa
