/- What is proved: the law of names. Conditions: those that stand in each theorem. -/
import Derived.Test.YtnghmaejmfhigaaDefAwake
import Derived.OpenShut
namespace Go.Proofs.Ytnghmaejmfhigaa
set_option linter.unusedVariables false
set_option linter.unusedSimpArgs false
set_option linter.unusedSectionVars false
open Go.RowKit Go.Maps Go.MapKept Go.ChangeMaps Fw
/-- What fits in. -/
structure Fit (i : IPV) (s : ByteArray) : Prop where
  hs : s.size ≠ 0
  h8 : i.more = true → s.size % 8 = 0
  ho : 0 ≤ i.off
  hb : i.off + s.size ≤ 2000
  hp : i.more = true ∨ 0 < i.off
theorem TVadd_fit {most : Int} {T : List (KeyV × EV)} {i : IPV} {s : ByteArray} (F : Fit i s) (hf : T.lookup i.key = none → (T.length : Int) < most) : TVadd most T i s = match (addE (T.lookup i.key) i s).whole with
      | some x => (T.filter (fun p => p.1 != i.key), x, true, (0 : Int))
      | none => (if T.lookup i.key = none then T ++ [(i.key, addE (T.lookup i.key) i s)] else T.map (fun p => if p.1 = i.key then (p.1, addE (T.lookup i.key) i s) else p), ⟨#[]⟩, false, (0 : Int)) := by
  unfold TVadd
  rw [if_neg, if_neg, if_neg, if_neg]
  · rfl
  · rintro ⟨h1, h2⟩; have := hf h1; omega
  · have := F.hb; have := F.ho; omega
  · rintro (h | h | h)
    · exact F.hs h
    · exact h.2 (F.h8 h.1)
    · have := F.ho; omega
  · rintro ⟨h1, h2⟩
    rcases F.hp with h | h
    · rw [h1] at h; cases h
    · omega
theorem TVadd_whole {most : Int} {T : List (KeyV × EV)} {i : IPV} {s x : ByteArray} {e : EV} (F : Fit i s) (hl : T.lookup i.key = some e) (hw : (addE (some e) i s).whole = some x) : TVadd most T i s = (T.filter (fun p => p.1 != i.key), x, true, 0) := by
  rw [TVadd_fit F (fun h => by rw [h] at hl; cases hl), hl]
  simp only [hw]
theorem TVadd_new {most : Int} {T : List (KeyV × EV)} {i : IPV} {s : ByteArray} (F : Fit i s) (hl : T.lookup i.key = none) (hf : (T.length : Int) < most) (hw : (addE none i s).whole = none) : TVadd most T i s = (T ++ [(i.key, addE none i s)], ⟨#[]⟩, false, 0) := by
  rw [TVadd_fit F (fun _ => hf), hl]
  simp only [hw, if_true]
theorem TVadd_more {most : Int} {T : List (KeyV × EV)} {i : IPV} {s : ByteArray} {e : EV} (F : Fit i s) (hl : T.lookup i.key = some e) (hw : (addE (some e) i s).whole = none) : TVadd most T i s = (T.map (fun p => if p.1 = i.key then (p.1, addE (some e) i s) else p), ⟨#[]⟩, false, 0) := by
  rw [TVadd_fit F (fun h => by rw [h] at hl; cases hl), hl]
  simp only [hw]
  rw [if_neg (by simp)]
theorem addE_congr {x : Option EV} {i j : IPV} {s : ByteArray} (h1 : i.more = j.more) (h2 : i.off = j.off) : addE x i s = addE x j s := by
  unfold addE
  rw [h1, h2]
/-- What lies beside a table stays. -/
def Keep (w w' : World) : Prop := ∀ (r : Nat) (cs : Array Value) (Ty : Nat), w.heap[r]? = some (Obj.cells cs Ty (0, 0)) → Ty ≠ 51 → Ty ≠ 57 → w'.heap[r]? = some (Obj.cells cs Ty (0, 0))
theorem ts_add2 (w0 w : World) (t : Nat) (most ticks : Int) (T : List (KeyV × EV)) (i : IPV) (s : ByteArray) (h : TS w0 w t most ticks T) (hi : IPok i) (hs : s.size ≤ 1000000000) (hall : allB T = true) :
    Calls Try.prog 9 #[.pointer (some ⟨t, 0, none⟩), .agg (ipVs i).toArray, .string s] w fun e w' => e = .returned (.tuple #[.string (TVadd most T i s).2.1, .bool (TVadd most T i s).2.2.1, .int .i64 (TVadd most T i s).2.2.2]) ∧ TS w0 w' t most ticks (TVadd most T i s).1 ∧ Keep w w' ∧ w.heap.size ≤ w'.heap.size := by
  obtain ⟨m, L, hA, hT, hm, hf⟩ := h
  subst hT
  refine (add_walk t m most ticks L i s w hA hi hs fun x hx => ?_).mono fun e w' ⟨L', he, hA', hL', hmv, hown⟩ => ⟨he, ⟨m, L', hA', hL', hm.cut hmv fun k hk e => by have := hf k e; omega, fun k hk => ?_⟩, fun r cs Ty hr h1 h2 => (hmv.block r (Array.getElem?_eq_some_iff.1 hr).1 fun e => hA.off hr h1 h2 r e rfl).trans hr, hmv.size⟩
  · have := List.all_eq_true.1 hall (ke x) (List.mem_map_of_mem hx)
    simp only [Bool.and_eq_true, decide_eq_true_eq] at this
    exact this
  · rcases hown k hk with h1 | h1
    · exact hf k h1
    · have := hm.size; omega
theorem IB.cells {w : World} {q : Nat} {i : IPV} (h : IB w q i) : CellsAt w q 0 10 (ipVs i) := by
  unfold IB at h
  refine .cons ⟨?_⟩ (.cons ⟨?_⟩ (.cons ⟨?_⟩ (.cons ⟨?_⟩ (.cons ⟨?_⟩ (.cons ⟨?_⟩ (.cons ⟨?_⟩ (.cons ⟨?_⟩ (.cons ⟨?_⟩ (.cons ⟨?_⟩ .nil))))))))) <;> (unfold World.cell?; rw [h]; rfl)
theorem IB.same {w w' : World} {q : Nat} {i : IPV} (h : IB w q i) (s : Same w w') : IB w' q i := by unfold IB; rw [s.heap]; exact h
theorem IB.keep {w w' : World} {q : Nat} {i : IPV} (h : IB w q i) (k : Keep w w') : IB w' q i := k q _ _ h (by decide) (by decide)
/-! ### The lists -/
def na : IPV := ⟨0, 5, true, false, 0, 0, 17, 1, 2, ⟨#[]⟩⟩
def na2 (k : Int) : IPV := ⟨k, 5, false, false, 8, k, 17, 1, 2, ⟨#[]⟩⟩
def nb (id proto src dst : Int) : IPV := ⟨0, id, true, false, 0, 0, proto, src, dst, ⟨#[]⟩⟩
def nb2 (id proto src dst : Int) : IPV := ⟨0, id, false, false, 8, 0, proto, src, dst, ⟨#[]⟩⟩
def saa : ByteArray := ⟨#[97, 97, 97, 97, 97, 97, 97, 97]⟩
def sbb : ByteArray := ⟨#[98, 98, 98]⟩
def scc : ByteArray := ⟨#[99, 99, 99]⟩
def sac : ByteArray := ⟨#[97, 97, 97, 97, 97, 97, 97, 97, 99, 99, 99]⟩
def EA : EV := addE none na saa
def EB : EV := addE none (nb2 0 0 0 0) sbb
theorem nm_1 : TVadd 3 [] na saa = ([(na.key, EA)], ⟨#[]⟩, false, 0) := TVadd_new ⟨by decide, by decide, by decide, by decide, by decide⟩ rfl (by decide) (by kernel_rfl)
theorem nm_2 (id proto src dst : Int) (hne : (nb2 id proto src dst).key ≠ na.key) : TVadd 3 [(na.key, EA)] (nb2 id proto src dst) sbb = ([(na.key, EA), ((nb2 id proto src dst).key, EB)], ⟨#[]⟩, false, 0) := by
  have e1 : addE none (nb2 id proto src dst) sbb = EB := addE_congr rfl rfl
  rw [TVadd_new ⟨by decide, (fun h => by cases h), by show (0 : Int) ≤ 8; decide, by show (8 : Int) + 3 ≤ 2000; decide, .inr (by show (0 : Int) < 8; decide)⟩ (by rw [List.lookup_cons, beq_eq_false_iff_ne.2 hne]; rfl) (by decide) (by rw [e1]; kernel_rfl), e1]
  rfl
theorem nm_3 (k id proto src dst : Int) (hne : (nb2 id proto src dst).key ≠ na.key) : TVadd 3 [(na.key, EA), ((nb2 id proto src dst).key, EB)] (na2 k) scc = ([((nb2 id proto src dst).key, EB)], sac, true, 0) := by
  have ek : (na2 k).key = na.key := rfl
  have e1 : addE (some EA) (na2 k) scc = addE (some EA) (na2 0) scc := addE_congr rfl rfl
  rw [TVadd_whole (e := EA) (x := sac) ⟨by decide, (fun h => by cases h), by show (0 : Int) ≤ 8; decide, by show (8 : Int) + 3 ≤ 2000; decide, .inr (by show (0 : Int) < 8; decide)⟩ (by rw [ek, List.lookup_cons, beq_self_eq_true]) (by rw [e1]; kernel_rfl), ek]
  congr 1
  rw [List.filter_cons, if_neg (by simp), List.filter_cons, if_pos (by simpa using hne)]
  rfl
theorem nm_all1 : allB [(na.key, EA)] = true := by kernel_rfl
theorem nm_allE : (decide (0 ≤ EB.all) && decide (EB.all ≤ 2000)) = true := by kernel_rfl
theorem nm_all2 (k : KeyV) : allB [(na.key, EA), (k, EB)] = true := by
  have h1 := nm_all1
  unfold allB at h1 ⊢
  simp only [List.all_cons, List.all_nil, Bool.and_true] at h1 ⊢
  rw [h1, nm_allE]; rfl
def nfr (t qa qb : Nat) (kk : Int) : Fr := [(5, .pointer (some ⟨t, 0, none⟩)), (6, .pointer (some ⟨qa, 0, none⟩)), (7, .pointer (some ⟨qb, 0, none⟩)), (8, .int .i64 kk)]
set_option maxRecDepth 100000 in
set_option maxHeartbeats 4000000 in
theorem names_walk (how v : Int) (w : World) (hh : -9223372036854775808 ≤ how ∧ how ≤ 9223372036854775807) (hv : -9223372036854775808 ≤ v ∧ v ≤ 9223372036854775807) :
    Calls Try.prog 4 #[.int .i64 how, .int .i64 v] w (Yes w) := by
  refine calls_W (n := 93) (vs := [.int .i64 how, .int .i64 v]) Try.func4 rfl rfl rfl ?_
  apply W.readS LO mixed [0, 1] (by kernel_rfl)
  · repeat' (first | rfl | with_reducible assumption | assumption | constructor)
  intro w1 f1 s1 hf1
  replace hf1 : f1 = [(0, _), (1, _)] := hf1
  subst hf1
  refine W.seq (W.list ?_)
  refine Ls.call LO rfl rfl rfl rfl rfl (vs := [.int .i64 3, .int .i64 9]) rfl (ts_new w w1 3 9 ((Mv.refl _ w).same s1)) ?_
  rintro _ w2 ⟨t, rfl, hS⟩
  refine ⟨_, rfl, ?_⟩
  apply Ls.runK LO [0, 1, 5] 1
  · repeat' (first | rfl | with_reducible assumption | assumption | constructor)
  intro w3 f3 s3 hf3
  replace hf3 : f3 = [(0, _), (1, _), (5, _)] := hf3
  subst hf3
  refine Ls.nil (N.to ?_)
  have hS : TS w w3 t 3 9 [] := hS.same s3
  refine W.cutS (fun w' g => TS w w' t 3 9 [] ∧ g = [(0, .int .i64 how), (1, .int .i64 v), (5, .pointer (some ⟨t, 0, none⟩))]) ?_ ?_
  ·
    apply W.readS LO mixed [0, 1, 5, 17] (by kernel_rfl)
    · repeat' (first | rfl | with_reducible assumption | assumption | constructor)
    intro w4 f4 s4 hf4
    replace hf4 : f4 = [(0, _), (1, _), (5, _), (17, _)] := hf4
    subst hf4
    refine W.cond (b := false) rfl (fun h => by cases h) (fun _ => W.skip ?_)
    exact N.cut ⟨hS.same s4, rfl⟩ (sub_keys rfl)
  rintro w4 _ ⟨hS, rfl⟩
  -- the two heads
  refine W.seq (W.list ?_)
  apply Ls.runK LO [0, 1, 5, 18] 1
  · repeat' (first | rfl | with_reducible assumption | assumption | constructor)
  intro w5 f5 s5 hf5
  replace hf5 : f5 = [(0, _), (1, _), (5, _), (18, _)] := hf5
  subst hf5
  have hS := hS.same s5
  refine Ls.alloc LO rfl rfl rfl rfl rfl ?_
  have hb6 := heap_alloc_new w5 (.cells (ipVs ⟨0, 0, false, false, 0, 0, 0, 0, 0, ⟨#[]⟩⟩).toArray 29)
  have m6 : Mv (fun _ => False) w5 (w5.alloc (.cells (ipVs ⟨0, 0, false, false, 0, 0, 0, 0, 0, ⟨#[]⟩⟩).toArray 29)) := (Mv.refl _ w5).alloc _
  show Ls Try.prog 93 _ _ _ (w5.alloc (.cells (ipVs ⟨0, 0, false, false, 0, 0, 0, 0, 0, ⟨#[]⟩⟩).toArray 29)) _
  generalize w5.alloc (.cells (ipVs ⟨0, 0, false, false, 0, 0, 0, 0, 0, ⟨#[]⟩⟩).toArray 29) = w6 at hb6 m6
  obtain ⟨qa, hqa⟩ : ∃ qa, qa = w5.heap.size := ⟨_, rfl⟩
  rw [← hqa] at hb6
  rw [← hqa]
  have hqaw : w.heap.size ≤ qa := by have := hS.mv.size; omega
  have hS := hS.non m6
  refine Ls.store LO rfl rfl rfl rfl rfl (vs := ipVs na) rfl rfl rfl hb6 rfl ?_
  intro w7 hb7 m7 _
  have hS := hS.beside m7 hb6 (by decide) (by decide) hqaw
  have hia : IB w7 qa na := hb7
  refine Ls.nil (N.to ?_)
  clear hb6 m6 hb7 m7 hqa s5 s3 s1
  refine W.seq (W.list ?_)
  have hcells := hia.cells
  apply Ls.runK LO [0, 1, 5, 6, 19] 1
  · repeat' (first | rfl | with_reducible assumption | assumption | constructor)
  intro w8 f8 s8 hf8
  replace hf8 : f8 = [(0, _), (1, _), (5, _), (6, _), (19, _)] := hf8
  subst hf8
  have hS := hS.same s8
  have hia := hia.same s8
  refine Ls.alloc LO rfl rfl rfl rfl rfl ?_
  have hb9 := heap_alloc_new w8 (.cells (ipVs ⟨0, 0, false, false, 0, 0, 0, 0, 0, ⟨#[]⟩⟩).toArray 29)
  have m9 : Mv (fun _ => False) w8 (w8.alloc (.cells (ipVs ⟨0, 0, false, false, 0, 0, 0, 0, 0, ⟨#[]⟩⟩).toArray 29)) := (Mv.refl _ w8).alloc _
  show Ls Try.prog 93 _ _ _ (w8.alloc (.cells (ipVs ⟨0, 0, false, false, 0, 0, 0, 0, 0, ⟨#[]⟩⟩).toArray 29)) _
  generalize w8.alloc (.cells (ipVs ⟨0, 0, false, false, 0, 0, 0, 0, 0, ⟨#[]⟩⟩).toArray 29) = w9 at hb9 m9
  obtain ⟨qb, hqb⟩ : ∃ qb, qb = w8.heap.size := ⟨_, rfl⟩
  rw [← hqb] at hb9
  rw [← hqb]
  have hab : qa ≠ qb := by have := (Array.getElem?_eq_some_iff.1 hia).1; omega
  have hqbw : w.heap.size ≤ qb := by have := hS.mv.size; omega
  have hS := hS.non m9
  have hia := hia.moved m9 (fun e => e)
  refine Ls.store LO rfl rfl rfl rfl rfl (vs := ipVs na) rfl rfl rfl hb9 rfl ?_
  intro w10 hb10 m10 _
  have hS := hS.beside m10 hb9 (by decide) (by decide) hqbw
  have hia := hia.moved m10 hab
  have hib : IB w10 qb (nb 5 17 1 2) := hb10
  refine Ls.nil (N.to ?_)
  clear hb9 m9 hb10 m10 hqb s8 hcells
  have qv : ∀ w', Same w10 w' → Calls Try.prog 10 #[.int .i64 v, .int .i64 100] w' fun e w'' => e = .returned (.int .i64 (v % 100)) ∧ Same w10 w'' := quiet_of (w := w10) fun w' _ => place00_says v 100 w' (by decide) (by decide) hv.1 hv.2
  obtain ⟨kk, hkk⟩ : ∃ kk : Int, kk = 1 + v % 100 := ⟨_, rfl⟩
  have hk : 1 ≤ kk ∧ kk ≤ 100 := by omega
  have k1 : Kn (IntKind.i64.wrap (1 + v % 100)) kk := .of (by rw [← hkk]; exact IntWalk.i64_in _ (by omega))
  apply W.readS LO mixed [0, 5, 6, 7, 8] (by kernel_rfl)
  · repeat' (first | rfl | with_reducible assumption | assumption | constructor)
  intro w11 f11 s11 hf11
  replace hf11 : f11 = [(0, _), (5, _), (6, _), (7, _), (8, _)] := hf11
  subst hf11
  have hS := hS.same s11
  have hia := hia.same s11
  have hib := hib.same s11
  have qh : ∀ w', Same w11 w' → Calls Try.prog 10 #[.int .i64 how, .int .i64 4] w' fun e w'' => e = .returned (.int .i64 (how % 4)) ∧ Same w11 w'' := quiet_of (w := w11) fun w' _ => place00_says how 4 w' (by decide) (by decide) hh.1 hh.2
  have hhr : 0 ≤ how % 4 ∧ how % 4 < 4 := by omega
  generalize how % 4 = hw at qh hhr
  clear k1 hkk qv s11
  refine W.cutS (fun w' g => (∃ id proto src dst, (nb2 id proto src dst).key ≠ na.key ∧ okK (nb2 id proto src dst).key ∧ IB w' qb (nb id proto src dst) ∧ IB w' qa na ∧ TS w w' t 3 9 []) ∧ g = nfr t qa qb kk) ?_ ?_
  · rcases (show hw = 0 ∨ hw = 1 ∨ hw = 2 ∨ hw = 3 by omega) with rfl | rfl | rfl | rfl
    ·
      apply W.readS LO mixed [5, 6, 7, 8, 24] (by kernel_rfl)
      · repeat' (first | rfl | with_reducible assumption | assumption | constructor)
      intro w12 f12 s12 hf12
      replace hf12 : f12 = [(5, _), (6, _), (7, _), (8, _), (24, _)] := hf12
      subst hf12
      have hS := hS.same s12
      have hia := hia.same s12
      have hib := hib.same s12
      refine W.block ?_
      have e0 : Kn ((0 : Int) == 0) true := .of rfl
      apply W.readS LO mixed [5, 6, 7, 8, 24, 28] (by kernel_rfl)
      · repeat' (first | rfl | with_reducible assumption | assumption | constructor)
      intro wd0 fd0 sd0 hfd0
      replace hfd0 : fd0 = [(5, _), (6, _), (7, _), (8, _), (24, _), (28, _)] := hfd0
      subst hfd0
      have hS := hS.same sd0
      have hia := hia.same sd0
      have hib := hib.same sd0
      refine W.cond (b := true) rfl (fun _ => ?_) (fun h => by cases h)
      have ka : Kn (IntKind.i64.wrap (5 + kk)) (5 + kk) := .of (IntWalk.i64_in _ (by omega))
      refine W.list ?_
      apply Ls.runK LO [5, 6, 7, 8, 32, 31] 3
      · repeat' (first | rfl | with_reducible assumption | assumption | constructor)
      intro w13 f13 s13 hf13
      replace hf13 : f13 = [(5, _), (6, _), (7, _), (8, _), (32, _), (31, _)] := hf13
      subst hf13
      have hS := hS.same s13
      have hia := hia.same s13
      have hib := hib.same s13
      refine Ls.store LO rfl rfl rfl rfl rfl (vs := [.int .i64 (5 + kk)]) rfl rfl rfl hib rfl ?_
      intro w14 hb14 m14 _
      refine Ls.nil (N.inb (N.cut ⟨⟨_, _, _, _, ?_, ?_, (show IB w14 qb (nb (5 + kk) 17 1 2) from hb14), hia.moved m14 hab, hS.beside m14 hib (by decide) (by decide) hqbw⟩, rfl⟩ (sub_keys rfl)))
      · intro e
        have := congrArg KeyV.id e
        have h : (5 + kk) = (5 : Int) := this
        omega
      · exact ⟨rfl, rfl, rfl, (by show (Lit.int .i64 (5 + kk)).wf = true; exact WalkArith.wf_i64 (by omega))⟩
    ·
      apply W.readS LO mixed [5, 6, 7, 8, 24] (by kernel_rfl)
      · repeat' (first | rfl | with_reducible assumption | assumption | constructor)
      intro w12 f12 s12 hf12
      replace hf12 : f12 = [(5, _), (6, _), (7, _), (8, _), (24, _)] := hf12
      subst hf12
      have hS := hS.same s12
      have hia := hia.same s12
      have hib := hib.same s12
      refine W.block ?_
      have e0 : Kn ((1 : Int) == 0) false := .of rfl
      apply W.readS LO mixed [5, 6, 7, 8, 24, 28] (by kernel_rfl)
      · repeat' (first | rfl | with_reducible assumption | assumption | constructor)
      intro wd0 fd0 sd0 hfd0
      replace hfd0 : fd0 = [(5, _), (6, _), (7, _), (8, _), (24, _), (28, _)] := hfd0
      subst hfd0
      have hS := hS.same sd0
      have hia := hia.same sd0
      have hib := hib.same sd0
      refine W.cond (b := false) rfl (fun h => by cases h) (fun _ => ?_)
      have e1 : Kn ((1 : Int) == 1) true := .of rfl
      apply W.readS LO mixed [5, 6, 7, 8, 24, 33] (by kernel_rfl)
      · repeat' (first | rfl | with_reducible assumption | assumption | constructor)
      intro wd1 fd1 sd1 hfd1
      replace hfd1 : fd1 = [(5, _), (6, _), (7, _), (8, _), (24, _), (33, _)] := hfd1
      subst hfd1
      have hS := hS.same sd1
      have hia := hia.same sd1
      have hib := hib.same sd1
      refine W.cond (b := true) rfl (fun _ => ?_) (fun h => by cases h)
      have ka : Kn (IntKind.i64.wrap (1 + kk)) (1 + kk) := .of (IntWalk.i64_in _ (by omega))
      have kb : Kn (IntKind.u32.wrap (1 + kk)) (1 + kk) := .of (by show _ % 4294967296 = _; omega)
      refine W.list ?_
      apply Ls.runK LO [5, 6, 7, 8, 38, 37] 4
      · repeat' (first | rfl | with_reducible assumption | assumption | constructor)
      intro w13 f13 s13 hf13
      replace hf13 : f13 = [(5, _), (6, _), (7, _), (8, _), (38, _), (37, _)] := hf13
      subst hf13
      have hS := hS.same s13
      have hia := hia.same s13
      have hib := hib.same s13
      refine Ls.store LO rfl rfl rfl rfl rfl (vs := [.int .u32 (1 + kk)]) rfl rfl rfl hib rfl ?_
      intro w14 hb14 m14 _
      refine Ls.nil (N.inb (N.cut ⟨⟨_, _, _, _, ?_, ?_, (show IB w14 qb (nb 5 17 (1 + kk) 2) from hb14), hia.moved m14 hab, hS.beside m14 hib (by decide) (by decide) hqbw⟩, rfl⟩ (sub_keys rfl)))
      · intro e
        have := congrArg KeyV.src e
        have h : (1 + kk) = (1 : Int) := this
        omega
      · exact ⟨(by show (Lit.int .u32 (1 + kk)).wf = true; exact WalkArith.wf_u32 (by omega)), rfl, rfl, rfl⟩
    ·
      apply W.readS LO mixed [5, 6, 7, 8, 24] (by kernel_rfl)
      · repeat' (first | rfl | with_reducible assumption | assumption | constructor)
      intro w12 f12 s12 hf12
      replace hf12 : f12 = [(5, _), (6, _), (7, _), (8, _), (24, _)] := hf12
      subst hf12
      have hS := hS.same s12
      have hia := hia.same s12
      have hib := hib.same s12
      refine W.block ?_
      have e0 : Kn ((2 : Int) == 0) false := .of rfl
      apply W.readS LO mixed [5, 6, 7, 8, 24, 28] (by kernel_rfl)
      · repeat' (first | rfl | with_reducible assumption | assumption | constructor)
      intro wd0 fd0 sd0 hfd0
      replace hfd0 : fd0 = [(5, _), (6, _), (7, _), (8, _), (24, _), (28, _)] := hfd0
      subst hfd0
      have hS := hS.same sd0
      have hia := hia.same sd0
      have hib := hib.same sd0
      refine W.cond (b := false) rfl (fun h => by cases h) (fun _ => ?_)
      have e1 : Kn ((2 : Int) == 1) false := .of rfl
      apply W.readS LO mixed [5, 6, 7, 8, 24, 33] (by kernel_rfl)
      · repeat' (first | rfl | with_reducible assumption | assumption | constructor)
      intro wd1 fd1 sd1 hfd1
      replace hfd1 : fd1 = [(5, _), (6, _), (7, _), (8, _), (24, _), (33, _)] := hfd1
      subst hfd1
      have hS := hS.same sd1
      have hia := hia.same sd1
      have hib := hib.same sd1
      refine W.cond (b := false) rfl (fun h => by cases h) (fun _ => ?_)
      have e2 : Kn ((2 : Int) == 2) true := .of rfl
      apply W.readS LO mixed [5, 6, 7, 8, 24, 39] (by kernel_rfl)
      · repeat' (first | rfl | with_reducible assumption | assumption | constructor)
      intro wd2 fd2 sd2 hfd2
      replace hfd2 : fd2 = [(5, _), (6, _), (7, _), (8, _), (24, _), (39, _)] := hfd2
      subst hfd2
      have hS := hS.same sd2
      have hia := hia.same sd2
      have hib := hib.same sd2
      refine W.cond (b := true) rfl (fun _ => ?_) (fun h => by cases h)
      have ka : Kn (IntKind.i64.wrap (2 + kk)) (2 + kk) := .of (IntWalk.i64_in _ (by omega))
      have kb : Kn (IntKind.u32.wrap (2 + kk)) (2 + kk) := .of (by show _ % 4294967296 = _; omega)
      refine W.list ?_
      apply Ls.runK LO [5, 6, 7, 8, 44, 43] 4
      · repeat' (first | rfl | with_reducible assumption | assumption | constructor)
      intro w13 f13 s13 hf13
      replace hf13 : f13 = [(5, _), (6, _), (7, _), (8, _), (44, _), (43, _)] := hf13
      subst hf13
      have hS := hS.same s13
      have hia := hia.same s13
      have hib := hib.same s13
      refine Ls.store LO rfl rfl rfl rfl rfl (vs := [.int .u32 (2 + kk)]) rfl rfl rfl hib rfl ?_
      intro w14 hb14 m14 _
      refine Ls.nil (N.inb (N.cut ⟨⟨_, _, _, _, ?_, ?_, (show IB w14 qb (nb 5 17 1 (2 + kk)) from hb14), hia.moved m14 hab, hS.beside m14 hib (by decide) (by decide) hqbw⟩, rfl⟩ (sub_keys rfl)))
      · intro e
        have := congrArg KeyV.dst e
        have h : (2 + kk) = (2 : Int) := this
        omega
      · exact ⟨rfl, (by show (Lit.int .u32 (2 + kk)).wf = true; exact WalkArith.wf_u32 (by omega)), rfl, rfl⟩
    ·
      apply W.readS LO mixed [5, 6, 7, 8, 24] (by kernel_rfl)
      · repeat' (first | rfl | with_reducible assumption | assumption | constructor)
      intro w12 f12 s12 hf12
      replace hf12 : f12 = [(5, _), (6, _), (7, _), (8, _), (24, _)] := hf12
      subst hf12
      have hS := hS.same s12
      have hia := hia.same s12
      have hib := hib.same s12
      refine W.block ?_
      have e0 : Kn ((3 : Int) == 0) false := .of rfl
      apply W.readS LO mixed [5, 6, 7, 8, 24, 28] (by kernel_rfl)
      · repeat' (first | rfl | with_reducible assumption | assumption | constructor)
      intro wd0 fd0 sd0 hfd0
      replace hfd0 : fd0 = [(5, _), (6, _), (7, _), (8, _), (24, _), (28, _)] := hfd0
      subst hfd0
      have hS := hS.same sd0
      have hia := hia.same sd0
      have hib := hib.same sd0
      refine W.cond (b := false) rfl (fun h => by cases h) (fun _ => ?_)
      have e1 : Kn ((3 : Int) == 1) false := .of rfl
      apply W.readS LO mixed [5, 6, 7, 8, 24, 33] (by kernel_rfl)
      · repeat' (first | rfl | with_reducible assumption | assumption | constructor)
      intro wd1 fd1 sd1 hfd1
      replace hfd1 : fd1 = [(5, _), (6, _), (7, _), (8, _), (24, _), (33, _)] := hfd1
      subst hfd1
      have hS := hS.same sd1
      have hia := hia.same sd1
      have hib := hib.same sd1
      refine W.cond (b := false) rfl (fun h => by cases h) (fun _ => ?_)
      have e2 : Kn ((3 : Int) == 2) false := .of rfl
      apply W.readS LO mixed [5, 6, 7, 8, 24, 39] (by kernel_rfl)
      · repeat' (first | rfl | with_reducible assumption | assumption | constructor)
      intro wd2 fd2 sd2 hfd2
      replace hfd2 : fd2 = [(5, _), (6, _), (7, _), (8, _), (24, _), (39, _)] := hfd2
      subst hfd2
      have hS := hS.same sd2
      have hia := hia.same sd2
      have hib := hib.same sd2
      refine W.cond (b := false) rfl (fun h => by cases h) (fun _ => ?_)
      have ka : Kn (IntKind.i64.wrap (17 + kk)) (17 + kk) := .of (IntWalk.i64_in _ (by omega))
      refine W.list ?_
      apply Ls.runK LO [5, 6, 7, 8, 27, 26] 3
      · repeat' (first | rfl | with_reducible assumption | assumption | constructor)
      intro w13 f13 s13 hf13
      replace hf13 : f13 = [(5, _), (6, _), (7, _), (8, _), (27, _), (26, _)] := hf13
      subst hf13
      have hS := hS.same s13
      have hia := hia.same s13
      have hib := hib.same s13
      refine Ls.store LO rfl rfl rfl rfl rfl (vs := [.int .i64 (17 + kk)]) rfl rfl rfl hib rfl ?_
      intro w14 hb14 m14 _
      refine Ls.nil (N.inb (N.cut ⟨⟨_, _, _, _, ?_, ?_, (show IB w14 qb (nb 5 (17 + kk) 1 2) from hb14), hia.moved m14 hab, hS.beside m14 hib (by decide) (by decide) hqbw⟩, rfl⟩ (sub_keys rfl)))
      · intro e
        have := congrArg KeyV.proto e
        have h : (17 + kk) = (17 : Int) := this
        omega
      · exact ⟨rfl, rfl, (by show (Lit.int .i64 (17 + kk)).wf = true; exact WalkArith.wf_i64 (by omega)), rfl⟩
  rintro w12 _ ⟨⟨id, proto, src, dst, hne, hok, hib, hia, hS⟩, rfl⟩
  clear qh hhr
  -- the first part of one
  refine W.seq (W.list ?_)
  have hcells := hia.cells
  apply Ls.runK LO [5, 6, 7, 8, 45, 46] 2
  · repeat' (first | rfl | with_reducible assumption | assumption | constructor)
  intro w13 f13 s13 hf13
  replace hf13 : f13 = [(5, _), (6, _), (7, _), (8, _), (45, _), (46, _)] := hf13
  subst hf13
  refine Ls.call LO rfl rfl rfl rfl rfl (vs := [.pointer (some ⟨t, 0, none⟩), .agg (ipVs na).toArray, .string saa]) rfl (ts_add2 w w13 t 3 9 [] na saa (hS.same s13) (ipok na rfl rfl rfl rfl (by decide)) (by decide) rfl) ?_
  rintro _ w14 ⟨rfl, hS, hkp, _⟩
  rw [nm_1] at hS
  have hia := (hia.same s13).keep hkp
  have hib := (hib.same s13).keep hkp
  refine ⟨_, rfl, Ls.nil (N.to ?_)⟩
  refine W.weak (g := nfr t qa qb kk) ?_ (sub_keys rfl)
  clear hcells s13 hkp
  -- the other's head
  refine W.seq (W.list ?_)
  apply Ls.runK LO [5, 6, 7, 8, 48] 1
  · repeat' (first | rfl | with_reducible assumption | assumption | constructor)
  intro w15 f15 s15 hf15
  replace hf15 : f15 = [(5, _), (6, _), (7, _), (8, _), (48, _)] := hf15
  subst hf15
  have hS := hS.same s15
  have hia := hia.same s15
  have hib := hib.same s15
  refine Ls.store LO rfl rfl rfl rfl rfl (vs := [.bool false]) rfl rfl rfl hib rfl ?_
  intro w16 hb16 m16 _
  have hS := hS.beside m16 hib (by decide) (by decide) hqbw
  have hia := hia.moved m16 hab
  apply Ls.runK LO [5, 6, 7, 8, 49] 1
  · repeat' (first | rfl | with_reducible assumption | assumption | constructor)
  intro w17 f17 s17 hf17
  replace hf17 : f17 = [(5, _), (6, _), (7, _), (8, _), (49, _)] := hf17
  subst hf17
  have hS := hS.same s17
  have hia := hia.same s17
  rw [← s17.heap] at hb16
  refine Ls.store LO rfl rfl rfl rfl rfl (vs := [.int .i64 8]) rfl rfl rfl hb16 rfl ?_
  intro w18 hb18 m18 _
  have hS := hS.beside m18 hb16 (by decide) (by decide) hqbw
  have hia := hia.moved m18 hab
  have hib : IB w18 qb (nb2 id proto src dst) := hb18
  refine Ls.nil (N.to ?_)
  clear s15 hb16 m16 s17 hb18 m18
  refine W.seq (W.list ?_)
  have hcells := hib.cells
  apply Ls.runK LO [5, 6, 7, 8, 51, 52] 2
  · repeat' (first | rfl | with_reducible assumption | assumption | constructor)
  intro w19 f19 s19 hf19
  replace hf19 : f19 = [(5, _), (6, _), (7, _), (8, _), (51, _), (52, _)] := hf19
  subst hf19
  refine Ls.call LO rfl rfl rfl rfl rfl (vs := [.pointer (some ⟨t, 0, none⟩), .agg (ipVs (nb2 id proto src dst)).toArray, .string sbb]) rfl (ts_add2 w w19 t 3 9 _ (nb2 id proto src dst) sbb (hS.same s19) ⟨hok, by show (-9223372036854775808 : Int) ≤ 8 ∧ (8 : Int) ≤ 9223372036854775807; decide⟩ (by decide) nm_all1) ?_
  rintro _ w20 ⟨rfl, hS, hkp, _⟩
  rw [nm_2 id proto src dst hne] at hS ⊢
  have hia := (hia.same s19).keep hkp
  refine ⟨_, rfl, ?_⟩
  apply Ls.runK LO [5, 6, 8, 10] 7
  · repeat' (first | rfl | with_reducible assumption | assumption | constructor)
  intro w21 f21 s21 hf21
  replace hf21 : f21 = [(5, _), (6, _), (8, _), (10, _)] := hf21
  subst hf21
  refine Ls.nil (N.to ?_)
  have hS := hS.same s21
  have hia := hia.same s21
  clear hcells s19 hkp s21 hib
  have q1 := quiet_of (w := w21) fun w' s' => ts_len w w' t 3 9 _ (hS.same s')
  refine W.cutS (fun w' g => (IB w' qa na ∧ TS w w' t 3 9 [(na.key, EA), ((nb2 id proto src dst).key, EB)]) ∧ g = [(5, .pointer (some ⟨t, 0, none⟩)), (6, .pointer (some ⟨qa, 0, none⟩)), (8, .int .i64 kk)]) ?_ ?_
  ·
    apply W.readS LO mixed [5, 6, 8, 62] (by kernel_rfl)
    · repeat' (first | rfl | with_reducible assumption | assumption | constructor)
    intro w22 f22 s22 hf22
    replace hf22 : f22 = [(5, _), (6, _), (8, _), (62, _)] := hf22
    subst hf22
    refine W.cond (b := false) rfl (fun h => by cases h) (fun _ => W.skip ?_)
    exact N.cut ⟨⟨hia.same s22, hS.same s22⟩, rfl⟩ (sub_keys rfl)
  rintro w22 _ ⟨⟨hia, hS⟩, rfl⟩
  clear q1
  refine W.seq (W.list ?_)
  apply Ls.runK LO [5, 6, 63, 64, 65] 3
  · repeat' (first | rfl | with_reducible assumption | assumption | constructor)
  intro w23 f23 s23 hf23
  replace hf23 : f23 = [(5, _), (6, _), (63, _), (64, _), (65, _)] := hf23
  subst hf23
  have hS := hS.same s23
  have hia := hia.same s23
  refine Ls.store LO rfl rfl rfl rfl rfl (vs := [.bool false]) rfl rfl rfl hia rfl ?_
  intro w24 hb24 m24 _
  have hS := hS.beside m24 hia (by decide) (by decide) hqaw
  apply Ls.runK LO [5, 6, 63, 64, 66] 1
  · repeat' (first | rfl | with_reducible assumption | assumption | constructor)
  intro w25 f25 s25 hf25
  replace hf25 : f25 = [(5, _), (6, _), (63, _), (64, _), (66, _)] := hf25
  subst hf25
  have hS := hS.same s25
  rw [← s25.heap] at hb24
  refine Ls.store LO rfl rfl rfl rfl rfl (vs := [.int .i64 8]) rfl rfl rfl hb24 rfl ?_
  intro w26 hb26 m26 _
  have hS := hS.beside m26 hb24 (by decide) (by decide) hqaw
  apply Ls.runK LO [5, 6, 63, 64, 67] 1
  · repeat' (first | rfl | with_reducible assumption | assumption | constructor)
  intro w27 f27 s27 hf27
  replace hf27 : f27 = [(5, _), (6, _), (63, _), (64, _), (67, _)] := hf27
  subst hf27
  have hS := hS.same s27
  rw [← s27.heap] at hb26
  refine Ls.store LO rfl rfl rfl rfl rfl (vs := [.int .i64 kk]) rfl rfl rfl hb26 rfl ?_
  intro w28 hb28 m28 _
  have hS := hS.beside m28 hb26 (by decide) (by decide) hqaw
  apply Ls.runK LO [5, 6, 64, 68] 1
  · repeat' (first | rfl | with_reducible assumption | assumption | constructor)
  intro w29 f29 s29 hf29
  replace hf29 : f29 = [(5, _), (6, _), (64, _), (68, _)] := hf29
  subst hf29
  have hS := hS.same s29
  rw [← s29.heap] at hb28
  refine Ls.store LO rfl rfl rfl rfl rfl (vs := [.int .i64 kk]) rfl rfl rfl hb28 rfl ?_
  intro w30 hb30 m30 _
  have hS := hS.beside m30 hb28 (by decide) (by decide) hqaw
  have hia : IB w30 qa (na2 kk) := hb30
  refine Ls.nil (N.to ?_)
  clear s23 hb24 m24 s25 hb26 m26 s27 hb28 m28 s29 hb30 m30
  refine W.seq (W.list ?_)
  have hcells := hia.cells
  apply Ls.runK LO [5, 70, 71] 2
  · repeat' (first | rfl | with_reducible assumption | assumption | constructor)
  intro w31 f31 s31 hf31
  replace hf31 : f31 = [(5, _), (70, _), (71, _)] := hf31
  subst hf31
  refine Ls.call LO rfl rfl rfl rfl rfl (vs := [.pointer (some ⟨t, 0, none⟩), .agg (ipVs (na2 kk)).toArray, .string scc]) rfl (ts_add2 w w31 t 3 9 _ (na2 kk) scc (hS.same s31) (ipok (na2 kk) rfl rfl rfl rfl (by show (-9223372036854775808 : Int) ≤ 8 ∧ (8 : Int) ≤ 9223372036854775807; decide)) (by decide) (nm_all2 _)) ?_
  rintro _ w32 ⟨rfl, hS, _, _⟩
  rw [nm_3 kk id proto src dst hne] at hS ⊢
  refine ⟨_, rfl, ?_⟩
  apply Ls.runK LO [5, 12, 13, 14] 7
  · repeat' (first | rfl | with_reducible assumption | assumption | constructor)
  intro w33 f33 s33 hf33
  replace hf33 : f33 = [(5, _), (12, _), (13, _), (14, _)] := hf33
  subst hf33
  refine Ls.nil (N.to ?_)
  have hS := hS.same s33
  refine W.seq (W.list ?_)
  have q2 := quiet_of (w := w33) fun w' s' => ts_len w w' t 3 9 _ (hS.same s')
  have kw : Kn (sac.toList == (⟨#[97, 97, 97, 97, 97, 97, 97, 97, 99, 99, 99]⟩ : ByteArray).toList) true := .of (beq_self_eq_true _)
  apply Ls.runK LO [90] 15
  · repeat' (first | rfl | with_reducible assumption | assumption | constructor)
  intro w34 f34 s34 hf34
  replace hf34 : f34 = [(90, _)] := hf34
  subst hf34
  refine Ls.call LO rfl rfl rfl rfl rfl (vs := []) rfl (awake_walk w34) ?_
  rintro _ w35 ⟨rfl, hm35⟩
  refine ⟨_, rfl, ?_⟩
  apply Ls.runK LO [4] 2
  · repeat' (first | rfl | with_reducible assumption | assumption | constructor)
  intro w36 f36 s36 hf36
  replace hf36 : f36 = [(4, _)] := hf36
  subst hf36
  refine Ls.nil (N.to (W.ret (post LO (rs := [.tmp 4]) rfl (vs := [.bool true]) (.tmp rfl .nil) ⟨rfl, ((hS.mv.same s34).trans hm35).same s36⟩)))
theorem names_law (how v : Int) (w : World) (h0 : (Lit.int .i64 how).wf = true) (h1 : (Lit.int .i64 v).wf = true) : Calls Try.prog 4 #[.int .i64 how, .int .i64 v] w (Yes w) := names_walk how v w (bounds_i64 h0) (bounds_i64 h1)
end Go.Proofs.Ytnghmaejmfhigaa
