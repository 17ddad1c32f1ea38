/- What is proved: maps as lists of their entries, in the order in which they came: look-up, store of a new key, delete, len, range. Conditions: those that stand in each theorem. -/
import Derived.Maps.RangeWalk
import Derived.WalkKit
import Derived.Lib.Hide
import Derived.Deep.Draws
namespace Go.Proofs.Ytbidgeaigiijpaa
set_option linter.unusedVariables false
set_option linter.unusedSimpArgs false
set_option linter.unusedSectionVars false
open Go.RowKit Go.Maps Go.MapKept Go.ChangeMaps
set_option linter.unusedSectionVars false
set_option linter.unusedVariables false

/-- Blocks in S may have turned; what is new lies behind. -/
structure Mv (S : Nat → Prop) (w w' : World) : Prop where
  os : w'.os = w.os
  tape : w'.tape = w.tape
  output : w'.output = w.output
  size : w.heap.size ≤ w'.heap.size
  block : ∀ k, k < w.heap.size → ¬ S k → w'.heap[k]? = w.heap[k]?

theorem Mv.refl (S : Nat → Prop) (w : World) : Mv S w w := ⟨rfl, rfl, rfl, Nat.le_refl _, fun _ _ _ => rfl⟩
theorem Mv.trans {S : Nat → Prop} {a b c : World} (h : Mv S a b) (k : Mv S b c) : Mv S a c :=
  ⟨k.os.trans h.os, k.tape.trans h.tape, k.output.trans h.output, Nat.le_trans h.size k.size, fun i hi hs => (k.block i (Nat.lt_of_lt_of_le hi h.size) hs).trans (h.block i hi hs)⟩
theorem Mv.mono {S S' : Nat → Prop} {w w' : World} (h : Mv S w w') (hs : ∀ k, S k → S' k) : Mv S' w w' := ⟨h.os, h.tape, h.output, h.size, fun k hk hn => h.block k hk (fun e => hn (hs k e))⟩
theorem Mv.drew {S : Nat → Prop} {a w : World} (h : Mv S a w) : Mv S a w.drew := ⟨h.os, h.tape, h.output, h.size, h.block⟩
theorem Mv.drewN {S : Nat → Prop} {a w : World} (h : Mv S a w) (n : Nat) : Mv S a (w.drewN n) := ⟨h.os, h.tape, h.output, h.size, h.block⟩
theorem Mv.alloc {S : Nat → Prop} {a w : World} (h : Mv S a w) (o : Obj) : Mv S a (w.alloc o) :=
  h.trans ⟨rfl, rfl, rfl, by simp, fun k hk _ => Below.heap_alloc _ _ _ (by omega)⟩
theorem Mv.setCell {S : Nat → Prop} {a w : World} (h : Mv S a w) {p : Addr} (hp : a.heap.size ≤ p.block ∨ S p.block) (u : Value) : Mv S a (w.setCell p u) :=
  ⟨h.os, h.tape, h.output, by simpa using h.size, fun k hk hs => (Below.heap_setCell _ _ _ _ (fun e => hp.elim (fun h1 => by omega) (fun h1 => hs (by rw [e]; exact h1)))).trans (h.block k hk hs)⟩
theorem Mv.of_below {B : Nat} {S : Nat → Prop} {w w' : World} (h : Below B w w') (hb : w.heap.size ≤ B) : Mv S w w' := ⟨h.os, h.tape, h.output, h.size, fun k hk _ => h.block k (by omega)⟩
theorem Mv.below {B : Nat} {S : Nat → Prop} {w w' : World} (h : Mv S w w') (hb : B ≤ w.heap.size) (hs : ∀ k, S k → B ≤ k) : Below B w w' := ⟨h.os, h.tape, h.output, h.size, fun k hk => h.block k (by omega) (fun e => by have := hs k e; omega)⟩
/-- The blocks behind a's end play no part. -/
theorem Mv.cut {S S' : Nat → Prop} {a w w' : World} (h : Mv S a w) (k : Mv S' w w') (hs : ∀ i, i < a.heap.size → S' i → S i) : Mv S a w' :=
  ⟨k.os.trans h.os, k.tape.trans h.tape, k.output.trans h.output, Nat.le_trans h.size k.size, fun i hi hn => (k.block i (Nat.lt_of_lt_of_le hi h.size) (fun e => hn (hs i hi e))).trans (h.block i hi hn)⟩
theorem Mv.trans' {S : Nat → Prop} {a b c : World} (h : Mv S a b) (k : Mv S b c) : Mv S a c := h.trans k
theorem Mv.grown {S : Nat → Prop} {a w w' : World} {row : Option Nat} (h : Mv S a w) (hg : w.grownBy w' row) (hr : ∀ k, row = some k → a.heap.size ≤ k ∨ S k) : Mv S a w' :=
  ⟨hg.os.trans h.os, hg.tape.trans h.tape, hg.output.trans h.output, Nat.le_trans h.size hg.size, fun i hi hn => (hg.block i (Nat.lt_of_lt_of_le hi h.size) (fun e => (hr i e.symm).elim (fun h1 => by omega) (fun h1 => hn h1))).trans (h.block i hi hn)⟩
theorem Mv.cell {S : Nat → Prop} {w w' : World} (h : Mv S w w') {p : Addr} {v : Value} (hc : w.cell? p = some v) (hs : ¬ S p.block) : w'.cell? p = some v := by
  have hl : p.block < w.heap.size := by
    unfold World.cell? at hc
    cases e : w.heap[p.block]? with
    | none => rw [e] at hc; cases hc
    | some o => exact (Array.getElem?_eq_some_iff.1 e).1
  rw [← hc]; exact World.cell?_of_block (w := w) (h.block p.block hl hs)
theorem Mv.frozen {S : Nat → Prop} {w w' : World} (h : Mv S w w') {p : Addr} (hp : p.block < w.heap.size) (hs : ¬ S p.block) : w'.frozen? p = w.frozen? p := World.frozen?_of_block (w := w) (h.block p.block hp hs)

/-- The same but for draws. -/
structure Same (w w' : World) : Prop where
  heap : w'.heap = w.heap
  os : w'.os = w.os
  tape : w'.tape = w.tape
  output : w'.output = w.output
theorem Mv.same {S : Nat → Prop} {a w w' : World} (h : Mv S a w) (s : Same w w') : Mv S a w' := ⟨s.os.trans h.os, s.tape.trans h.tape, s.output.trans h.output, by rw [s.heap]; exact h.size, fun k hk hs => by rw [s.heap]; exact h.block k hk hs⟩
theorem own_same {w w' : World} {base : Nat} {e : TypeId} {size : Nat} {v : Value} {n : Nat} {xs : List Value} (h : w.ownsRow base e size v n xs) (s : Same w w') : w'.ownsRow base e size v n xs :=
  h.kept (row := none) ⟨s.os, s.tape, s.output, by rw [s.heap]; exact Nat.le_refl _, fun k _ _ => by rw [s.heap]⟩ (by cases v.ownBlock <;> simp)

theorem own_moved {S : Nat → Prop} {w w' : World} {base : Nat} {e : TypeId} {size : Nat} {v : Value} {n : Nat} {xs : List Value} (h : w.ownsRow base e size v n xs) (m : Mv S w w') (hs : ∀ k, base ≤ k → ¬ S k) : w'.ownsRow base e size v n xs := by
  refine ⟨h.1, ?_⟩
  rcases h.2 with hn | ⟨g, cap, cur, hv, hb, hh, r⟩
  · exact .inl hn
  · exact .inr ⟨g, cap, cur, hv, hb, (m.block g (Array.getElem?_eq_some_iff.1 hh).1 (hs g hb)).trans hh, r⟩

section
variable {K V : Type} [DecidableEq K]

/-- How keys lie in memory: 'ok' keys have a reading; different ones differ. -/
structure KM (P : Program) (k : TypeId) (mk : K → Value) (ok : K → Prop) : Prop where
  keyed : Keyed P k
  lit : ∀ x, ok x → ∃ l, keyOf P k (mk x) = some l
  inj : ∀ x y, mk x = mk y → x = y

/-- Block b is a map with these entries. -/
def ML (mk : K → Value) (mv : V → Value) (ok : K → Prop) (w : World) (b : Nat) (l : List (K × V)) : Prop :=
  ∃ es clock, w.heap[b]? = some (.map es clock) ∧ Stamped es clock ∧ es.toList.map (fun e => (e.key, e.val)) = l.map (fun p => (mk p.1, mv p.2)) ∧ ∀ p ∈ l, ok p.1

variable {P : Program} {k : TypeId} {mk : K → Value} {mv : V → Value} {ok : K → Prop} {w : World} {b : Nat} {l : List (K × V)}

theorem ML.lt (h : ML mk mv ok w b l) : b < w.heap.size := by
  obtain ⟨es, clock, hb, _⟩ := h
  exact (Array.getElem?_eq_some_iff.1 hb).1
theorem ML.kept {w' : World} (h : ML mk mv ok w b l) (he : w'.heap[b]? = w.heap[b]?) : ML mk mv ok w' b l := by
  obtain ⟨es, clock, hb, r⟩ := h
  exact ⟨es, clock, he.trans hb, r⟩
theorem ML.moved {S : Nat → Prop} {w' : World} (h : ML mk mv ok w b l) (m : Mv S w w') (hs : ¬ S b) : ML mk mv ok w' b l := h.kept (m.block b h.lt hs)
theorem ML.drewN (h : ML mk mv ok w b l) (n : Nat) : ML mk mv ok (w.drewN n) b l := h
theorem ML.made (mk : K → Value) (mv : V → Value) (ok : K → Prop) (w : World) : ML mk mv ok (w.alloc (.map #[] 0)) w.heap.size [] :=
  ⟨#[], 0, (MapKept.heap_alloc w _).1, stamped_empty 0, by simp, by simp⟩

/-- The entries, one by one. -/
theorem entries_at {es : List MapEntry} (h : es.map (fun e => (e.key, e.val)) = l.map (fun p => (mk p.1, mv p.2))) (j : Nat) (e : MapEntry) (he : es[j]? = some e) : ∃ p, l[j]? = some p ∧ e.key = mk p.1 ∧ e.val = mv p.2 := by
  have := congrArg (·[j]?) h
  simp only [List.getElem?_map, he, Option.map_some] at this
  cases hl : l[j]? with
  | none => rw [hl] at this; cases this
  | some p => rw [hl] at this; simp only [Option.map_some, Option.some.injEq, Prod.mk.injEq] at this; exact ⟨p, rfl, this.1, this.2⟩

theorem keys_of (h : ML mk mv ok w b l) (KK : KM P k mk ok) : (l.map (·.1)).Nodup := by
  obtain ⟨es, clock, hb, hst, he, hok⟩ := h
  have h3 := ((stamped_iff es clock).1 hst).2.2
  have h4 : (es.toList.map (fun e => (e.key, e.val))).Pairwise (fun p q => p.1 ≠ q.1) := List.pairwise_map.2 h3
  rw [he, List.pairwise_map] at h4
  exact List.pairwise_map.2 (h4.imp (fun hne e => hne (by rw [e])))

theorem lookup_of_mem (hn : (l.map (·.1)).Nodup) {p : K × V} (hp : p ∈ l) : l.lookup p.1 = some p.2 := by
  induction l with
  | nil => cases hp
  | cons q r ih =>
    rw [List.map_cons, List.nodup_cons] at hn
    rcases List.mem_cons.1 hp with rfl | hp
    · simp [List.lookup]
    · have hne : p.1 ≠ q.1 := fun e => hn.1 (e ▸ List.mem_map_of_mem hp)
      rw [List.lookup_cons, beq_eq_false_iff_ne.2 hne]
      exact ih hn.2 hp
theorem lookup_none {x : K} : l.lookup x = none ↔ ∀ p ∈ l, p.1 ≠ x := by
  induction l with
  | nil => simp
  | cons q r ih =>
    rw [List.lookup_cons]
    by_cases e : x = q.1
    · rw [beq_iff_eq.2 e]; simp [e]
    · rw [beq_eq_false_iff_ne.2 e]
      simp only [ih, List.mem_cons, forall_eq_or_imp]
      exact ⟨fun h => ⟨fun e' => e e'.symm, h⟩, fun h => h.2⟩

/-- What 'findKey' finds. -/
theorem find_ml (KK : KM P k mk ok) {es : Array MapEntry} {clock : Nat} (hst : Stamped es clock) (he : es.toList.map (fun e => (e.key, e.val)) = l.map (fun p => (mk p.1, mv p.2))) (hok : ∀ p ∈ l, ok p.1) (x : K) (hx : ok x) (w : World) :
    ((Instr.findKey k (mk x) es.toList).run P w = .ok none w ∧ l.lookup x = none) ∨
    ∃ j v, (Instr.findKey k (mk x) es.toList).run P w = .ok (some (j, mv v)) w ∧ l[j]? = some (x, v) ∧ l.lookup x = some v := by
  obtain ⟨lx, hlx⟩ := KK.lit x hx
  have hkeys : ∀ e ∈ es.toList, ∃ z, keyOf P k e.key = some z := by
    intro e hm
    obtain ⟨j, hj⟩ := List.mem_iff_getElem?.1 hm
    obtain ⟨p, hp, hk, _⟩ := entries_at he j e hj
    rw [hk]; exact KK.lit _ (hok p (List.mem_of_getElem? hp))
  have hn : (l.map (·.1)).Nodup := by
    have h3 := ((stamped_iff es clock).1 hst).2.2
    have h4 : (es.toList.map (fun e => (e.key, e.val))).Pairwise (fun p q => p.1 ≠ q.1) := List.pairwise_map.2 h3
    rw [he, List.pairwise_map] at h4
    exact List.pairwise_map.2 (h4.imp (fun hne e => hne (by rw [e])))
  rcases KK.keyed.find w hlx es.toList hkeys with ⟨h1, h2⟩ | ⟨j, e, h1, h2, h3⟩
  · refine Or.inl ⟨h1, lookup_none.2 (fun p hp e => ?_)⟩
    obtain ⟨j, hj⟩ := List.mem_iff_getElem?.1 hp
    have := congrArg (·[j]?) he
    simp only [List.getElem?_map, hj, Option.map_some] at this
    cases hl : es.toList[j]? with
    | none => rw [hl] at this; cases this
    | some e0 =>
      rw [hl] at this; simp only [Option.map_some, Option.some.injEq, Prod.mk.injEq] at this
      exact h2 e0 (List.mem_of_getElem? hl) (this.1.trans (by rw [e]))
  · obtain ⟨p, hp, hk, hv⟩ := entries_at he j e h2
    have ex : p.1 = x := KK.inj _ _ (hk.symm.trans h3)
    refine Or.inr ⟨j, p.2, by rw [← hv]; exact h1, by rw [hp, ← ex], ?_⟩
    rw [← ex]; exact lookup_of_mem hn (List.mem_of_getElem? hp)

/-- 'v, ok := m[k]'. -/
theorem ML.look {t e : TypeId} (h : ML mk mv ok w b l) (KK : KM P k mk ok) (ht : P.underlying t = some (.map k e)) {z : Value} (hz : (zeroValue e).run P w = .ok z w) (x : K) (hx : ok x) (c : Bool) :
    (Instr.lookup t (.map (some b)) (mk x) c).run P w = .ok (if c then .tuple #[((l.lookup x).map mv).getD z, .bool (l.lookup x).isSome] else ((l.lookup x).map mv).getD z) w := by
  obtain ⟨es, clock, hb, hst, he, hok⟩ := h
  obtain ⟨lx, hlx⟩ := KK.lit x hx
  rcases find_ml KK hst he hok x hx w with ⟨h1, h2⟩ | ⟨j, v, h1, h2, h3⟩
  · rw [h2]
    simp [Instr.lookup, run_underlying ht, MapKept.run_getObj_map hb, KK.keyed.check w _ hlx, h1, hz, Result.andThen]
  · rw [h3]
    simp [Instr.lookup, run_underlying ht, MapKept.run_getObj_map hb, KK.keyed.check w _ hlx, h1, Result.andThen]

theorem Mv.setBlock {es : Array MapEntry} {clock : Nat} (hb : w.heap[b]? = some (.map es clock)) (o : Obj) : Mv (· = b) w (ChangeMaps.setBlock w b o) :=
  ⟨rfl, rfl, rfl, by simp [ChangeMaps.setBlock], fun i _ hi => heap_setBlock_other hb _ hi⟩

/-- 'm[k] = v' at a key that is not there. -/
theorem ML.store {t e : TypeId} (h : ML mk mv ok w b l) (KK : KM P k mk ok) (ht : P.underlying t = some (.map k e)) (x : K) (hx : ok x) (v : V) (hn : l.lookup x = none) :
    ∃ w', (Instr.mapUpdate t (.map (some b)) (mk x) (mv v)).run P w = .ok () w' ∧ ML mk mv ok w' b (l ++ [(x, v)]) ∧ Mv (· = b) w w' := by
  obtain ⟨es, clock, hb, hst, he, hok⟩ := h
  obtain ⟨lx, hlx⟩ := KK.lit x hx
  rcases find_ml KK hst he hok x hx w with ⟨h1, h2⟩ | ⟨j, v, h1, h2, h3⟩
  · refine ⟨ChangeMaps.setBlock w b (.map (es.push { key := mk x, val := mv v, born := clock }) (clock + 1)), ?_, ⟨_, _, heap_setBlock_same hb _, stamped_push hst ?_, ?_, ?_⟩, Mv.setBlock hb _⟩
    · simp [Instr.mapUpdate, run_underlying ht, MapKept.run_getObj_map hb, KK.keyed.check w false hlx, h1, MapKept.run_setObj_map _ hb, Result.andThen, ChangeMaps.setBlock]
    · intro e hm eq
      obtain ⟨j, hj⟩ := List.mem_iff_getElem?.1 hm
      obtain ⟨p, hp, hk, _⟩ := entries_at he j e hj
      exact lookup_none.1 hn p (List.mem_of_getElem? hp) (KK.inj _ _ (hk.symm.trans eq))
    · simp [he]
    · intro p hp
      rcases List.mem_append.1 hp with hp | hp
      · exact hok p hp
      · simp only [List.mem_singleton] at hp; rw [hp]; exact hx
  · rw [hn] at h3; cases h3

theorem filter_ne_erase {l : List (K × V)} (hn : (l.map (·.1)).Nodup) {j : Nat} {x : K} {v : V} (hj : l[j]? = some (x, v)) : l.filter (fun p => p.1 != x) = l.eraseIdx j := by
  induction l generalizing j with
  | nil => simp at hj
  | cons q r ih =>
    rw [List.map_cons, List.nodup_cons] at hn
    cases j with
    | zero =>
      simp only [List.getElem?_cons_zero, Option.some.injEq] at hj
      have e1 : ((q.1 != x) = false) := by simp [hj]
      rw [List.filter_cons, e1, if_neg Bool.false_ne_true, List.eraseIdx_cons_zero]
      refine List.filter_eq_self.2 (fun p hp => ?_)
      simp only [bne_iff_ne, ne_eq]
      intro e
      have hm := List.mem_map_of_mem (f := Prod.fst) hp
      exact hn.1 (by rw [hj]; exact e ▸ hm)
    | succ j =>
      simp only [List.getElem?_cons_succ] at hj
      have e1 : (q.1 != x) = true := by
        simp only [bne_iff_ne, ne_eq]
        intro e; exact hn.1 (e ▸ List.mem_map_of_mem (List.mem_of_getElem? hj))
      rw [List.filter_cons, e1, if_pos rfl, List.eraseIdx_cons_succ, ih hn.2 hj]

/-- 'delete(m, k)'. -/
theorem ML.drop {t e : TypeId} (h : ML mk mv ok w b l) (KK : KM P k mk ok) (ht : P.underlying t = some (.map k e)) (x : K) (hx : ok x) (ty : TypeId) :
    ∃ w', (Builtin.delete_ #[t, k] ty #[.map (some b), mk x]).run P w = .ok (.tuple #[]) w' ∧ ML mk mv ok w' b (l.filter (fun p => p.1 != x)) ∧ Mv (· = b) w w' := by
  have hnd := keys_of h KK
  obtain ⟨es, clock, hb, hst, he, hok⟩ := h
  obtain ⟨lx, hlx⟩ := KK.lit x hx
  rcases find_ml KK hst he hok x hx w with ⟨h1, h2⟩ | ⟨j, v, h1, h2, h3⟩
  · have e1 : l.filter (fun p => p.1 != x) = l := List.filter_eq_self.2 (fun p hp => by simpa using lookup_none.1 h2 p hp)
    rw [e1]
    refine ⟨ChangeMaps.setBlock w b (.map es clock), ?_, ⟨_, _, heap_setBlock_same hb _, hst, he, hok⟩, Mv.setBlock hb _⟩
    simp [Builtin.delete_, run_underlying ht, MapKept.run_getObj_map hb, KK.keyed.check w _ hlx, h1, MapKept.run_setObj_map _ hb, Result.andThen, ChangeMaps.setBlock]
  · have hjl : j < es.toList.length := by
      have := congrArg List.length he
      simp only [List.length_map] at this
      rw [this]; exact (List.getElem?_eq_some_iff.1 h2).1
    have hjs : j < es.size := by simpa using hjl
    have hsub : (es.eraseIdxIfInBounds j).toList = es.toList.eraseIdx j := by
      unfold Array.eraseIdxIfInBounds
      rw [dif_pos hjs]
      simp
    refine ⟨ChangeMaps.setBlock w b (.map (es.eraseIdxIfInBounds j) clock), ?_, ⟨_, _, heap_setBlock_same hb _, stamped_erase hst j, ?_, fun p hp => hok p (List.mem_filter.1 hp).1⟩, Mv.setBlock hb _⟩
    · simp [Builtin.delete_, run_underlying ht, MapKept.run_getObj_map hb, KK.keyed.check w _ hlx, h1, MapKept.run_setObj_map _ hb, Result.andThen, ChangeMaps.setBlock]
    · rw [hsub, filter_ne_erase hnd h2, map_eraseIdx, map_eraseIdx, he]

/-- 'len(m)'. -/
theorem ML.len {t e : TypeId} (h : ML mk mv ok w b l) (ht : P.underlying t = some (.map k e)) (ty : TypeId) : (Builtin.len_ #[t] ty #[.map (some b)]).run P w = .ok (.int .i64 l.length) w := by
  obtain ⟨es, clock, hb, hst, he, hok⟩ := h
  have e1 : es.size = l.length := by have := congrArg List.length he; simpa using this
  rw [← e1]
  simp [Builtin.len_, run_underlying ht, MapKept.run_getObj_map hb, goInt, Result.andThen]

/-- 'clear(m)'. -/
theorem ML.clear {t e : TypeId} (h : ML mk mv ok w b l) (ht : P.underlying t = some (.map k e)) (ty : TypeId) :
    ∃ w', (Builtin.clear_ #[t] ty #[.map (some b)]).run P w = .ok (.tuple #[]) w' ∧ ML mk mv ok w' b [] ∧ Mv (· = b) w w' := by
  obtain ⟨es, clock, hb, hst, he, hok⟩ := h
  refine ⟨ChangeMaps.setBlock w b (.map #[] clock), ?_, ⟨_, _, heap_setBlock_same hb _, stamped_empty clock, by simp, by simp⟩, Mv.setBlock hb _⟩
  simp [Builtin.clear_, run_underlying ht, MapKept.run_getObj_map hb, MapKept.run_setObj_map _ hb, Result.andThen, ChangeMaps.setBlock]

/-- Block r is an iterator over the map b; 'left' is still to come. -/
def MI (mk : K → Value) (mv : V → Value) (ok : K → Prop) (w : World) (r b : Nat) (l left : List (K × V)) : Prop :=
  ∃ es clock seen, w.heap[b]? = some (.map es clock) ∧ Stamped es clock ∧ es.toList.map (fun e => (e.key, e.val)) = l.map (fun p => (mk p.1, mv p.2)) ∧ (∀ p ∈ l, ok p.1) ∧
    w.heap[r]? = some (.mapIter (some b) clock seen clock) ∧ (leftOf es seen).toList.map (fun e => (e.key, e.val)) = left.map (fun p => (mk p.1, mv p.2)) ∧ (∀ p ∈ left, p ∈ l)

theorem MI.ml {r : Nat} {left : List (K × V)} (h : MI mk mv ok w r b l left) : ML mk mv ok w b l := by
  obtain ⟨es, clock, seen, h1, h2, h3, h4, _⟩ := h
  exact ⟨es, clock, h1, h2, h3, h4⟩
theorem MI.kept {r : Nat} {left : List (K × V)} {w' : World} (h : MI mk mv ok w r b l left) (hb : w'.heap[b]? = w.heap[b]?) (hr : w'.heap[r]? = w.heap[r]?) : MI mk mv ok w' r b l left := by
  obtain ⟨es, clock, seen, h1, h2, h3, h4, h5, h6⟩ := h
  exact ⟨es, clock, seen, hb.trans h1, h2, h3, h4, hr.trans h5, h6⟩
theorem MI.moved {S : Nat → Prop} {r : Nat} {left : List (K × V)} {w' : World} (h : MI mk mv ok w r b l left) (m : Mv S w w') (hb : ¬ S b) (hr : ¬ S r) : MI mk mv ok w' r b l left := by
  have hb1 := h.ml.lt
  have hr1 : r < w.heap.size := by obtain ⟨es, clock, seen, h1, h2, h3, h4, h5, h6⟩ := h; exact (Array.getElem?_eq_some_iff.1 h5).1
  exact h.kept (m.block b hb1 hb) (m.block r hr1 hr)

/-- 'range m'. -/
theorem ML.range {t e : TypeId} (h : ML mk mv ok w b l) (ht : P.underlying t = some (.map k e)) :
    ∃ w', (Instr.range t (.map (some b))).run P w = .ok (.pointer (some ⟨w.heap.size, 0, none⟩)) w' ∧ MI mk mv ok w' w.heap.size b l l ∧ w'.heap.size = w.heap.size + 1 ∧ Mv (fun _ => False) w w' := by
  have hlt := h.lt
  obtain ⟨es, clock, hb, hst, he, hok⟩ := h
  refine ⟨w.alloc (.mapIter (some b) clock #[] clock), run_range_map w t k e b es clock ht hb, ⟨es, clock, #[], ?_, hst, he, hok, (MapKept.heap_alloc w _).1, ?_, fun _ h => h⟩, by simp, (Mv.refl _ w).alloc _⟩
  · rw [Below.heap_alloc _ _ _ hlt]; exact hb
  · have : leftOf es #[] = es := by unfold leftOf; exact Array.filter_eq_self.2 (fun _ _ => by simp)
    rw [this, he]

theorem inj_of_pw {α β : Type} {f : α → β} {l : List α} (h : l.Pairwise (fun x y => f x ≠ f y)) : ∀ x ∈ l, ∀ y ∈ l, f x = f y → x = y := by
  induction l with
  | nil => intro x hx; cases hx
  | cons a r ih =>
    obtain ⟨h1, h2⟩ := List.pairwise_cons.1 h
    intro x hx y hy e
    rcases List.mem_cons.1 hx with rfl | hx <;> rcases List.mem_cons.1 hy with rfl | hy
    · rfl
    · exact absurd e (h1 y hy)
    · exact absurd e.symm (h1 x (by assumption))
    · exact ih h2 x hx y hy e
open Classical in
/-- Two values differ. -/
noncomputable def vne {β : Type} (a b : β) : Bool := !decide (a = b)
theorem vne_true {β : Type} {a b : β} (h : a ≠ b) : vne a b = true := by simp [vne, h]
theorem vne_self {β : Type} (a : β) : vne a a = false := by simp [vne]
theorem erase_filter {α β : Type} {f : α → β} {l : List α} (h : l.Pairwise (fun x y => f x ≠ f y)) {j : Nat} {a : α} (hj : l[j]? = some a) : l.eraseIdx j = l.filter (fun y => vne (f y) (f a)) := by
  induction l generalizing j with
  | nil => simp at hj
  | cons q r ih =>
    obtain ⟨h1, h2⟩ := List.pairwise_cons.1 h
    cases j with
    | zero =>
      simp only [List.getElem?_cons_zero, Option.some.injEq] at hj
      subst hj
      rw [List.filter_cons, if_neg (by simp [vne_self]), List.eraseIdx_cons_zero]
      exact (List.filter_eq_self.2 (fun y hy => vne_true (fun e => h1 y hy e.symm))).symm
    | succ j =>
      simp only [List.getElem?_cons_succ] at hj
      rw [List.filter_cons, if_pos (vne_true (h1 a (List.mem_of_getElem? hj))), List.eraseIdx_cons_succ, ih h2 hj]
theorem left_push {es : Array MapEntry} {clock : Nat} (hst : Stamped es clock) (seen : Array Nat) (e : MapEntry) (he : e ∈ es.toList) :
    (leftOf es (seen.push e.born)).toList = (leftOf es seen).toList.filter (fun y => vne y.key e.key) := by
  have hs := (stamped_iff es clock).1 hst
  have hinj : ∀ y ∈ es.toList, y.born = e.born → y = e := by
    intro y hy hb
    have hb2 : es.toList.Pairwise (fun x y => x.born ≠ y.born) := List.pairwise_map.1 (List.nodup_iff_pairwise_ne.1 hs.2.1)
    exact inj_of_pw (f := MapEntry.born) hb2 y hy e he hb
  have hkinj : ∀ y ∈ es.toList, y.key = e.key → y = e := by
    intro y hy hb
    exact inj_of_pw (f := (·.key)) hs.2.2 y hy e he hb
  unfold leftOf
  simp only [Array.toList_filter, List.filter_filter]
  refine List.filter_congr (fun y hy => ?_)
  have e1 : (vne y.key e.key) = !(y.born == e.born) := by
    by_cases hq : y = e
    · simp [hq, vne_self]
    · have n1 : y.key ≠ e.key := fun h => hq (hkinj y hy h)
      have n2 : y.born ≠ e.born := fun h => hq (hinj y hy h)
      simp [vne_true n1, n2]
  rw [e1]
  simp only [Array.contains_push]
  cases hh : (y.born == e.born) <;> cases seen.contains y.born <;> simp_all

theorem map_filter_key {es : List MapEntry} {left : List (K × V)} (KK : ∀ x y, mk x = mk y → x = y) (h : es.map (fun e => (e.key, e.val)) = left.map (fun p => (mk p.1, mv p.2))) (x : K) :
    (es.filter (fun y => vne y.key (mk x))).map (fun e => (e.key, e.val)) = (left.filter (fun p => p.1 != x)).map (fun p => (mk p.1, mv p.2)) := by
  induction es generalizing left with
  | nil => cases left with
    | nil => rfl
    | cons p r => simp at h
  | cons e r ih => cases left with
    | nil => simp at h
    | cons p q =>
      simp only [List.map_cons, List.cons.injEq, Prod.mk.injEq] at h
      obtain ⟨⟨hk, hv⟩, hr⟩ := h
      have e1 : vne e.key (mk x) = (p.1 != x) := by
        rw [hk]
        by_cases hx : p.1 = x
        · simp [hx, vne_self]
        · have : mk p.1 ≠ mk x := fun h => hx (KK _ _ h)
          simp [hx, vne_true this]
      rw [List.filter_cons, List.filter_cons, e1]
      cases p.1 != x
      · simpa using ih hr
      · simp only [if_pos, List.map_cons]; rw [ih hr, hk, hv]

/-- The step. -/
theorem MI.next {r : Nat} {left : List (K × V)} (h : MI mk mv ok w r b l left) (KK : KM P k mk ok) (ty : TypeId) :
    (left = [] ∧ (Instr.next (.pointer (some ⟨r, 0, none⟩)) false ty).run P w = .ok (.tuple #[.bool false]) w) ∨
    ∃ p w', p ∈ left ∧ p ∈ l ∧ (Instr.next (.pointer (some ⟨r, 0, none⟩)) false ty).run P w = .ok (.tuple #[.bool true, mk p.1, mv p.2]) w' ∧ MI mk mv ok w' r b l (left.filter (fun q => q.1 != p.1)) ∧ Mv (· = r) w w' ∧ w'.heap.size = w.heap.size ∧
      (Instr.entry (.pointer (some ⟨r, 0, none⟩))).run P w' = .ok (.tuple #[mk p.1, mv p.2]) w' := by
  obtain ⟨es, clock, seen, hb, hst, he, hok, hr, hl, hlo⟩ := h
  have hs := (stamped_iff es clock).1 hst
  have hne : b ≠ r := fun e => by rw [e, hr] at hb; cases hb
  rcases run_next_at (P := P) w ty r b clock clock seen es clock hr hb (fun x hx => hs.1 x hx) (Nat.le_refl _) with ⟨h0, hrun⟩ | ⟨e, hm, w1, hw1, hrun⟩
  · left
    refine ⟨?_, hrun⟩
    have := congrArg List.length hl
    simp only [List.length_map, Array.length_toList, h0] at this
    exact List.eq_nil_of_length_eq_zero this.symm
  · right
    have hme : e ∈ es.toList := by unfold leftOf at hm; simp at hm ⊢; exact hm.1
    obtain ⟨j, hj⟩ := List.mem_iff_getElem?.1 hm
    obtain ⟨p, hp, hk, hv⟩ := entries_at hl j e hj
    have hw1b : w1.heap[b]? = some (.map es clock) := by rcases hw1 with rfl | rfl <;> exact hb
    have hw1r : w1.heap[r]? = some (.mapIter (some b) clock seen clock) := by rcases hw1 with rfl | rfl <;> exact hr
    have hrs : r < w1.heap.size := (Array.getElem?_eq_some_iff.1 hw1r).1
    have sr : (ChangeMaps.setBlock w1 r (.mapIter (some b) clock (seen.push e.born) clock)).heap[r]? = some (.mapIter (some b) clock (seen.push e.born) clock) := by
      simp [ChangeMaps.setBlock, hrs]
    have sb : ∀ i, i ≠ r → (ChangeMaps.setBlock w1 r (.mapIter (some b) clock (seen.push e.born) clock)).heap[i]? = w1.heap[i]? := by
      intro i hi
      simp [ChangeMaps.setBlock, Ne.symm hi]
    refine ⟨p, _, List.mem_of_getElem? hp, hlo p (List.mem_of_getElem? hp), by rw [hrun, hk, hv], ⟨es, clock, seen.push e.born, (sb b hne).trans hw1b, hst, he, hok, sr, ?_, fun q hq => hlo q (List.mem_filter.1 hq).1⟩, ?_, ?_, ?_⟩
    · rw [left_push hst seen e hme, hk]; exact map_filter_key KK.inj hl p.1
    · rcases hw1 with rfl | rfl
      · exact ⟨rfl, rfl, rfl, by simp [ChangeMaps.setBlock], fun i _ hi => sb i hi⟩
      · exact ⟨rfl, rfl, rfl, (by simp [ChangeMaps.setBlock]), fun i _ hi => sb i hi⟩
    · rcases hw1 with rfl | rfl <;> simp [ChangeMaps.setBlock]
    · have := run_entry_at (P := P) (ChangeMaps.setBlock w1 r (.mapIter (some b) clock (seen.push e.born) clock)) r b clock seen es clock e sr ((sb b hne).trans hw1b) hme hs.2.1
      rw [this, hk, hv]

/-- 'delete' within the loop. -/
theorem MI.drop {t e : TypeId} {r : Nat} {left : List (K × V)} (h : MI mk mv ok w r b l left) (KK : KM P k mk ok) (ht : P.underlying t = some (.map k e)) (x : K) (hx : ok x) (ty : TypeId) :
    ∃ w', (Builtin.delete_ #[t, k] ty #[.map (some b), mk x]).run P w = .ok (.tuple #[]) w' ∧ MI mk mv ok w' r b (l.filter (fun p => p.1 != x)) (left.filter (fun p => p.1 != x)) ∧ Mv (· = b) w w' := by
  have hnd := keys_of h.ml KK
  obtain ⟨es, clock, seen, hb, hst, he, hok, hr, hl, hlo⟩ := h
  have hne : r ≠ b := fun e => by rw [← e, hr] at hb; cases hb
  obtain ⟨lx, hlx⟩ := KK.lit x hx
  rcases find_ml KK hst he hok x hx w with ⟨h1, h2⟩ | ⟨j, v, h1, h2, h3⟩
  · have e1 : l.filter (fun p => p.1 != x) = l := List.filter_eq_self.2 (fun p hp => by simpa using lookup_none.1 h2 p hp)
    have e2 : left.filter (fun p => p.1 != x) = left := by
      exact List.filter_eq_self.2 (fun p hp => by simpa using lookup_none.1 h2 p (hlo p hp))
    rw [e1, e2]
    refine ⟨ChangeMaps.setBlock w b (.map es clock), ?_, ⟨es, clock, seen, heap_setBlock_same hb _, hst, he, hok, (heap_setBlock_other hb _ hne).trans hr, hl, hlo⟩, Mv.setBlock hb _⟩
    simp [Builtin.delete_, run_underlying ht, MapKept.run_getObj_map hb, KK.keyed.check w _ hlx, h1, MapKept.run_setObj_map _ hb, Result.andThen, ChangeMaps.setBlock]
  · have hjl : j < es.toList.length := by
      have := congrArg List.length he
      simp only [List.length_map] at this
      rw [this]; exact (List.getElem?_eq_some_iff.1 h2).1
    have hjs : j < es.size := by simpa using hjl
    have hsub : (es.eraseIdxIfInBounds j).toList = es.toList.eraseIdx j := by
      unfold Array.eraseIdxIfInBounds
      rw [dif_pos hjs]
      simp
    have hfil : es.toList.eraseIdx j = es.toList.filter (fun y => vne y.key (mk x)) := by
      cases hq : es.toList[j]? with
      | none => rw [List.getElem?_eq_none_iff] at hq; omega
      | some e0 =>
        obtain ⟨p', hp', hk', hv'⟩ := entries_at he j e0 hq
        rw [h2, Option.some.injEq] at hp'
        rw [erase_filter (f := (·.key)) ((stamped_iff es clock).1 hst).2.2 hq, hk', ← hp']
    refine ⟨ChangeMaps.setBlock w b (.map (es.eraseIdxIfInBounds j) clock), ?_, ⟨_, _, seen, heap_setBlock_same hb _, stamped_erase hst j, ?_, fun p hp => hok p (List.mem_filter.1 hp).1, (heap_setBlock_other hb _ hne).trans hr, ?_, fun p hp => List.mem_filter.2 ⟨hlo p (List.mem_filter.1 hp).1, (List.mem_filter.1 hp).2⟩⟩, Mv.setBlock hb _⟩
    · simp [Builtin.delete_, run_underlying ht, MapKept.run_getObj_map hb, KK.keyed.check w _ hlx, h1, MapKept.run_setObj_map _ hb, Result.andThen, ChangeMaps.setBlock]
    · rw [hsub, filter_ne_erase hnd h2, map_eraseIdx, map_eraseIdx, he]
    · have : (leftOf (es.eraseIdxIfInBounds j) seen).toList = (leftOf es seen).toList.filter (fun y => vne y.key (mk x)) := by
        unfold leftOf
        rw [Array.toList_filter, Array.toList_filter, hsub, hfil, List.filter_filter, List.filter_filter]
        exact List.filter_congr (fun y _ => Bool.and_comm _ _)
      rw [this]; exact map_filter_key KK.inj hl x
end
end Go.Proofs.Ytbidgeaigiijpaa
