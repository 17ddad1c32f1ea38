/- What is proved: rows of numbers that came as arguments; rows of a variable's own; counts; parts under way. Conditions: those that stand in each theorem. -/
import Derived.Test.YtnghmaejmfhigaaDefOrd
import Derived.ChangeSlices
namespace Go.Proofs.Ytnghmaejmfhigaa
set_option linter.unusedVariables false
set_option linter.unusedSimpArgs false
set_option linter.unusedSectionVars false
open Go.RowKit Go.Maps Go.MapKept Go.ChangeMaps Go.ChangeShapes Fw
/-- A row of numbers that came as an argument. -/
def RowK (k : IntKind) (w : World) (a : Option Addr) (l : List Int) : Prop := ∀ i v, l[i]? = some v → ∃ x, a = some x ∧ w.cell? (x.add i) = some (.int k v)
theorem open_row {H : Type} {enc : TypeId × Value → H} {P : Program} {W : World} {t e : TypeId} {k : IntKind} {a : Option Addr} {len cap : Nat} {d : DataW H} {ps : List MemPlace}
    (ht : P.underlying t = some (.slice e)) (he : P.underlying e = some (.int k)) (hc : P.cellsOf e = 1) (h : DataW.Trod enc P W 0 (fun _ => true) true t (.slice a len cap) d ps) :
    ∃ l : List Int, len = l.length ∧ RowK k W a l ∧ ∀ n ∈ l, (Lit.int k n).wf = true := by
  obtain ⟨fuel, hf⟩ := h
  rcases open_ints ht he hc hf with ⟨hcs, _⟩ | ⟨x, l, c, ss, hcs, _, hl, hm, hz, _, hcell, hws⟩
  · simp [Value.cells] at hcs
    obtain ⟨rfl, rfl, rfl⟩ := hcs
    exact ⟨[], rfl, fun i v hi => by simp at hi, fun s hs => by cases hs⟩
  · simp [Value.cells] at hcs
    obtain ⟨rfl, rfl, rfl⟩ := hcs
    have hz' : ss.length = cap := by simpa using hz
    refine ⟨ss.take len, by simp; omega, fun i v hi => ⟨x, rfl, ?_⟩, fun s hs => hws s (List.mem_of_mem_take hs)⟩
    obtain ⟨hlt, hv⟩ := List.getElem?_eq_some_iff.1 hi
    simp only [List.length_take] at hlt
    rw [hcell i (by omega), List.getD_eq_getElem?_getD, List.getElem?_eq_getElem (by omega), Option.getD_some]
    rw [← hv, List.getElem_take]
/-- A row's own value. -/
theorem own_slice {w : World} {e : TypeId} {v : Value} {xs : List Value} (h : Own w e v xs) : ∃ a c, v = .slice a xs.length c ∧ xs.length ≤ c ∧ (a = none → xs = [] ∧ c = 0) ∧ ∀ b, a = some b → b = ⟨b.block, 0, none⟩ ∧ v.ownBlock = some b.block := by
  rcases h.2 with ⟨rfl, hn⟩ | ⟨g, cap, cur, rfl, hb, hg, hnc, _⟩
  · refine ⟨none, 0, by rw [hn], by omega, fun _ => ⟨List.eq_nil_of_length_eq_zero hn, rfl⟩, fun b hb => by cases hb⟩
  · exact ⟨some ⟨g, 0, none⟩, cap, rfl, hnc, (fun h => by cases h), fun b hb => by cases hb; exact ⟨rfl, rfl⟩⟩
theorem own_blk {w : World} {e : TypeId} {v : Value} {xs : List Value} (h : Own w e v xs) (k : Nat) (hk : v.ownBlock = some k) : ∃ cur, w.heap[k]? = some (.cells cur e (0, 0)) := by
  rcases h.2 with ⟨rfl, _⟩ | ⟨g, cap, cur, rfl, _, hg, _⟩
  · cases hk
  · have e1 : g = k := Option.some.inj hk
    rw [e1] at hg
    exact ⟨cur, hg⟩
theorem own_ne {w : World} {e e' : TypeId} {v v' : Value} {xs xs' : List Value} (h : Own w e v xs) (h' : Own w e' v' xs') (he : e ≠ e') (k : Nat) (hk : v.ownBlock = some k) : v'.ownBlock ≠ some k := by
  intro hk'
  obtain ⟨c, hc⟩ := own_blk h k hk
  obtain ⟨c', hc'⟩ := own_blk h' k hk'
  rw [hc] at hc'
  injection hc' with h1
  injection h1 with _ h2
  exact he h2
/-- One that is not empty: its block, and what stands in it. -/
theorem own_pos {w : World} {e : TypeId} {v : Value} {xs : List Value} (h : Own w e v xs) (hp : 0 < xs.length) : ∃ g c, v = .slice (some ⟨g, 0, none⟩) xs.length c ∧ v.ownBlock = some g ∧ (∀ i u, xs[i]? = some u → w.cell? ⟨g, 0 + i, none⟩ = some u) ∧
    ∃ cs : List Value, w.heap[g]? = some (.cells cs.toArray e (0, 0)) ∧ xs.length ≤ cs.length ∧ ∀ (w' : World) (i : Nat) (u : Value), i < xs.length → w'.heap[g]? = some (.cells (wr cs i [u]).toArray e (0, 0)) → Own w' e v (xs.set i u) := by
  have hh := h
  rcases h.2 with ⟨rfl, hn⟩ | ⟨g, cap, cur, rfl, hb, hg, hnc, hcm, hcs, ht⟩
  · omega
  · refine ⟨g, cap, rfl, rfl, fun i u hi => ?_, cur.toList, by rw [Array.toArray_toList]; exact hg, by have := Array.length_toList (xs := cur); omega, fun w' i u hi hw' => ?_⟩
    · have := World.ownsRow.cells (g := g) hh rfl i u hi
      rwa [Addr.add_lit] at this
    · have e1 : wr cur.toList i [u] = cur.toList.set i u := by
        unfold wr
        simp only [List.length_singleton]
        rw [List.set_eq_take_append_cons_drop, if_pos (by have := Array.length_toList (xs := cur); omega)]
        simp
      rw [e1] at hw'
      refine ⟨by rw [List.length_set, Nat.mul_one], .inr ⟨g, cap, (cur.toList.set i u).toArray, by rw [List.length_set], hb, hw', by rw [List.length_set]; exact hnc, hcm, by simp; omega, ?_⟩⟩
      rw [List.length_set, List.take_set, ht]
theorem set_one (a : Array Value) (h : a.size = 1) (u : Value) : a.setIfInBounds 0 u = #[u] := by
  obtain ⟨l⟩ := a
  match l, h with
  | [x], _ => rfl
theorem fill_one (z u : Value) (hz : z.cells = #[z]) (hu : u.cells = #[u]) : Instr.fill (fun i => some (i * 1, 1)) ((Array.range (1 * 1)).map (z.cells[· % z.cells.size]!)) [(0, u)] = some [u].toArray := by
  rw [hz]
  simp only [Instr.fill, hu]
  simp [Array.range, set_one]
theorem reads_one (w : World) (e : TypeId) (u : Value) : Reads (w.alloc (.cells [u].toArray e)) (.slice (some ⟨w.heap.size, 0, none⟩) 1 1) [u] := by
  refine ⟨_, _, _, rfl, rfl, fun h => (by cases h), fun j v hj => ?_⟩
  cases j with
  | zero =>
    obtain rfl : u = v := by simpa using hj
    refine ⟨_, rfl, ?_⟩
    rw [Addr.add_lit]
    unfold World.cell?
    have := heap_alloc_new w (.cells [u].toArray e)
    simp only [this]
    rfl
  | succ j => simp at hj
theorem info_parts {P : Program} {t : TypeId} {z : Value} {n b : Nat} (h : (P.info? t).map (fun i => (i.zero, i.size, i.bytes)) = some (some z, n, b)) : ∃ i, P.info? t = some i ∧ i.zero = some z ∧ i.size = n ∧ i.bytes = b := by
  obtain ⟨i, hi, he⟩ := Option.map_eq_some_iff.1 h
  simp only [Prod.mk.injEq] at he
  exact ⟨i, hi, he.1, he.2.1, he.2.2⟩
theorem info_int : ∃ i, Try.prog.info? 3 = some i ∧ i.zero = some (.int .i64 0) ∧ i.size = 1 ∧ i.bytes = 8 := info_parts (by kernel_rfl)
theorem info_bool : ∃ i, Try.prog.info? 4 = some i ∧ i.zero = some (.bool false) ∧ i.size = 1 ∧ i.bytes = 1 := info_parts (by kernel_rfl)
theorem und_ints : Try.prog.underlying 34 = some (.slice 3) := by kernel_rfl
theorem und_bools : Try.prog.underlying 35 = some (.slice 4) := by kernel_rfl
/-- A table beside a row that is changed. -/
theorem TS.row {w0 w w' : World} {t e : Nat} {most ticks : Int} {T : List (KeyV × EV)} {v : Value} {xs : List Value} (h : TS w0 w t most ticks T) (ho : Own w e v xs) (h1 : e ≠ 51) (h2 : e ≠ 57) (hf : ∀ k, v.ownBlock = some k → w0.heap.size ≤ k) (mv : Mv (fun k => v.ownBlock = some k) w w') : TS w0 w' t most ticks T := by
  obtain ⟨m, L, hA, hT, hm, hfr⟩ := h
  refine ⟨m, L, hA.moved mv (fun k hk e' => ?_), hT, hm.cut mv (fun k hk e' => by have := hf k e'; omega), hfr⟩
  obtain ⟨cur, hc⟩ := own_blk ho k e'
  exact hA.off hc h1 h2 k hk rfl
theorem own_keep {w w' : World} {e : TypeId} {v : Value} {xs : List Value} (h : Own w e v xs) (k : Keep w w') (h1 : e ≠ 51) (h2 : e ≠ 57) : Own w' e v xs := by
  refine ⟨h.1, ?_⟩
  rcases h.2 with h' | ⟨g, cap, cur, hv, hb, hg, rest⟩
  · exact .inl h'
  · exact .inr ⟨g, cap, cur, hv, hb, k g cur e hg h1 h2, rest⟩
theorem own_beside {w w' : World} {e r T : Nat} {v : Value} {xs : List Value} {cs : Array Value} (h : Own w e v xs) (mv : Mv (· = r) w w') (hr : w.heap[r]? = some (.cells cs T (0, 0))) (hT : e ≠ T) : Own w' e v xs := h.moved mv fun k hk ek => by
  obtain ⟨cur, hc⟩ := own_blk h k hk
  rw [ek, hr] at hc
  injection hc with h1
  injection h1 with _ h2
  exact hT h2.symm
/-! ### Counts -/
theorem count_set {l : List Bool} {k : Nat} (h : l.getD k true = false) : (l.set k true).count false + 1 = l.count false := by
  induction l generalizing k with
  | nil => simp at h
  | cons b r ih =>
    cases k with
    | zero =>
      have : b = false := h
      subst this
      simp
    | succ k =>
      have := ih (k := k) (by simpa using h)
      simp only [List.set_cons_succ, List.count_cons]
      omega
theorem set_same {l : List Bool} {k : Nat} (h : l.getD k false = true) : l.set k true = l := by
  induction l generalizing k with
  | nil => rfl
  | cons b r ih =>
    cases k with
    | zero =>
      have : b = true := h
      subst this
      rfl
    | succ k =>
      rw [List.set_cons_succ, ih (by simpa using h)]
theorem count_zero {l : List Bool} : l.count false = 0 ↔ ∀ j, j < l.length → l.getD j false = true := by
  rw [List.count_eq_zero]
  constructor
  · intro h j hj
    cases hc : l.getD j false with
    | true => rfl
    | false =>
      exfalso
      apply h
      rw [List.getD_eq_getElem?_getD, List.getElem?_eq_getElem hj] at hc
      have : l[j] = false := hc
      exact this ▸ List.getElem_mem hj
  · intro h hm
    obtain ⟨j, hj, e⟩ := List.mem_iff_getElem.1 hm
    have := h j hj
    rw [List.getD_eq_getElem?_getD, List.getElem?_eq_getElem hj] at this
    have : l[j] = true := this
    rw [e] at this; cases this
theorem count_pos {l : List Bool} (h : l.count false ≠ 0) : ∃ j, j < l.length ∧ l.getD j false = false := by
  have hm : false ∈ l := by
    by_cases hm : false ∈ l
    · exact hm
    · exact absurd (List.count_eq_zero.2 hm) h
  obtain ⟨j, hj, e⟩ := List.mem_iff_getElem.1 hm
  refine ⟨j, hj, ?_⟩
  rw [List.getD_eq_getElem?_getD, List.getElem?_eq_getElem hj]
  exact e
/-! ### Parts under way -/
structure Pre (N : Nat) (A B : List Nat) (k : Nat) : Prop where
  len : A.length = B.length
  z : A.getD 0 0 = 0
  e0 : A.length = 0 → k = 0
  nx : ∀ j, j + 1 < A.length → A.getD (j + 1) 0 = A.getD j 0 + B.getD j 0
  la : ∀ j, j + 1 = A.length → A.getD j 0 + B.getD j 0 = k
  b1 : ∀ j, j < A.length → 1 ≤ B.getD j 0
  m8 : ∀ j, j + 1 < A.length → B.getD j 0 % 8 = 0
  l8 : k < N → ∀ j, j + 1 = A.length → B.getD j 0 % 8 = 0
  kN : k ≤ N
  few : A.length ≤ k
theorem getD_app {l : List Nat} (x j : Nat) : (l ++ [x]).getD j 0 = if j < l.length then l.getD j 0 else if j = l.length then x else 0 := by
  rw [List.getD_eq_getElem?_getD, List.getD_eq_getElem?_getD, List.getElem?_append]
  by_cases h : j < l.length
  · rw [if_pos h, if_pos h]
  · rw [if_neg h, if_neg h]
    by_cases h2 : j = l.length
    · rw [if_pos h2, h2, Nat.sub_self]; rfl
    · rw [if_neg h2, List.getElem?_eq_none (by simp; omega)]; rfl
theorem Pre.nil (N : Nat) : Pre N [] [] 0 := ⟨rfl, rfl, fun _ => rfl, fun j h => by simp at h, fun j h => by simp at h, fun j h => by simp at h, fun j h => by simp at h, fun _ j h => by simp at h, Nat.zero_le _, Nat.le_refl _⟩
theorem Pre.push {N : Nat} {A B : List Nat} {k v : Nat} (P : Pre N A B k) (hk : k < N) (hv : 1 ≤ v) (hvN : k + v ≤ N) (h8 : k + v < N → v % 8 = 0) : Pre N (A ++ [k]) (B ++ [v]) (k + v) := by
  have hl := P.len
  refine ⟨by simp [hl], ?_, fun h => by simp at h, fun j hj => ?_, fun j hj => ?_, fun j hj => ?_, fun j hj => ?_, fun hkv j hj => ?_, hvN, by rw [List.length_append, List.length_singleton]; have := P.few; omega⟩
  · rw [getD_app]
    split
    · exact P.z
    · rename_i h
      have : A.length = 0 := by omega
      rw [if_pos this.symm]; exact P.e0 this
  · rw [List.length_append, List.length_singleton] at hj
    rw [getD_app, getD_app, getD_app, if_pos (show j < A.length by omega), if_pos (show j < B.length by omega)]
    by_cases h : j + 1 < A.length
    · rw [if_pos h]; exact P.nx j h
    · rw [if_neg h, if_pos (show j + 1 = A.length by omega)]
      exact (P.la j (by omega)).symm
  · rw [List.length_append, List.length_singleton] at hj
    rw [getD_app, getD_app, if_neg (show ¬ j < A.length by omega), if_neg (show ¬ j < B.length by omega), if_pos (show j = A.length by omega), if_pos (show j = B.length by omega)]
  · rw [List.length_append, List.length_singleton] at hj
    rw [getD_app]
    by_cases h : j < B.length
    · rw [if_pos h]; exact P.b1 j (by omega)
    · rw [if_neg h, if_pos (by omega)]; exact hv
  · rw [List.length_append, List.length_singleton] at hj
    rw [getD_app, if_pos (show j < B.length by omega)]
    by_cases h : j + 1 < A.length
    · exact P.m8 j h
    · exact P.l8 hk j (by omega)
  · rw [List.length_append, List.length_singleton] at hj
    rw [getD_app, if_neg (show ¬ j < B.length by omega), if_pos (by omega)]
    exact h8 hkv
theorem Pre.parts {N : Nat} {A B : List Nat} (P : Pre N A B N) : Parts N A B := ⟨P.len, P.z, P.nx, P.la, P.b1, P.m8⟩
def ints (l : List Nat) : List Value := l.map fun n : Nat => .int .i64 (n : Int)
theorem ints_at {l : List Nat} {j : Nat} (h : j < l.length) : (ints l)[j]? = some (.int .i64 ((l.getD j 0 : Nat) : Int)) := by
  unfold ints
  rw [List.getElem?_map, List.getElem?_eq_getElem h, List.getD_eq_getElem?_getD, List.getElem?_eq_getElem h]
  rfl
theorem bools_at {l : List Bool} {j : Nat} (h : j < l.length) : (l.map Value.bool)[j]? = some (.bool (l.getD j false)) := by
  rw [List.getElem?_map, List.getElem?_eq_getElem h, List.getD_eq_getElem?_getD, List.getElem?_eq_getElem h]
  rfl
end Go.Proofs.Ytnghmaejmfhigaa
