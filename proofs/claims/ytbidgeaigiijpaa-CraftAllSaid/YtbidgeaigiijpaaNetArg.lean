/- What is proved: arguments that read as data, laid open: structs field by field, rows of elements. Conditions: those that stand in each theorem. -/
import Derived.Test.YtbidgeaigiijpaaNetBase
import Derived.Deep.Slices
import Derived.ChangeSlices
namespace Go.Proofs.Ytbidgeaigiijpaa
set_option linter.unusedVariables false
set_option linter.unusedSimpArgs false
set_option linter.unusedSectionVars false
open Go.RowKit Go.ChangeShapes Fw
theorem take_one {α : Type} {cs : List α} {o : Nat} {v : α} (h : (cs.drop o).take 1 = [v]) : cs[o]? = some v := by
  have h1 : ((cs.drop o).take 1)[0]? = some v := by rw [h]; rfl
  rw [List.getElem?_take, if_pos (by decide), List.getElem?_drop] at h1
  exact h1
theorem take_two {α : Type} {cs : List α} {o : Nat} {u v : α} (h : (cs.drop o).take 2 = [u, v]) : cs[o]? = some u ∧ cs[o + 1]? = some v := by
  have h1 : ((cs.drop o).take 2)[0]? = some u := by rw [h]; rfl
  have h2 : ((cs.drop o).take 2)[1]? = some v := by rw [h]; rfl
  rw [List.getElem?_take, if_pos (by decide), List.getElem?_drop] at h1 h2
  exact ⟨h1, h2⟩
theorem list_is {α : Type} {cs L : List α} (hl : cs.length = L.length) (h : ∀ (j : Nat) (u : α), L[j]? = some u → cs[j]? = some u) : cs = L := by
  refine List.ext_getElem? fun j => ?_
  cases hj : L[j]? with
  | some u => exact h j u hj
  | none => rw [List.getElem?_eq_none_iff] at hj ⊢; omega
/-- The fields of a struct type. -/
def fieldsOfP (P : Program) (t : Nat) : List (Nat × Nat) := match P.underlying t with | some (.struct fs) => fs.toList.map (fun f => (f.offset, f.type)) | _ => []
def structBP (P : Program) (t : Nat) : Bool := match P.underlying t with | some (.struct _) => true | _ => false
section
variable {H : Type} {enc : TypeId × Value → H} {W : World}
/-- A struct's cells, as they read: what each field's cells read. -/
structure Opn (enc : TypeId × Value → H) (W : World) (t : Nat) (cs : List Value) (l : List (Nat × Nat)) (m : Nat) : Prop where
  len : cs.length = Try.prog.cellsOf t
  fld : ∀ (i o e : Nat), l[i]? = some (o, e) → ∃ y, DataW.trod enc Try.prog W 0 (fun _ => true) true m e ((cs.drop o).take (Try.prog.cellsOf e)) = some y
theorem opn {t n : Nat} {cs : List Value} {r : DataW H × List MemPlace} {l : List (Nat × Nat)} (hs : structBP Try.prog t = true) (hl : fieldsOfP Try.prog t = l) (h : DataW.trod enc Try.prog W 0 (fun _ => true) true n t cs = some r) : ∃ m, Opn enc W t cs l m := by
  unfold structBP at hs
  unfold fieldsOfP at hl
  cases hu : Try.prog.underlying t with
  | none => rw [hu] at hs; cases hs
  | some u =>
    rw [hu] at hs hl
    cases u with
    | struct fs =>
      obtain ⟨xs, m, _, _, hlen, hx, hfd⟩ := DataW.trod_struct hu h
      refine ⟨m, hlen, fun i o e hi => ?_⟩
      have hl : fs.toList.map (fun f => (f.offset, f.type)) = l := hl
      rw [← hl, List.getElem?_map, Option.map_eq_some_iff] at hi
      obtain ⟨f, hf, e2⟩ := hi
      rw [Array.getElem?_toList] at hf
      injection e2 with e1 e2
      subst e1 e2
      have hlt : i < xs.length := by rw [hx]; exact (Array.getElem?_eq_some_iff.1 hf).1
      have := hfd i f hf
      rw [List.getElem?_eq_getElem hlt] at this
      exact ⟨_, this⟩
    | _ => cases hs
variable {t m : Nat} {cs : List Value} {l : List (Nat × Nat)}
theorem Opn.int (h : Opn enc W t cs l m) {k : IntKind} {i o e : Nat} (hi : l[i]? = some (o, e)) (he : Try.prog.underlying e = some (.int k)) (hz : Try.prog.cellsOf e = 1) : ∃ v, cs[o]? = some (.int k v) ∧ (Lit.int k v).wf = true := by
  obtain ⟨y, hy⟩ := h.fld i o e hi
  rw [hz] at hy
  obtain ⟨v, e, _, hw⟩ := DataW.trod_int he hy
  exact ⟨v, take_one e, hw⟩
theorem Opn.bool (h : Opn enc W t cs l m) {i o e : Nat} (hi : l[i]? = some (o, e)) (he : Try.prog.underlying e = some .bool) (hz : Try.prog.cellsOf e = 1) : ∃ v, cs[o]? = some (.bool v) := by
  obtain ⟨y, hy⟩ := h.fld i o e hi
  rw [hz] at hy
  obtain ⟨v, e, _⟩ := DataW.trod_bool he hy
  exact ⟨v, take_one e⟩
theorem Opn.str (h : Opn enc W t cs l m) {i o e : Nat} (hi : l[i]? = some (o, e)) (he : Try.prog.underlying e = some .string) (hz : Try.prog.cellsOf e = 1) : ∃ v : ByteArray, cs[o]? = some (.string v) ∧ v.size ≤ maxLen := by
  obtain ⟨y, hy⟩ := h.fld i o e hi
  rw [hz] at hy
  obtain ⟨v, e, _, hw⟩ := DataW.trod_string he hy
  exact ⟨v, take_one e, hw⟩
theorem spot_of {w : World} {a : Addr} {v : Value} (h : w.cell? a = some v) : a = ⟨a.block, a.off, none⟩ := by
  obtain ⟨b, o, s⟩ := a
  cases s with
  | none => rfl
  | some s =>
    unfold World.cell? at h
    split at h
    · simp at h
    · cases h
/-- A row, as it reads: each element opened. -/
theorem open_rows {α : Type} [Inhabited α] {f : α → List Value} {z : Nat} (hz : ∀ x, (f x).length = z) (hz0 : 0 < z) {Ok : α → Prop} {t e n : Nat} {cs : List Value} {r : DataW H × List MemPlace} (ht : Try.prog.underlying t = some (.slice e)) (hc : Try.prog.cellsOf e = z)
    (el : ∀ n cs r, DataW.trod enc Try.prog W 0 (fun _ => true) true n e cs = some r → ∃ x, Ok x ∧ cs = f x) (h : DataW.trod enc Try.prog W 0 (fun _ => true) true n t cs = some r) :
    ∃ (l : List α) (a : Option Addr) (cap : Nat), cs = [.slice a l.length cap] ∧ l.length ≤ maxLen ∧ Rd W z (.slice a l.length cap) l.length (l.flatMap f) ∧ ∀ x ∈ l, Ok x := by
  rcases Deep.open_slice ht h with ⟨rfl, _⟩ | ⟨A, len, cap, m, n, D, Pl, rfl, _, hl, hm, hmm, _, hx⟩
  · exact ⟨[], none, 0, rfl, Nat.zero_le _, ⟨none, 0, rfl, Nat.le_refl _, fun _ => ⟨rfl, rfl⟩, by simp, fun j u hj => by simp at hj⟩, fun x hx => by cases hx⟩
  · have hlm : len ≤ m := by rw [hmm]; split <;> omega
    have each : ∀ i, i < len → ∃ x : α, Ok x ∧ ∀ (j : Nat) (u : Value), (f x)[j]? = some u → W.cell? ((A.add (i * z)).add j) = some u := by
      intro i hi
      obtain ⟨cs', h1, h2⟩ := hx i (by omega)
      rw [hc] at h1
      obtain ⟨_, hlen, hcell⟩ := World.cells?_some h1
      obtain ⟨x, hok, rfl⟩ := el _ _ _ h2
      refine ⟨x, hok, fun j u hj => ?_⟩
      have hjz : j < z := by rw [← hz x]; exact (List.getElem?_eq_some_iff.1 hj).1
      rw [hcell j hjz]
      exact hj
    obtain ⟨F, hF⟩ := Deep.choose_lt (α := α) each
    have hlen : ((List.range len).map F).length = len := by simp
    refine ⟨(List.range len).map F, some A, cap, by rw [hlen], by rw [hlen]; omega, ?_, fun x hx => ?_⟩
    · rw [hlen]
      refine ⟨some A, cap, rfl, hl, fun h => (by cases h), ?_, fun j u hj => ?_⟩
      · have : ∀ l : List α, (l.flatMap f).length = l.length * z := fun l => by
          induction l with
          | nil => simp
          | cons x l ih => rw [List.flatMap_cons, List.length_append, ih, hz, List.length_cons, Nat.add_mul, Nat.one_mul, Nat.add_comm]
        rw [this, hlen]
      · have hj' : ((List.range len).map F).flatMap f = ((List.range len).map F).flatMap f := rfl
        have e := flat_at f z hz ((List.range len).map F) (j / z) (j % z) (Nat.mod_lt _ hz0)
        rw [Nat.mul_comm, Nat.div_add_mod] at e
        rw [e] at hj
        obtain ⟨x, hxi, hxj⟩ := Option.bind_eq_some_iff.1 hj
        rw [List.getElem?_map] at hxi
        obtain ⟨q, hq, rfl⟩ := Option.map_eq_some_iff.1 hxi
        obtain ⟨hqlt, hqe⟩ := List.getElem?_eq_some_iff.1 hq
        rw [List.getElem_range] at hqe
        rw [List.length_range] at hqlt
        rw [hqe] at hqlt
        have := (hF q hqlt).2 _ _ hxj
        rw [← hqe] at this
        have hA : A = ⟨A.block, A.off, none⟩ := by
          have h00 : 0 < (f (F 0)).length := by rw [hz]; exact hz0
          have h0 := (hF 0 (by omega)).2 0 _ (List.getElem?_eq_getElem h00)
          have e : (A.add (0 * z)).add 0 = A := by unfold Addr.add; simp
          rw [e] at h0
          exact spot_of h0
        refine ⟨A.block, A.off, by rw [← hA], ?_⟩
        rw [hA, Addr.add_lit, Addr.add_lit] at this
        rw [show A.off + j / z * z + j % z = A.off + j by rw [Nat.add_assoc, Nat.mul_comm, Nat.div_add_mod]] at this
        exact this
    · obtain ⟨i, hi, rfl⟩ := List.mem_map.1 hx
      exact (hF i (List.mem_range.1 hi)).1
/-- A row of numbers. -/
theorem open_ints_rd {t e n : Nat} {k : IntKind} {cs : List Value} {r : DataW H × List MemPlace} (ht : Try.prog.underlying t = some (.slice e)) (he : Try.prog.underlying e = some (.int k)) (hc : Try.prog.cellsOf e = 1) (h : DataW.trod enc Try.prog W 0 (fun _ => true) true n t cs = some r) :
    ∃ (l : List Int) (a : Option Addr) (cap : Nat), cs = [.slice a l.length cap] ∧ l.length ≤ maxLen ∧ Rd W 1 (.slice a l.length cap) l.length (l.flatMap fun n => [Value.int k n]) ∧ ∀ x ∈ l, (Lit.int k x).wf = true :=
  open_rows (f := fun n => [Value.int k n]) (fun _ => rfl) (by decide) (Ok := fun x => (Lit.int k x).wf = true) ht hc (fun n cs r h => by
    obtain ⟨v, e, _, hw⟩ := DataW.trod_int he h
    exact ⟨v, hw, e⟩) h
end
/-- .. as an argument of a row's law. -/
theorem open_row {H : Type} {enc : TypeId × Value → H} {W : World} {t e : TypeId} {k : IntKind} {a : Option Addr} {len cap : Nat} {d : DataW H} {ps : List MemPlace}
    (ht : Try.prog.underlying t = some (.slice e)) (he : Try.prog.underlying e = some (.int k)) (hc : Try.prog.cellsOf e = 1) (h : DataW.Trod enc Try.prog W 0 (fun _ => true) true t (.slice a len cap) d ps) :
    ∃ l : List Int, len = l.length ∧ Rd W 1 (.slice a l.length cap) l.length (l.flatMap fun n => [Value.int k n]) ∧ ∀ n ∈ l, (Lit.int k n).wf = true := by
  obtain ⟨fuel, hf⟩ := h
  obtain ⟨l, a', cap', hcs, _, hr, hok⟩ := open_ints_rd ht he hc hf
  have hcs : [Value.slice a len cap] = [.slice a' l.length cap'] := hcs
  injection hcs with hcs _
  injection hcs with e1 e2 e3
  subst e1 e3
  exact ⟨l, e2, hr, hok⟩
end Go.Proofs.Ytbidgeaigiijpaa
