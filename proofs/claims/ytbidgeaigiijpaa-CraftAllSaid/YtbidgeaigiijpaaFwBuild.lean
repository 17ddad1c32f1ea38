/- What is proved: new rows of elements of several cells. Conditions: those that stand in each theorem. -/
import Derived.Test.YtbidgeaigiijpaaFwRowZ
namespace Go.Proofs.Ytbidgeaigiijpaa.Fw
set_option linter.unusedVariables false
set_option linter.unusedSimpArgs false
set_option linter.unusedSectionVars false
open Go.RowKit
def enumV (k : Nat) : List Value → List (Nat × Value)
  | [] => []
  | u :: r => (k, u) :: enumV (k + 1) r
theorem buildV_rows {fs : List (Nat × Nat)} {z m : Nat} (hz : 0 < z) (hfs : ∀ i, i < m → fs[i]? = some (i * z, z + 1)) : ∀ (us : List (Value × List Value)) (k : Nat) (pre rest : List Value), (∀ p ∈ us, p.1.cells = p.2.toArray ∧ p.2.length = z) → k + us.length ≤ m → pre.length = k * z → rest.length = us.length * z → buildV fs (pre ++ rest) (enumV k (us.map (·.1))) = some (pre ++ us.flatMap (·.2))
  | [], k, pre, rest, _, _, _, hr => by
    rw [List.length_nil, Nat.zero_mul] at hr
    obtain rfl := List.eq_nil_of_length_eq_zero hr
    rfl
  | p :: us, k, pre, rest, hu, hk, hp, hr => by
    rw [List.length_cons] at hk
    rw [List.length_cons, Nat.add_mul, Nat.one_mul] at hr
    obtain ⟨h1, h2⟩ := hu p List.mem_cons_self
    have hl : p.1.cells.toList.length = z := by rw [h1]; simpa using h2
    have hc : p.1.cells.toList = p.2 := by rw [h1]
    simp only [List.map_cons, enumV, buildV]
    rw [hfs k (by omega), Option.bind_some]
    rw [show (Nat.beq p.1.cells.toList.length z && Nat.ble (k * z + p.1.cells.toList.length) (pre ++ rest).length) = true by
      rw [hl, Bool.and_eq_true]
      exact ⟨Nat.beq_refl _, Nat.ble_eq_true_of_le (by rw [List.length_append]; omega)⟩]
    rw [cond_true, hc]
    have e : wr (pre ++ rest) (k * z) p.2 = (pre ++ p.2) ++ rest.drop z := by
      unfold wr
      rw [← hp, List.take_left, h2, List.drop_append, List.drop_eq_nil_iff.2 (by omega), List.nil_append, show pre.length + z - pre.length = z by omega]
    rw [e, buildV_rows hz hfs us (k + 1) (pre ++ p.2) (rest.drop z) (fun q hq => hu q (List.mem_cons_of_mem _ hq)) (by omega) (by rw [List.length_append, h2, Nat.add_mul]; omega) (by rw [List.length_drop]; omega)]
    rw [List.flatMap_cons, List.append_assoc]
section
variable {P : Program} {L : Lay} {n : Nat} {f : Fr} {w : World} {Q : Exit → Act → World → Prop}
theorem Ls.buildZ {ops l : List Oper} {o : Oper} {t e zs len : Nat} {parts : Array (Nat × Operand)} (us : List (Value × List Value)) {ie : TypeInfo} {z : Value} (hop : o.op = .buildSlice t len parts) (hw : wantF f ops o.guard = some true) {d : Nat} (hd : o.dst = some d) (hdn : Nat.blt d n = true)
    (ht : P.underlying t = some (.slice e)) (hi : P.info? e = some ie) (hz : ie.zero = some z) (hsize : ie.size = zs) (hzs : z.cells.size = zs) (hp : pevals f parts.toList = some (enumV 0 (us.map (·.1)))) (hlen : Nat.beq us.length len = true) (hsm : Nat.ble (len * zs) 1000 = true) (hpos : Nat.blt 0 zs = true) (hpl : Nat.blt 0 len = true)
    (hu : ∀ p ∈ us, p.1.cells = p.2.toArray ∧ p.2.length = zs)
    (hK : Ls P n ops l ((d, .slice (some ⟨w.heap.size, 0, none⟩) len len) :: f) (w.alloc (.cells (us.flatMap (·.2)).toArray e)) Q) : Ls P n ops (o :: l) f w Q := fun a hf => by
  have e1 : (parts.map fun p => (p.1, a.eval p.2)).toList = enumV 0 (us.map (·.1)) := by rw [Array.toList_map]; exact hf.pevals hp
  have h1 : len * zs ≤ 1000 := Nat.le_of_ble_eq_true hsm
  have h2 : 0 < zs := by rwa [Nat.blt_eq] at hpos
  have h3 : 0 < len := by rwa [Nat.blt_eq] at hpl
  have h4 : us.length = len := Nat.eq_of_beq_eq_true hlen
  have h5 : ¬ len * zs = 0 := by
    have := Nat.mul_pos h3 h2; omega
  refine wpList_step fun K hK' => ?_
  rw [wanted_of hf hw, if_pos rfl]
  refine wp_buildSlice t e len parts hop (us.flatMap (·.2)).toArray ie z ht hi hz (by rw [hsize]; omega) (by rw [hsize]; exact h5) ?_ ?_
  · have e2 : (parts.map fun (i, x) => (i, a.eval x)).toList = enumV 0 (us.map (·.1)) := e1
    rw [e2, hsize]
    obtain ⟨Z, hZ⟩ : ∃ Z, Z = ((Array.range (len * zs)).map (z.cells[· % z.cells.size]!)) := ⟨_, rfl⟩
    rw [← hZ]
    have hZl : Z.size = len * zs := by rw [hZ]; simp
    have hb := buildV_rows (fs := (List.range len).map fun i => (i * zs, zs + 1)) (z := zs) (m := len) h2 (fun i hi => by rw [List.getElem?_map, List.getElem?_range hi]; rfl) us 0 [] Z.toList hu (by omega) (by simp) (by rw [Array.length_toList, hZl, h4])
    rw [List.nil_append, List.nil_append] at hb
    have := fill_of (pl := fun i => some (i * zs, zs)) (fs := (List.range len).map fun i => (i * zs, zs + 1)) (fun i p h => by
      rw [List.getElem?_map] at h
      obtain ⟨x, hx, rfl⟩ := Option.map_eq_some_iff.1 h
      obtain ⟨hlt, rfl⟩ : i < len ∧ i = x := by
        by_cases hlt : i < len
        · rw [List.getElem?_range hlt] at hx; exact ⟨hlt, Option.some.inj hx⟩
        · rw [List.getElem?_eq_none (by simp; omega)] at hx; cases hx
      rfl) hb
    simpa using this
  · rw [hd]
    exact hK' _ _ (hK _ (hf.put hdn _))
end
end Go.Proofs.Ytbidgeaigiijpaa.Fw
