/- What is proved: rows of one-cell elements that a variable owns: what a slice of one reads, what 'append' makes. Conditions: those that stand in each theorem. -/
import Derived.Test.YtbidgeaigiijpaaFwHeld
import Derived.Laws.OwnMore
import Derived.Great.BuildSlice
namespace Go.Proofs.Ytbidgeaigiijpaa.Fw
set_option linter.unusedVariables false
set_option linter.unusedSimpArgs false
set_option linter.unusedSectionVars false
open Go.RowKit
/-- v is a row that holds xs, from its block's beginning on. -/
def Own (w : World) (e : TypeId) (v : Value) (xs : List Value) : Prop := w.ownsRow 0 e 1 v xs.length xs
theorem Own.nil (w : World) (e : TypeId) : Own w e (.slice none 0 0) [] := World.ownsRow_nil w 0 e 1
theorem Own.same {w w' : World} {e : TypeId} {v : Value} {xs : List Value} (h : Own w e v xs) (s : Same w w') : Own w' e v xs := own_same h s
theorem Own.lt {w : World} {e : TypeId} {v : Value} {xs : List Value} (h : Own w e v xs) (k : Nat) (hk : v.ownBlock = some k) : k < w.heap.size := (World.ownsRow.lt h k hk).2
theorem Own.moved {S : Nat → Prop} {w w' : World} {e : TypeId} {v : Value} {xs : List Value} (h : Own w e v xs) (m : Mv S w w') (hs : ∀ k, v.ownBlock = some k → ¬ S k) : Own w' e v xs := by
  unfold Own World.ownsRow at h ⊢
  refine ⟨h.1, ?_⟩
  rcases h.2 with h1 | ⟨g, cap, cur, hv, hb, hg, rest⟩
  · exact .inl h1
  · refine .inr ⟨g, cap, cur, hv, hb, ?_, rest⟩
    rw [m.block g (Array.getElem?_eq_some_iff.1 hg).1 (hs g (by rw [hv]; rfl))]
    exact hg
/-- v reads as news. -/
def Reads (w : World) (v : Value) (news : List Value) : Prop := ∃ a m c, v = .slice a m c ∧ news.length = m ∧ (a = none → m = 0 ∧ c = 0) ∧ ∀ j u, news[j]? = some u → ∃ x, a = some x ∧ w.cell? (x.add j) = some u
theorem Reads.moved {S : Nat → Prop} {w w' : World} {v : Value} {news : List Value} (h : Reads w v news) (m : Mv S w w') (hs : ∀ k, v.ownBlock = some k → ¬ S k) : Reads w' v news := by
  obtain ⟨a, k, c, rfl, hl, hn, hr⟩ := h
  refine ⟨a, k, c, rfl, hl, hn, fun j u hj => ?_⟩
  obtain ⟨x, rfl, hx⟩ := hr j u hj
  have hb : (x.add j).block = x.block := by unfold Addr.add; split <;> rfl
  exact ⟨x, rfl, m.cell hx (by rw [hb]; exact hs x.block rfl)⟩
theorem Own.reads {w : World} {e : TypeId} {v : Value} {xs : List Value} (h : Own w e v xs) : Reads w v xs := by
  rcases h.2 with ⟨rfl, hn⟩ | ⟨g, cap, cur, rfl, hb, hg, hnc, hcm, hcs, ht⟩
  · exact ⟨none, 0, 0, rfl, hn, fun _ => ⟨rfl, rfl⟩, fun j u hj => by rw [List.eq_nil_of_length_eq_zero hn] at hj; simp at hj⟩
  · exact ⟨some ⟨g, 0, none⟩, xs.length, cap, rfl, rfl, (fun h => by cases h), fun j u hj => ⟨_, rfl, World.ownsRow.cells (g := g) h rfl j u hj⟩⟩
/-- A part of it. -/
theorem Own.part {w : World} {e : TypeId} {v : Value} {xs : List Value} (h : Own w e v xs) {a : Option Addr} {n c : Nat} (hv : v = .slice a n c) (l k : Nat) (hlk : l ≤ k) (hk : k ≤ xs.length) : Reads w (.slice (if c = l then a else a.map (·.add (l * 1))) (k - l) (c - l)) ((xs.drop l).take (k - l)) := by
  rcases h.2 with ⟨h1, hn⟩ | ⟨g, cap, cur, h1, hb, hg, hnc, hcm, hcs, ht⟩
  · rw [hv] at h1
    cases h1
    refine ⟨none, 0, 0, ?_, ?_, fun _ => ⟨rfl, rfl⟩, fun j u hj => ?_⟩
    · have : l = 0 ∧ k = 0 := by omega
      obtain ⟨rfl, rfl⟩ := this
      rfl
    · simp; omega
    · rw [List.eq_nil_of_length_eq_zero hn] at hj; simp at hj
  · rw [hv] at h1
    cases h1
    refine ⟨_, _, _, rfl, by simp; omega, fun h => ?_, fun j u hj => ?_⟩
    · exfalso
      split at h <;> cases h
    · have hj' : xs[l + j]? = some u ∧ j < k - l := by
        rw [List.getElem?_take] at hj
        split at hj
        · rename_i hlt
          rw [List.getElem?_drop] at hj
          exact ⟨hj, hlt⟩
        · cases hj
      have hc := World.ownsRow.cells (g := g) h (by rw [hv]; rfl) (l + j) u hj'.1
      have hle : l + j < c := by omega
      rw [if_neg (by omega)]
      refine ⟨_, rfl, ?_⟩
      rw [← hc]
      congr 1
      show ((⟨g, 0, none⟩ : Addr).add (l * 1)).add j = (⟨g, 0, none⟩ : Addr).add (l + j)
      rw [Addr.add_lit, Addr.add_lit, Addr.add_lit]
      simp [Nat.add_assoc]
/-- 'append' to a row of its own. -/
theorem append_row {P : Program} {w : World} {t ty e : TypeId} {i : TypeInfo} {z : Value} {bytes : Nat} (ht : P.underlying t = some (.slice e)) (hi : P.info? e = some i) (hz : i.zero = some z) (hsize : i.size = 1) (hby : i.bytes = bytes) (hzs : z.cells.size = 1)
    {v x : Value} {xs news : List Value} (hown : Own w e v xs) (hx : Reads w x news) (h1 : ∀ u ∈ news, u.oneCell' = true) (h63 : xs.length + news.length ≤ maxLen) (hbytes : (xs.length + news.length) * bytes ≤ 140737488355328) :
    ∃ v' w', (Builtin.append_ #[t, t] ty #[v, x]).run P w = .ok v' w' ∧ Own w' e v' (xs ++ news) ∧ w.grownBy w' v.ownBlock ∧ (v'.ownBlock = v.ownBlock ∨ v'.ownBlock = some w.heap.size) := by
  obtain ⟨a, m, c, rfl, hm, hn, hr⟩ := hx
  subst hm
  cases a with
  | none =>
    obtain ⟨h0, rfl⟩ := hn rfl
    obtain rfl := List.eq_nil_of_length_eq_zero h0
    refine ⟨v, w, run_append_owned_none (P := P) (w := w) 0 t ty e i 1 ht hi v _ xs hown, by rw [List.append_nil]; exact hown, ⟨rfl, rfl, rfl, Nat.le_refl _, fun _ _ _ => rfl⟩, .inl rfl⟩
  | some ad =>
    have hnews : ∀ j u, news[j]? = some u → w.cell? (ad.add j) = some u := fun j u hj => by
      obtain ⟨x, hx, hc⟩ := hr j u hj
      cases hx; exact hc
    obtain ⟨v', w', hrun, h2, h3, h4⟩ := run_append_own (P := P) w 0 t ty e i z 1 bytes ht hi hz hsize hby hzs (by omega) v xs.length xs hown ad news.length c news (by simp) hnews h1 h63 hbytes (Nat.zero_le _)
    refine ⟨v', w', hrun, by unfold Own; rw [List.length_append]; exact h2, h3, ?_⟩
    rcases hown.2 with ⟨rfl, hx0⟩ | ⟨g, cap, cur, rfl, hbg, hg, hnc, hcm, hcs, htake⟩
    · by_cases hm0 : news.length = 0
      · have := h4.2 ⟨rfl, hm0⟩
        rw [this]; exact .inl rfl
      · have hr2 := run_append_nil (P := P) w t ty e i z ht hi hz ad news.length c news (by rw [hsize]; simp) hnews (by omega) (by unfold maxLen at h63; omega) (by have hb := hbytes; rw [hx0] at hb; simp only [Nat.zero_add] at hb; rw [hby]; omega)
        rw [hr2] at hrun
        injection hrun with e1 e2
        rw [← e1]; exact .inr rfl
    · by_cases hroom : xs.length + news.length ≤ cap
      · have hr2 := run_append_room (P := P) w t ty e i ht hi g xs.length cap cur hg ad news.length c news (by rw [hsize]; simp) hnews h1 hroom (by rw [hsize, hcs]; omega)
        rw [hr2] at hrun
        injection hrun with e1 e2
        rw [← e1]; exact .inl rfl
      · have hr2 := run_append_grow (P := P) w t ty e i z ht hi hz ⟨g, 0, none⟩ xs.length cap xs (by rw [hsize]; simp) (World.ownsRow.cells (g := g) hown rfl) ad news.length c news (by rw [hsize]; simp) hnews (by omega) (by unfold maxLen at h63; omega) (by rw [hby]; exact growslice_fits (by omega) hbytes)
        rw [hr2] at hrun
        injection hrun with e1 e2
        rw [← e1]; exact .inr rfl
section
variable {P : Program} {L : Lay} {n : Nat} {f : Fr} {w : World} {Q : Exit → Act → World → Prop}
theorem grown_mv {w w' : World} {r : Option Nat} (h : w.grownBy w' r) : Mv (fun k => r = some k) w w' := ⟨h.os, h.tape, h.output, h.size, fun k hk hn => h.block k hk fun e => hn e.symm⟩
theorem Ls.append {ops l : List Oper} {o : Oper} {t e : Nat} {s x : Operand} {i : TypeInfo} {z : Value} {bytes : Nat} (hop : o.op = .call ⟨.builtin .append, #[s, x], #[t, t]⟩) (hgd : o.guard = none) {d : Nat} (hd : o.dst = some d) (hdn : Nat.blt d n = true)
    (ht : P.underlying t = some (.slice e)) (hi : P.info? e = some i) (hz : i.zero = some z) (hsize : i.size = 1) (hby : i.bytes = bytes) (hzs : z.cells.size = 1) {v y : Value} {xs news : List Value} (hs : feval f s = some v) (hx : feval f x = some y) (hown : Own w e v xs) (hr : Reads w y news)
    (h1 : ∀ u ∈ news, u.oneCell' = true) (h63 : xs.length + news.length ≤ maxLen) (hbytes : (xs.length + news.length) * bytes ≤ 140737488355328)
    (hK : ∀ v' w', Own w' e v' (xs ++ news) → Mv (fun k => v.ownBlock = some k) w w' → (v'.ownBlock = v.ownBlock ∨ v'.ownBlock = some w.heap.size) → Ls P n ops l ((d, v') :: f) w' Q) : Ls P n ops (o :: l) f w Q := fun a hf => by
  refine wpList_plain hgd fun K hK' => ?_
  obtain ⟨v', w', hrun, h2, h3, h4⟩ := append_row (ty := o.type) ht hi hz hsize hby hzs hown hr h1 h63 hbytes
  unfold Oper.wp execOp
  simp only [hop, resolve, invoke, builtin, Sem.run_bind, Sem.run_pure, Result.andThen_ok, List.map_toArray, List.map_cons, List.map_nil, hf.eval hs, hf.eval hx, hrun]
  rw [Oper.upon_value, hd]
  exact hK' _ _ (hK v' w' h2 (grown_mv h3) h4 _ (hf.put hdn v'))
/-- A new row of so many elements. -/
theorem Ls.buildSlice {ops l : List Oper} {o : Oper} {t e len : Nat} {parts : Array (Nat × Operand)} {ps : List (Nat × Value)} {ie : TypeInfo} {z : Value} {cells : List Value} (hop : o.op = .buildSlice t len parts) (hgd : o.guard = none) {d : Nat} (hd : o.dst = some d) (hdn : Nat.blt d n = true)
    (ht : P.underlying t = some (.slice e)) (hi : P.info? e = some ie) (hz : ie.zero = some z) (hsize : ie.size = 1) (hzs : z.cells.size = 1) (hp : pevals f parts.toList = some ps) (hsm : Nat.ble len 1000 = true) (hpos : Nat.blt 0 len = true)
    (hfill : Instr.fill (fun i => some (i * ie.size, ie.size)) ((Array.range (len * ie.size)).map (z.cells[· % z.cells.size]!)) ps = some cells.toArray)
    (hK : Ls P n ops l ((d, .slice (some ⟨w.heap.size, 0, none⟩) len len) :: f) (w.alloc (.cells cells.toArray e)) Q) : Ls P n ops (o :: l) f w Q := fun a hf => by
  have e1 : (parts.map fun p => (p.1, a.eval p.2)).toList = ps := by rw [Array.toList_map]; exact hf.pevals hp
  have h1 : len ≤ 1000 := Nat.le_of_ble_eq_true hsm
  have h2 : 0 < len := by rwa [Nat.blt_eq] at hpos
  refine wpList_buildSlice hgd t e len parts hop cells.toArray ie z ht hi hz (by rw [hsize]; omega) (by rw [hsize]; omega) ?_ ?_
  · have : (parts.map fun (i, x) => (i, a.eval x)).toList = ps := e1
    rw [this]; exact hfill
  · rw [hd]
    exact hK _ (hf.put hdn _)
end
end Go.Proofs.Ytbidgeaigiijpaa.Fw
