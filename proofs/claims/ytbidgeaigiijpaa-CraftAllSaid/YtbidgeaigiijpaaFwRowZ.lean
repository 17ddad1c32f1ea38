/- What is proved: rows of elements of several cells that a variable owns: what a slice of one reads, what 'append' makes, what a store turns. Conditions: those that stand in each theorem. -/
import Derived.Test.YtbidgeaigiijpaaFwRow
namespace Go.Proofs.Ytbidgeaigiijpaa.Fw
set_option linter.unusedVariables false
set_option linter.unusedSimpArgs false
set_option linter.unusedSectionVars false
open Go.RowKit
/-- v is a row of n elements of z cells each, that holds xs, from its block's beginning on. -/
def OwnZ (w : World) (e z : Nat) (v : Value) (n : Nat) (xs : List Value) : Prop := w.ownsRow 0 e z v n xs
theorem OwnZ.nil (w : World) (e z : Nat) : OwnZ w e z (.slice none 0 0) 0 [] := World.ownsRow_nil w 0 e z
theorem OwnZ.len {w : World} {e z n : Nat} {v : Value} {xs : List Value} (h : OwnZ w e z v n xs) : xs.length = n * z := h.1
theorem OwnZ.blk {w : World} {e z n : Nat} {v : Value} {xs : List Value} (h : OwnZ w e z v n xs) (k : Nat) (hk : v.ownBlock = some k) : ∃ cur, w.heap[k]? = some (.cells cur e (0, 0)) := by
  rcases h.2 with ⟨rfl, _⟩ | ⟨g, cap, cur, rfl, _, hg, _⟩
  · cases hk
  · have e1 : g = k := Option.some.inj hk
    rw [e1] at hg
    exact ⟨cur, hg⟩
theorem OwnZ.lt {w : World} {e z n : Nat} {v : Value} {xs : List Value} (h : OwnZ w e z v n xs) (k : Nat) (hk : v.ownBlock = some k) : k < w.heap.size := by
  obtain ⟨cur, hc⟩ := h.blk k hk
  exact (Array.getElem?_eq_some_iff.1 hc).1
theorem OwnZ.kept {w w' : World} {e z n : Nat} {v : Value} {xs : List Value} (h : OwnZ w e z v n xs) (hs : ∀ k, v.ownBlock = some k → w'.heap[k]? = w.heap[k]?) : OwnZ w' e z v n xs := by
  refine ⟨h.1, ?_⟩
  rcases h.2 with h1 | ⟨g, cap, cur, hv, hb, hg, rest⟩
  · exact .inl h1
  · exact .inr ⟨g, cap, cur, hv, hb, (hs g (by rw [hv]; rfl)).trans hg, rest⟩
theorem OwnZ.same {w w' : World} {e z n : Nat} {v : Value} {xs : List Value} (h : OwnZ w e z v n xs) (s : Same w w') : OwnZ w' e z v n xs := h.kept fun k _ => by rw [s.heap]
theorem OwnZ.moved {S : Nat → Prop} {w w' : World} {e z n : Nat} {v : Value} {xs : List Value} (h : OwnZ w e z v n xs) (m : Mv S w w') (hs : ∀ k, v.ownBlock = some k → ¬ S k) : OwnZ w' e z v n xs := h.kept fun k hk => m.block k (h.lt k hk) (hs k hk)
/-- A row's own value. -/
theorem OwnZ.slice {w : World} {e z n : Nat} {v : Value} {xs : List Value} (h : OwnZ w e z v n xs) : ∃ a c, v = .slice a n c ∧ n ≤ c ∧ (a = none → n = 0 ∧ c = 0) ∧ ∀ b, a = some b → b = ⟨b.block, 0, none⟩ ∧ v.ownBlock = some b.block := by
  rcases h.2 with ⟨rfl, rfl⟩ | ⟨g, cap, cur, rfl, hb, hg, hnc, _⟩
  · exact ⟨none, 0, rfl, Nat.le_refl _, fun _ => ⟨rfl, rfl⟩, fun b hb => by cases hb⟩
  · exact ⟨some ⟨g, 0, none⟩, cap, rfl, hnc, (fun h => by cases h), fun b hb => by cases hb; exact ⟨rfl, rfl⟩⟩
/-- One that is not empty: its block, its cells, and what stands in it. -/
theorem OwnZ.pos {w : World} {e z n : Nat} {v : Value} {xs : List Value} (h : OwnZ w e z v n xs) (hp : 0 < n) : ∃ g c, v = .slice (some ⟨g, 0, none⟩) n c ∧ v.ownBlock = some g ∧ n ≤ c ∧ (∀ i u, xs[i]? = some u → w.cell? ⟨g, i, none⟩ = some u) ∧
    ∃ cs : List Value, w.heap[g]? = some (.cells cs.toArray e (0, 0)) ∧ xs.length ≤ cs.length ∧ ∀ (w' : World) (i : Nat) (us : List Value), i + us.length ≤ xs.length → w'.heap[g]? = some (.cells (wr cs i us).toArray e (0, 0)) → OwnZ w' e z v n (wr xs i us) := by
  have hh := h
  rcases h.2 with ⟨rfl, hn⟩ | ⟨g, cap, cur, rfl, hb, hg, hnc, hcm, hcs, ht⟩
  · omega
  · have hxl := h.1
    have hle : n * z ≤ cap * z := Nat.mul_le_mul_right z hnc
    have hcl := Array.length_toList (xs := cur)
    refine ⟨g, cap, rfl, rfl, hnc, fun i u hi => ?_, cur.toList, by rw [Array.toArray_toList]; exact hg, by omega, fun w' i us hi hw' => ?_⟩
    · have := World.ownsRow.cells (g := g) hh rfl i u hi
      rw [Addr.add_lit, Nat.zero_add] at this
      exact this
    · have e1 : (wr cur.toList i us).length = cap * z := by
        unfold wr
        simp only [List.length_append, List.length_take, List.length_drop]
        omega
      refine ⟨?_, .inr ⟨g, cap, (wr cur.toList i us).toArray, rfl, hb, hw', hnc, hcm, by simpa using e1, ?_⟩⟩
      · unfold wr
        simp only [List.length_append, List.length_take, List.length_drop]
        omega
      · rw [← ht]
        unfold wr
        have h1 : i ≤ cur.toList.length := by omega
        rw [List.take_append, List.take_append, List.take_take, List.length_append, List.length_take]
        rw [show min (n * z) i = i by omega, show min i cur.toList.length = i by omega]
        rw [List.take_take, show min i (n * z) = i by omega, List.drop_take]
        have e2 : us.take (n * z - i) = us := List.take_of_length_le (by omega)
        rw [e2]
/-- v reads as m elements: news. -/
def ReadsZ (w : World) (v : Value) (m z : Nat) (news : List Value) : Prop := ∃ a c, v = .slice a m c ∧ news.length = m * z ∧ (a = none → m = 0 ∧ c = 0) ∧ ∀ j u, news[j]? = some u → ∃ x, a = some x ∧ w.cell? (x.add j) = some u
theorem ReadsZ.moved {S : Nat → Prop} {w w' : World} {v : Value} {m z : Nat} {news : List Value} (h : ReadsZ w v m z news) (mv : Mv S w w') (hs : ∀ k, v.ownBlock = some k → ¬ S k) : ReadsZ w' v m z news := by
  obtain ⟨a, c, rfl, hl, hn, hr⟩ := h
  refine ⟨a, c, rfl, hl, hn, fun j u hj => ?_⟩
  obtain ⟨x, rfl, hx⟩ := hr j u hj
  have hb : (x.add j).block = x.block := by unfold Addr.add; split <;> rfl
  exact ⟨x, rfl, mv.cell hx (by rw [hb]; exact hs x.block rfl)⟩
theorem OwnZ.reads {w : World} {e z n : Nat} {v : Value} {xs : List Value} (h : OwnZ w e z v n xs) : ReadsZ w v n z xs := by
  rcases h.2 with ⟨rfl, hn⟩ | ⟨g, cap, cur, rfl, hb, hg, hnc, hcm, hcs, ht⟩
  · exact ⟨none, 0, by rw [hn], h.1, fun _ => ⟨hn, rfl⟩, fun j u hj => by
      have := h.1
      rw [hn, Nat.zero_mul] at this
      rw [List.eq_nil_of_length_eq_zero this] at hj; simp at hj⟩
  · exact ⟨some ⟨g, 0, none⟩, cap, rfl, h.1, (fun h => by cases h), fun j u hj => ⟨_, rfl, World.ownsRow.cells (g := g) h rfl j u hj⟩⟩
/-- A part of it. -/
theorem OwnZ.part {w : World} {e z n : Nat} {v : Value} {xs : List Value} (h : OwnZ w e z v n xs) {a : Option Addr} {c : Nat} (hv : v = .slice a n c) (l k : Nat) (hlk : l ≤ k) (hk : k ≤ n) : ReadsZ w (.slice (if c = l then a else a.map (·.add (l * z))) (k - l) (c - l)) (k - l) z ((xs.drop (l * z)).take ((k - l) * z)) := by
  have hxl := h.1
  have h1 : (k - l) * z + l * z ≤ n * z := by rw [← Nat.add_mul]; exact Nat.mul_le_mul_right z (by omega)
  have hlen : ((xs.drop (l * z)).take ((k - l) * z)).length = (k - l) * z := by rw [List.length_take, List.length_drop]; omega
  rcases h.2 with ⟨h2, hn⟩ | ⟨g, cap, cur, h2, hb, hg, hnc, hcm, hcs, ht⟩
  · rw [hv] at h2
    cases h2
    have : l = 0 ∧ k = 0 := by omega
    obtain ⟨rfl, rfl⟩ := this
    refine ⟨none, 0, rfl, hlen, fun _ => ⟨rfl, rfl⟩, fun j u hj => ?_⟩
    rw [List.eq_nil_of_length_eq_zero (show ((xs.drop (0 * z)).take ((0 - 0) * z)).length = 0 by rw [hlen]; simp)] at hj
    simp at hj
  · rw [hv] at h2
    cases h2
    by_cases hkl : k - l = 0
    · refine ⟨_, _, rfl, hlen, fun h => ?_, fun j u hj => ?_⟩
      · exfalso
        split at h <;> cases h
      · rw [List.eq_nil_of_length_eq_zero (show ((xs.drop (l * z)).take ((k - l) * z)).length = 0 by rw [hlen, hkl]; simp)] at hj
        simp at hj
    · refine ⟨_, _, rfl, hlen, fun h => ?_, fun j u hj => ?_⟩
      · exfalso
        split at h <;> cases h
      · have hj' : xs[l * z + j]? = some u := by
          rw [List.getElem?_take] at hj
          split at hj
          · rwa [List.getElem?_drop] at hj
          · cases hj
        have hc := World.ownsRow.cells (g := g) h (by rw [hv]; rfl) (l * z + j) u hj'
        rw [if_neg (by omega)]
        refine ⟨_, rfl, ?_⟩
        rw [← hc]
        congr 1
        show ((⟨g, 0, none⟩ : Addr).add (l * z)).add j = (⟨g, 0, none⟩ : Addr).add (l * z + j)
        rw [Addr.add_lit, Addr.add_lit, Addr.add_lit]
        simp [Nat.add_assoc]
/-- 'append' to a row of its own. -/
theorem append_rowZ {P : Program} {w : World} {t ty e zs : TypeId} {i : TypeInfo} {z : Value} {bytes : Nat} (ht : P.underlying t = some (.slice e)) (hi : P.info? e = some i) (hz : i.zero = some z) (hsize : i.size = zs) (hby : i.bytes = bytes) (hzs : z.cells.size = zs) (hpos : 0 < zs)
    {v x : Value} {n m : Nat} {xs news : List Value} (hown : OwnZ w e zs v n xs) (hx : ReadsZ w x m zs news) (h1 : ∀ u ∈ news, u.oneCell' = true) (h63 : n + m ≤ maxLen) (hbytes : (n + m) * bytes ≤ 140737488355328) :
    ∃ v' w', (Builtin.append_ #[t, t] ty #[v, x]).run P w = .ok v' w' ∧ OwnZ w' e zs v' (n + m) (xs ++ news) ∧ w.grownBy w' v.ownBlock ∧ (v'.ownBlock = v.ownBlock ∨ v'.ownBlock = some w.heap.size) := by
  obtain ⟨a, c, rfl, hm, hn, hr⟩ := hx
  cases a with
  | none =>
    obtain ⟨rfl, rfl⟩ := hn rfl
    rw [Nat.zero_mul] at hm
    obtain rfl := List.eq_nil_of_length_eq_zero hm
    exact ⟨v, w, run_append_owned_none (P := P) (w := w) 0 t ty e i zs ht hi v _ xs hown, by rw [List.append_nil, Nat.add_zero]; exact hown, ⟨rfl, rfl, rfl, Nat.le_refl _, fun _ _ _ => rfl⟩, .inl rfl⟩
  | some ad =>
    have hnews : ∀ j u, news[j]? = some u → w.cell? (ad.add j) = some u := fun j u hj => by
      obtain ⟨x, hx, hc⟩ := hr j u hj
      cases hx; exact hc
    obtain ⟨v', w', hrun, h2, h3, h4⟩ := run_append_own (P := P) w 0 t ty e i z zs bytes ht hi hz hsize hby hzs hpos v n xs hown ad m c news hm hnews h1 h63 hbytes (Nat.zero_le _)
    refine ⟨v', w', hrun, h2, h3, ?_⟩
    rcases hown.2 with ⟨rfl, hx0⟩ | ⟨g, cap, cur, rfl, hbg, hg, hnc, hcm, hcs, htake⟩
    · by_cases hm0 : m = 0
      · have := h4.2 ⟨rfl, hm0⟩
        rw [this]; exact .inl rfl
      · have hr2 := run_append_nil (P := P) w t ty e i z ht hi hz ad m c news (by rw [hsize]; exact hm) hnews (by omega) (by unfold maxLen at h63; omega) (by have hb := hbytes; rw [hx0] at hb; simp only [Nat.zero_add] at hb; rw [hby]; omega)
        rw [hr2] at hrun
        injection hrun with e1 e2
        rw [← e1]; exact .inr rfl
    · have hxl := hown.1
      by_cases hroom : n + m ≤ cap
      · have hle : (n + m) * zs ≤ cap * zs := Nat.mul_le_mul_right zs hroom
        rw [Nat.add_mul] at hle
        have hr2 := run_append_room (P := P) w t ty e i ht hi g n cap cur hg ad m c news (by rw [hsize]; exact hm) hnews h1 hroom (by rw [hsize, hcs, hm]; omega)
        rw [hr2] at hrun
        injection hrun with e1 e2
        rw [← e1]; exact .inl rfl
      · have hr2 := run_append_grow (P := P) w t ty e i z ht hi hz ⟨g, 0, none⟩ n cap xs (by rw [hsize]; exact hxl) (World.ownsRow.cells (g := g) hown rfl) ad m c news (by rw [hsize]; exact hm) hnews (by omega) (by unfold maxLen at h63; omega) (by rw [hby]; exact growslice_fits (by omega) hbytes)
        rw [hr2] at hrun
        injection hrun with e1 e2
        rw [← e1]; exact .inr rfl
section
variable {P : Program} {L : Lay} {n : Nat} {f : Fr} {w : World} {Q : Exit → Act → World → Prop}
theorem Ls.appendZ {ops l : List Oper} {o : Oper} {t e zs : Nat} {s x : Operand} {i : TypeInfo} {z : Value} {bytes : Nat} (hop : o.op = .call ⟨.builtin .append, #[s, x], #[t, t]⟩) (hgd : o.guard = none) {d : Nat} (hd : o.dst = some d) (hdn : Nat.blt d n = true)
    (ht : P.underlying t = some (.slice e)) (hi : P.info? e = some i) (hz : i.zero = some z) (hsize : i.size = zs) (hby : i.bytes = bytes) (hzs : z.cells.size = zs) (hpos : 0 < zs) {v y : Value} {k m : Nat} {xs news : List Value} (hs : feval f s = some v) (hx : feval f x = some y) (hown : OwnZ w e zs v k xs) (hr : ReadsZ w y m zs news)
    (h1 : ∀ u ∈ news, u.oneCell' = true) (h63 : k + m ≤ maxLen) (hbytes : (k + m) * bytes ≤ 140737488355328)
    (hK : ∀ v' w', OwnZ w' e zs v' (k + m) (xs ++ news) → Mv (fun k => v.ownBlock = some k) w w' → (v'.ownBlock = v.ownBlock ∨ v'.ownBlock = some w.heap.size) → Ls P n ops l ((d, v') :: f) w' Q) : Ls P n ops (o :: l) f w Q := fun a hf => by
  refine wpList_plain hgd fun K hK' => ?_
  obtain ⟨v', w', hrun, h2, h3, h4⟩ := append_rowZ (ty := o.type) ht hi hz hsize hby hzs hpos hown hr h1 h63 hbytes
  unfold Oper.wp execOp
  simp only [hop, resolve, invoke, builtin, Sem.run_bind, Sem.run_pure, Result.andThen_ok, List.map_toArray, List.map_cons, List.map_nil, hf.eval hs, hf.eval hx, hrun]
  rw [Oper.upon_value, hd]
  exact hK' _ _ (hK v' w' h2 (grown_mv h3) h4 _ (hf.put hdn v'))
/-- A new row of one element of several cells. -/
theorem Ls.buildOne {ops l : List Oper} {o : Oper} {t e zs : Nat} {parts : Array (Nat × Operand)} {u : Value} {ie : TypeInfo} {z : Value} {cells : List Value} (hop : o.op = .buildSlice t 1 parts) (hgd : o.guard = none) {d : Nat} (hd : o.dst = some d) (hdn : Nat.blt d n = true)
    (ht : P.underlying t = some (.slice e)) (hi : P.info? e = some ie) (hz : ie.zero = some z) (hsize : ie.size = zs) (hzs : z.cells.size = zs) (hp : pevals f parts.toList = some [(0, u)]) (hsm : Nat.ble zs 1000 = true) (hpos : Nat.blt 0 zs = true) (hu : u.cells = cells.toArray) (hul : cells.length = zs)
    (hK : Ls P n ops l ((d, .slice (some ⟨w.heap.size, 0, none⟩) 1 1) :: f) (w.alloc (.cells cells.toArray e)) Q) : Ls P n ops (o :: l) f w Q := fun a hf => by
  have e1 : (parts.map fun p => (p.1, a.eval p.2)).toList = [(0, u)] := by rw [Array.toList_map]; exact hf.pevals hp
  have h1 : zs ≤ 1000 := Nat.le_of_ble_eq_true hsm
  have h2 : 0 < zs := by rwa [Nat.blt_eq] at hpos
  refine wpList_buildSlice hgd t e 1 parts hop cells.toArray ie z ht hi hz (by rw [hsize]; omega) (by rw [hsize]; omega) ?_ ?_
  · have e2 : (parts.map fun (i, x) => (i, a.eval x)).toList = [(0, u)] := e1
    rw [e2, hsize]
    obtain ⟨Z, hZ⟩ : ∃ Z, Z = ((Array.range (1 * zs)).map (z.cells[· % z.cells.size]!)) := ⟨_, rfl⟩
    rw [← hZ]
    have hZl : Z.size = zs := by rw [hZ]; simp
    have := fill_of (pl := fun i => some (i * zs, zs)) (fs := [(0, zs + 1)]) (fun i p h => by
      cases i with
      | zero => simp at h; subst h; simp
      | succ i => simp at h) (ps := [(0, u)]) (zs := Z.toList) (cs := cells) (by
        simp only [buildV, List.getElem?_cons_zero, Option.bind_some, hu]
        rw [show (Nat.beq (cells.toArray).toList.length zs && Nat.ble (0 + (cells.toArray).toList.length) Z.toList.length) = true by
          simp only [Bool.and_eq_true]
          have hl : (cells.toArray).toList.length = zs := by simpa using hul
          rw [hl]
          exact ⟨Nat.beq_refl _, Nat.ble_eq_true_of_le (by rw [Array.length_toList, hZl]; omega)⟩]
        simp only [cond_true]
        congr 1
        unfold wr
        simp [hZl, hul])
    simpa using this
  · rw [hd]
    exact hK _ (hf.put hdn _)
theorem reads_oneZ (w : World) (e : TypeId) (cells : List Value) (zs : Nat) (h : cells.length = zs) : ReadsZ (w.alloc (.cells cells.toArray e)) (.slice (some ⟨w.heap.size, 0, none⟩) 1 1) 1 zs cells := by
  refine ⟨_, _, rfl, by omega, fun h => (by cases h), fun j u hj => ⟨_, rfl, ?_⟩⟩
  rw [Addr.add_lit]
  unfold World.cell?
  have := heap_alloc_new w (.cells cells.toArray e)
  simp only [this]
  rw [Nat.zero_add, List.getElem?_toArray]
  exact hj
end
end Go.Proofs.Ytbidgeaigiijpaa.Fw
