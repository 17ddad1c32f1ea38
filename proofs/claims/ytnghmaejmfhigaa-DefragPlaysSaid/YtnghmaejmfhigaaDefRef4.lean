/- What is proved: the reference's table: what a part does, plain; an entry turned. Conditions: those that stand in each theorem. -/
import Derived.Test.YtnghmaejmfhigaaDefRef3
namespace Go.Proofs.Ytnghmaejmfhigaa
set_option linter.unusedVariables false
set_option linter.unusedSimpArgs false
set_option linter.unusedSectionVars false
open Go.RowKit Go.Maps Go.MapKept Go.ChangeMaps Fw
theorem rows_set {L : List RE} {k j : Nat} {x x' : RE} {v : Value} (hk : L[k]? = some x) (hj : j < 7) (hx : x'.cs = x.cs.set j v) : rows (L.set k x') = wr (rows L) (k * 7 + j) [v] := by
  have hkl : k < L.length := (List.getElem?_eq_some_iff.1 hk).1
  rw [wr_one _ _ _ (by unfold rows; rw [flat_len RE.cs 7 cs_len]; omega)]
  apply List.ext_getElem?
  intro n
  obtain ⟨a, b, hb, rfl⟩ : ∃ a b, b < 7 ∧ n = a * 7 + b := ⟨n / 7, n % 7, Nat.mod_lt _ (by decide), by omega⟩
  unfold rows
  rw [flat_at RE.cs 7 cs_len _ a b hb]
  by_cases hak : a = k
  · subst hak
    rw [List.getElem?_set_self hkl]
    simp only [Option.bind_some]
    rw [hx]
    by_cases hbj : b = j
    · subst hbj
      rw [List.getElem?_set_self (by rw [cs_len]; exact hj), List.getElem?_set_self (by rw [flat_len RE.cs 7 cs_len]; omega)]
    · rw [List.getElem?_set_ne (Ne.symm hbj), List.getElem?_set_ne (by omega), flat_at RE.cs 7 cs_len _ a b hb, hk]
      rfl
  · rw [List.getElem?_set_ne (Ne.symm hak), List.getElem?_set_ne (by omega), flat_at RE.cs 7 cs_len _ a b hb]
theorem RTAt.upd {w w' : World} {q g k : Nat} {vL : Value} {most ticks now : Int} {L : List RE} {x x' : RE} (h : RTAt w q vL most ticks now L) (hk : L[k]? = some x) (hg : vL.ownBlock = some g) (m : Mv (fun j => j = g ∨ x.lv.ownBlock = some j) w w')
    (hrow : OwnZ w' 63 7 vL L.length (rows (L.set k x'))) (hent : OwnZ w' 69 2 x'.lv x'.parts.length (prow x'.parts)) (hlv : ∀ j, x'.lv.ownBlock = some j → x.lv.ownBlock = some j ∨ w.heap.size ≤ j) : RTAt w' q vL most ticks now (L.set k x') := by
  have hkl : k < L.length := (List.getElem?_eq_some_iff.1 hk).1
  have hxL : x ∈ L := List.mem_of_getElem? hk
  have hxe : L[k] = x := (List.getElem?_eq_some_iff.1 hk).2
  obtain ⟨cg, hcg⟩ := h.row.blk g hg
  have hqg : q ≠ g := cells_ne h.blk hcg (by decide)
  have hqx : x.lv.ownBlock ≠ some q := fun e => by
    obtain ⟨cx, hcx⟩ := (h.ent x hxL).blk q e
    rw [h.blk] at hcx
    injection hcx with e1
    injection e1 with _ e2
    exact absurd e2 (by decide)
  have hyg : ∀ y ∈ L, y.lv.ownBlock ≠ some g := fun y hy e => by
    obtain ⟨cx, hcx⟩ := (h.ent y hy).blk g e
    rw [hcg] at hcx
    injection hcx with e1
    injection e1 with _ e2
    exact absurd e2 (by decide)
  have hpw := List.pairwise_iff_getElem.1 h.dis
  have hdis : ∀ (a : Nat) (ha : a < L.length), a ≠ k → ∀ j, L[a].lv.ownBlock = some j → x.lv.ownBlock ≠ some j := fun a ha hak j hj e => by
    rcases Nat.lt_or_gt_of_ne hak with hlt | hgt
    · exact hpw a k ha hkl hlt j hj (by rw [hxe]; exact e)
    · exact hpw k a hkl ha hgt j (by rw [hxe]; exact e) hj
  refine ⟨(m.block q (Array.getElem?_eq_some_iff.1 h.blk).1 (fun e => by rcases e with e | e; exact hqg e; exact hqx e)).trans h.blk, by rw [List.length_set]; exact hrow, fun y hy => ?_, ?_⟩
  · obtain ⟨a, ha, rfl⟩ := List.mem_iff_getElem.1 hy
    rw [List.length_set] at ha
    rw [List.getElem_set]
    by_cases hak : k = a
    · rw [if_pos hak]; exact hent
    · rw [if_neg hak]
      have hm : L[a] ∈ L := List.getElem_mem ha
      exact (h.ent _ hm).moved m fun j hj e => by
        rcases e with e | e
        · exact hyg _ hm (e ▸ hj)
        · exact hdis a ha (Ne.symm hak) j hj e
  · rw [List.pairwise_iff_getElem]
    intro a b ha hb hab j hj
    rw [List.length_set] at ha hb
    rw [List.getElem_set] at hj ⊢
    by_cases hak : k = a
    · rw [if_pos hak] at hj
      rw [if_neg (by omega)]
      intro e
      rcases hlv j hj with h1 | h1
      · exact hdis b hb (by omega) j e h1
      · have := (h.ent _ (List.getElem_mem hb)).lt j e; omega
    · rw [if_neg hak] at hj
      by_cases hbk : k = b
      · rw [if_pos hbk]
        intro e
        rcases hlv j e with h1 | h1
        · exact hdis a ha (Ne.symm hak) j hj h1
        · have := (h.ent _ (List.getElem_mem ha)).lt j hj; omega
      · rw [if_neg hbk]
        exact hpw a b ha hb hab j hj
/-! ### Plain -/
def insR (l : List (Int × Int)) (off : Int) (s : List UInt8) (all : Int) : List (Int × Int) :=
  match s with
  | [] => l
  | c :: r => insR (if l.lookup off = none ∧ (all < 0 ∨ off < all) then l ++ [(off, (c.toNat : Int))] else l) (off + 1) r all
theorem insR_neg (s : List UInt8) (all : Int) (h : all < 0) : ∀ (l : List (Int × Int)) (off : Int), insR l off s all = insD l off s 0 := by
  induction s with
  | nil => intro l off; rfl
  | cons c r ih =>
    intro l off
    simp only [insR, insD]
    rw [ih]
    have e : (l.lookup off = none ∧ (all < 0 ∨ off < all)) = (l.lookup off = none ∧ ((0 : Int) = 0 ∨ off < 0)) := propext ⟨fun h1 => ⟨h1.1, .inl rfl⟩, fun h1 => ⟨h1.1, .inl h⟩⟩
    simp only [e]
theorem insR_pos (s : List UInt8) (all : Int) (h : 1 ≤ all) : ∀ (l : List (Int × Int)) (off : Int), insR l off s all = insD l off s all := by
  induction s with
  | nil => intro l off; rfl
  | cons c r ih =>
    intro l off
    simp only [insR, insD]
    rw [ih]
    have e : (l.lookup off = none ∧ (all < 0 ∨ off < all)) = (l.lookup off = none ∧ (all = 0 ∨ off < all)) := propext ⟨fun h1 => ⟨h1.1, by omega⟩, fun h1 => ⟨h1.1, by omega⟩⟩
    simp only [e]
theorem insD_filter (s : List UInt8) (all : Int) (h : 1 ≤ all) : ∀ (l : List (Int × Int)) (off : Int), (insD l off s all).filter (fun q => decide (q.1 < all)) = insD (l.filter fun q => decide (q.1 < all)) off s all := by
  induction s with
  | nil => intro l off; rfl
  | cons c r ih =>
    intro l off
    simp only [insD]
    rw [ih]
    congr 1
    by_cases hoff : off < all
    · have hl : (l.filter fun q => decide (q.1 < all)).lookup off = l.lookup off := by
        rw [lookup_filter (fun y => decide (y < all)) off, if_pos (decide_eq_true hoff)]
      rw [hl]
      by_cases hn : l.lookup off = none
      · rw [if_pos ⟨hn, .inr hoff⟩, if_pos ⟨hn, .inr hoff⟩, List.filter_append, List.filter_cons, if_pos (decide_eq_true hoff)]
        rfl
      · rw [if_neg (fun c => hn c.1), if_neg (fun c => hn c.1)]
    · rw [if_neg (by omega), if_neg (by omega)]
theorem insD_mem (s : List UInt8) : ∀ (l : List (Int × Int)) (off all : Int) (q : Int × Int), q ∈ insD l off s all → q ∈ l ∨ (off ≤ q.1 ∧ q.1 < off + s.length) := by
  induction s with
  | nil => intro l off all q h; exact .inl h
  | cons c r ih =>
    intro l off all q h
    simp only [insD] at h
    rcases ih _ _ _ q h with h1 | h1
    · split at h1
      · rcases List.mem_append.1 h1 with h2 | h2
        · exact .inl h2
        · obtain rfl := List.mem_singleton.1 h2
          right
          simp only [List.length_cons]
          omega
      · exact .inl h1
    · right
      simp only [List.length_cons]
      omega
/-- The entry as it stands behind a part. -/
def RE.set1 (x : RE) (i : IPV) (n : Nat) : RE := if i.more = false ∧ x.all < 0 then { x with all := i.off + n } else x
def keepR (all : Int) (ps : List (Int × Int)) : List (Int × Int) := ps.filter fun q => decide (all < 0) || decide (q.1 < all)
theorem addE_end {e : EV} {i : IPV} {s : ByteArray} (hc : i.more = false ∧ e.all = 0) : addE (some e) i s = ⟨insD (e.bytes.filter fun q => decide (q.1 < i.off + s.size)) i.off s.data.toList (i.off + s.size), i.off + s.size, e.age⟩ := by
  unfold addE
  simp only [Option.getD_some]
  rw [if_pos hc]
  rfl
theorem addE_not {e : EV} {i : IPV} {s : ByteArray} (hc : ¬ (i.more = false ∧ e.all = 0)) : addE (some e) i s = ⟨insD e.bytes i.off s.data.toList e.all, e.all, e.age⟩ := by
  unfold addE
  simp only [Option.getD_some]
  rw [if_neg hc]
theorem re_add {x : RE} (now : Int) (ok : ROk x) (i : IPV) (s : ByteArray) (F : Fit i s) (lv : Value) (x3 : RE) (hx3 : x3 = ⟨x.key, keepR (x.set1 i s.size).all (insR x.parts i.off s.data.toList (x.set1 i s.size).all), (x.set1 i s.size).all, x.at_, lv⟩) :
    x3.ev now = addE (some (x.ev now)) i s ∧ ROk x3 := by
  have hs := F.hs
  have ho := F.ho
  have hb := F.hb
  have hl := bytes_len s
  obtain ⟨A, hA⟩ : ∃ A, A = (x.set1 i s.size).all := ⟨_, rfl⟩
  rw [← hA] at hx3
  have hnd : ((insR x.parts i.off s.data.toList A).map (·.1)).Nodup := by
    by_cases h : A < 0
    · rw [insR_neg _ _ h]; exact insD_nodup _ _ _ _ ok.nd
    · by_cases h1 : 1 ≤ A
      · rw [insR_pos _ _ h1]; exact insD_nodup _ _ _ _ ok.nd
      · have : A = 0 := by omega
        exfalso
        rw [this] at hA
        unfold RE.set1 at hA
        split at hA
        · simp only at hA; omega
        · rcases ok.all with e | e <;> omega
  have hA1 : A = -1 ∨ (1 ≤ A ∧ A ≤ 2000) := by
    rw [hA]
    unfold RE.set1
    split
    · right; simp only; omega
    · rcases ok.all with e | e
      · exact .inl e
      · exact .inr ⟨e.1, e.2.1⟩
  have hmem : ∀ q ∈ insR x.parts i.off s.data.toList A, 0 ≤ q.1 ∧ q.1 ≤ 2000 := by
    intro q hq
    have h' : q ∈ x.parts ∨ (i.off ≤ q.1 ∧ q.1 < i.off + s.data.toList.length) := by
      rcases hA1 with e | e
      · rw [insR_neg _ _ (by omega)] at hq; exact insD_mem _ _ _ _ q hq
      · rw [insR_pos _ _ e.1] at hq; exact insD_mem _ _ _ _ q hq
    rcases h' with h' | h'
    · exact ok.ge q h'
    · rw [hl] at h'; omega
  refine ⟨?_, ?_⟩
  · have hset : A = if i.more = false ∧ x.all < 0 then i.off + s.size else x.all := by
      rw [hA]; unfold RE.set1; split <;> rfl
    have hev : x3.ev now = ⟨keepR A (insR x.parts i.off s.data.toList A), if A < 0 then 0 else A, now - x.at_⟩ := by rw [hx3]; rfl
    rw [hev]
    by_cases hc : i.more = false ∧ x.all < 0
    · rw [if_pos hc] at hset
      have h1 : 1 ≤ A := by omega
      have he0 : (x.ev now).all = 0 := if_pos hc.2
      rw [addE_end ⟨hc.1, he0⟩, ← hset, if_neg (show ¬ A < 0 by omega), insR_pos _ _ h1]
      have e1 : keepR A (insD x.parts i.off s.data.toList A) = insD (x.parts.filter fun q => decide (q.1 < A)) i.off s.data.toList A := by
        rw [← insD_filter _ _ h1]
        unfold keepR
        apply List.filter_congr
        intro q _
        rw [decide_eq_false (show ¬ A < 0 by omega), Bool.false_or]
      rw [e1]
      rfl
    · rw [if_neg hc] at hset
      by_cases hneg : x.all < 0
      · have he0 : (x.ev now).all = 0 := if_pos hneg
        have hm : ¬ i.more = false := fun e => hc ⟨e, hneg⟩
        have hn : ¬ (i.more = false ∧ (x.ev now).all = 0) := fun e => hm e.1
        rw [addE_not hn, he0, if_pos (show A < 0 by omega), insR_neg _ _ (show A < 0 by omega)]
        have e1 : keepR A (insD x.parts i.off s.data.toList 0) = insD x.parts i.off s.data.toList 0 := by
          apply List.filter_eq_self.2
          intro q _
          rw [decide_eq_true (show A < 0 by omega), Bool.true_or]
        rw [e1]
        rfl
      · have he0 : (x.ev now).all = x.all := if_neg hneg
        have h1 : 1 ≤ x.all := by rcases ok.all with e | e <;> omega
        have hn : ¬ (i.more = false ∧ (x.ev now).all = 0) := fun e => by rw [he0] at e; omega
        rw [addE_not hn, he0, hset, if_neg hneg, insR_pos _ _ h1]
        have e1 : keepR x.all (insD x.parts i.off s.data.toList x.all) = insD x.parts i.off s.data.toList x.all := by
          have e2 : x.parts.filter (fun q => decide (q.1 < x.all)) = x.parts := by
            apply List.filter_eq_self.2
            intro q hq
            rcases ok.all with e | ⟨_, _, e⟩
            · omega
            · exact decide_eq_true (e q hq)
          have e3 := insD_filter s.data.toList x.all h1 x.parts i.off
          rw [e2] at e3
          rw [← e3]
          unfold keepR
          rw [List.filter_filter]
          apply List.filter_congr
          intro q _
          rw [decide_eq_false hneg, Bool.false_or, Bool.and_self]
        rw [e1]
        rfl
  · rw [hx3]
    refine ⟨?_, fun q hq => hmem q (List.mem_filter.1 hq).1, hnd.sublist (List.filter_sublist.map _)⟩
    rcases hA1 with e | e
    · exact .inl e
    · right
      refine ⟨e.1, e.2, fun q hq => ?_⟩
      have := (List.mem_filter.1 hq).2
      rw [decide_eq_false (show ¬ A < 0 by omega), Bool.false_or] at this
      exact of_decide_eq_true this
theorem key_erase {L : List RE} (hn : (L.map (·.key)).Nodup) {i : Nat} {x : RE} (hi : L[i]? = some x) : L.filter (fun y => y.key != x.key) = L.eraseIdx i := by
  induction L generalizing i with
  | nil => simp at hi
  | cons y r ih =>
    rw [List.map_cons, List.nodup_cons] at hn
    cases i with
    | zero =>
      obtain rfl : y = x := by simpa using hi
      rw [List.filter_cons, if_neg (by simp), List.eraseIdx_cons_zero]
      apply List.filter_eq_self.2
      intro z hz
      simp only [bne_iff_ne, ne_eq]
      intro e
      exact hn.1 (List.mem_map.2 ⟨z, hz, e⟩)
    | succ i =>
      have hi' : r[i]? = some x := by simpa using hi
      have hne : y.key ≠ x.key := fun e => hn.1 (List.mem_map.2 ⟨x, List.mem_of_getElem? hi', e.symm⟩)
      rw [List.filter_cons, if_pos (by simpa using hne), List.eraseIdx_cons_succ, ih hn.2 hi']
theorem rv_filter (now : Int) (L : List RE) (k : KeyV) : (L.filter fun y => y.key != k).map (rv now) = (L.map (rv now)).filter (fun p => p.1 != k) := by
  rw [List.filter_map]; rfl
theorem rv_lookup (now : Int) (L : List RE) (k : KeyV) : (L.map (rv now)).lookup k = (L.find? (fun x => decide (x.key = k))).map (RE.ev now) := by
  induction L with
  | nil => rfl
  | cons z r ih =>
    rw [List.map_cons, List.lookup_cons, List.find?_cons]
    by_cases h : k = z.key
    · have h1 : (k == (rv now z).1) = true := by rw [h]; exact beq_self_eq_true _
      rw [h1, decide_eq_true h.symm]; rfl
    · have h1 : (k == (rv now z).1) = false := beq_eq_false_iff_ne.2 h
      rw [h1, decide_eq_false (Ne.symm h)]; exact ih
theorem idx_cases (L : List RE) (k : KeyV) : (idxR L k = -1 ∧ (∀ x ∈ L, x.key ≠ k) ∧ L.find? (fun x => decide (x.key = k)) = none) ∨ ∃ (i : Nat) (x : RE), idxR L k = (i : Int) ∧ L[i]? = some x ∧ x.key = k ∧ L.find? (fun x => decide (x.key = k)) = some x := by
  unfold idxR
  cases hf : L.findIdx? (fun x => decide (x.key = k)) with
  | none =>
    left
    have h1 := List.findIdx?_eq_none_iff.1 hf
    refine ⟨rfl, fun x hx e => ?_, List.find?_eq_none.2 fun x hx => ?_⟩
    · have := h1 x hx
      rw [decide_eq_true e] at this; cases this
    · rw [h1 x hx]; decide
  | some i =>
    right
    obtain ⟨hlt, hp, hno⟩ := List.findIdx?_eq_some_iff_getElem.1 hf
    refine ⟨i, L[i], rfl, List.getElem?_eq_getElem hlt, of_decide_eq_true hp, ?_⟩
    rw [List.find?_eq_some_iff_getElem]
    exact ⟨hp, i, hlt, rfl, fun j hj => by simpa using hno j hj⟩
theorem map_set_key (now : Int) {L : List RE} (hn : (L.map (·.key)).Nodup) {i : Nat} {x x3 : RE} (hi : L[i]? = some x) (hk : x3.key = x.key) : (L.set i x3).map (rv now) = (L.map (rv now)).map fun p => if p.1 = x.key then (p.1, x3.ev now) else p := by
  have hil : i < L.length := (List.getElem?_eq_some_iff.1 hi).1
  have hie : L[i] = x := (List.getElem?_eq_some_iff.1 hi).2
  apply List.ext_getElem?
  intro n
  rw [List.getElem?_map, List.getElem?_map, List.getElem?_map]
  by_cases hni : n = i
  · subst hni
    rw [List.getElem?_set_self hil, hi]
    simp only [Option.map_some]
    show some (x3.key, x3.ev now) = some (if x.key = x.key then (x.key, x3.ev now) else _)
    rw [if_pos rfl, hk]
  · rw [List.getElem?_set_ne (Ne.symm hni)]
    cases hy : L[n]? with
    | none => rfl
    | some y =>
      simp only [Option.map_some]
      have hyk : y.key ≠ x.key := by
        have hnl : n < L.length := (List.getElem?_eq_some_iff.1 hy).1
        have hye : L[n] = y := (List.getElem?_eq_some_iff.1 hy).2
        have hpw := List.pairwise_iff_getElem.1 (List.pairwise_map.1 hn)
        rcases Nat.lt_or_gt_of_ne hni with h | h
        · have := hpw n i hnl hil h
          rwa [hye, hie] at this
        · have := hpw i n hil hnl h
          rw [hye, hie] at this
          exact Ne.symm this
      show some (rv now y) = some (if y.key = x.key then _ else rv now y)
      rw [if_neg hyk]
end Go.Proofs.Ytnghmaejmfhigaa
