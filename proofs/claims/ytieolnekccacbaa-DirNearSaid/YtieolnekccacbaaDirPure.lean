/- What is proved: what is held, what goes on: plain laws of lists. Conditions: those that stand in each theorem. -/
import Derived.Test.YtieolnekccacbaaDirPush2
namespace Go.Proofs.Ytieolnekccacbaa
set_option linter.unusedVariables false
set_option linter.unusedSimpArgs false
set_option linter.unusedSectionVars false
open Go.RowKit Go.Maps Go.MapKept Go.ChangeMaps
def lay : Int → List UInt8 → List (Int × Int)
  | _, [] => []
  | o, c :: r => (o, (c.toNat : Int)) :: lay (o + 1) r
theorem lay_len (s : List UInt8) : ∀ o, (lay o s).length = s.length := by
  induction s with
  | nil => intro o; rfl
  | cons c r ih => intro o; simp [lay, ih]
theorem lookup_append {l r : List (Int × Int)} (x : Int) : (l ++ r).lookup x = (l.lookup x).or (r.lookup x) := by
  induction l with
  | nil => rfl
  | cons q l ih =>
    rw [List.cons_append, List.lookup_cons, List.lookup_cons]
    split
    · rfl
    · exact ih
theorem lookup_one (x y c : Int) : [(y, c)].lookup x = if x = y then some c else none := by
  rw [List.lookup_cons]
  by_cases h : x = y
  · subst h; simp
  · rw [beq_eq_false_iff_ne.2 h, if_neg h]; rfl
/-- A byte by its place. -/
def byteAt (s : List UInt8) (i : Int) : Int := ((s.getD i.toNat 0).toNat : Int)
theorem ins_lookup (s : List UInt8) : ∀ (l : List (Int × Int)) (off pl x : Int), (ins l off s pl).lookup x = (l.lookup x).or (if pl ≤ x ∧ off ≤ x ∧ x < off + s.length then some (byteAt s (x - off)) else none) := by
  induction s with
  | nil =>
    intro l off pl x
    simp only [ins, List.length_nil]
    rw [if_neg (by omega)]; simp
  | cons c r ih =>
    intro l off pl x
    simp only [ins, List.length_cons]
    rw [ih]
    by_cases hx : x = off
    · subst hx
      rw [if_neg (show ¬ (pl ≤ x ∧ x + 1 ≤ x ∧ x < x + 1 + (r.length : Int)) by omega)]
      by_cases hp : pl ≤ x
      · rw [if_pos (show pl ≤ x ∧ x ≤ x ∧ x < x + ((r.length + 1 : Nat) : Int) by omega)]
        cases hl : l.lookup x with
        | none =>
          rw [if_pos ⟨rfl, hp⟩, lookup_append, hl, lookup_one, if_pos rfl]
          simp [byteAt]
        | some v => rw [if_neg (by simp)]; rw [hl]; simp
      · rw [if_neg (by omega), if_neg (by omega)]
    · have e : (if l.lookup off = none ∧ pl ≤ off then l ++ [(off, (c.toNat : Int))] else l).lookup x = l.lookup x := by
        split
        · rw [lookup_append, lookup_one, if_neg hx]; simp
        · rfl
      rw [e]
      congr 1
      by_cases h : pl ≤ x ∧ off ≤ x ∧ x < off + ((r.length + 1 : Nat) : Int)
      · rw [if_pos h, if_pos (by omega)]
        congr 1
        unfold byteAt
        rw [show (x - off).toNat = (x - (off + 1)).toNat + 1 by omega]
        rfl
      · rw [if_neg h, if_neg (by omega)]
theorem ins_nodup (s : List UInt8) : ∀ (l : List (Int × Int)) (off pl : Int), (l.map (·.1)).Nodup → ((ins l off s pl).map (·.1)).Nodup := by
  induction s with
  | nil => intro l off pl h; exact h
  | cons c r ih =>
    intro l off pl h
    simp only [ins]
    apply ih
    split
    · rename_i hn
      rw [List.map_append, List.nodup_append]
      refine ⟨h, by simp, ?_⟩
      intro a ha b hb
      simp only [List.map_cons, List.map_nil, List.mem_singleton] at hb
      subst hb
      obtain ⟨q, hq, rfl⟩ := List.mem_map.1 ha
      exact lookup_none.1 hn.1 q hq
    · exact h
theorem ins_low (s : List UInt8) : ∀ (l : List (Int × Int)) (off pl : Int), off + s.length ≤ pl → ins l off s pl = l := by
  induction s with
  | nil => intro l off pl _; rfl
  | cons c r ih =>
    intro l off pl h
    simp only [List.length_cons] at h
    simp only [ins]
    rw [if_neg (by omega)]
    exact ih l (off + 1) pl (by omega)
theorem ins_fresh (s : List UInt8) : ∀ (l : List (Int × Int)) (off pl : Int), pl ≤ off → (∀ q ∈ l, q.1 < off ∨ off + s.length ≤ q.1) → ins l off s pl = l ++ lay off s := by
  induction s with
  | nil => intro l off pl _ _; simp [ins, lay]
  | cons c r ih =>
    intro l off pl h hq
    simp only [List.length_cons] at hq
    simp only [ins, lay]
    rw [if_pos ⟨lookup_none.2 fun q hm => by have := hq q hm; omega, h⟩, ih _ _ _ (by omega)]
    · simp
    · intro q hm
      rcases List.mem_append.1 hm with hm | hm
      · have := hq q hm; omega
      · simp only [List.mem_singleton] at hm; subst hm; left; simp only; omega
theorem lookup_filter {l : List (Int × Int)} (p : Int → Bool) (x : Int) : (l.filter (fun q => p q.1)).lookup x = if p x = true then l.lookup x else none := by
  induction l with
  | nil => simp
  | cons q r ih =>
    rw [List.filter_cons, List.lookup_cons]
    by_cases hx : x = q.1
    · subst hx
      by_cases hp : p q.1 = true
      · rw [if_pos hp, if_pos hp, List.lookup_cons]; simp
      · rw [if_neg hp, ih, if_neg hp, if_neg hp]
    · rw [beq_eq_false_iff_ne.2 hx]
      by_cases hp : p q.1 = true
      · rw [if_pos hp, List.lookup_cons, beq_eq_false_iff_ne.2 hx]; simp only; exact ih
      · rw [if_neg hp]; simp only; exact ih
theorem nodup_filter {l : List (Int × Int)} (p : Int × Int → Bool) (h : (l.map (·.1)).Nodup) : ((l.filter p).map (·.1)).Nodup := h.sublist ((List.filter_sublist).map _)
/-- What goes on: all up to the first place without a byte, or up to the end. -/
theorem rel_spec : ∀ (n : Nat) (pl : Int) (l : List (Int × Int)) (fin : Int) (j : Nat) (T : Nat → Int), l.length = n → (l.map (·.1)).Nodup →
    (∀ i : Nat, i < j → l.lookup (pl + i) = some (T i) ∧ pl + i ≠ fin) → (l.lookup (pl + j) = none ∨ pl + j = fin) →
    rel n pl l fin = (pl + j, l.filter (fun q => !(decide (pl ≤ q.1) && decide (q.1 < pl + j))), (List.range j).map T)
  | n, pl, l, fin, 0, T, hn, hd, hT, hE => by
    have h0 : l.lookup pl = none ∨ pl = fin := by simpa using hE
    rw [rel_none h0]
    have : l.filter (fun q => !(decide (pl ≤ q.1) && decide (q.1 < pl + ((0 : Nat) : Int)))) = l := List.filter_eq_self.2 fun q _ => by
      simp only [Bool.not_eq_true', Bool.and_eq_false_iff, decide_eq_false_iff_not]
      omega
    rw [this]
    simp
  | 0, pl, l, fin, j + 1, T, hn, hd, hT, hE => by
    obtain rfl := List.eq_nil_of_length_eq_zero hn
    have := (hT 0 (by omega)).1
    simp at this
  | n + 1, pl, l, fin, j + 1, T, hn, hd, hT, hE => by
    have h0 := hT 0 (by omega)
    have h0' : l.lookup pl = some (T 0) ∧ pl ≠ fin := by simpa using h0
    have hcut := cut_len hd h0'.1
    have ih := rel_spec n (pl + 1) (l.filter (fun q => q.1 != pl)) fin j (fun i => T (i + 1)) (by omega) (nodup_filter _ hd) ?_ ?_
    · simp only [rel]
      rw [h0'.1]
      simp only
      rw [if_neg h0'.2, ih]
      have e1 : pl + 1 + (j : Int) = pl + ((j + 1 : Nat) : Int) := by omega
      have e2 : (l.filter (fun q => q.1 != pl)).filter (fun q => !(decide (pl + 1 ≤ q.1) && decide (q.1 < pl + 1 + (j : Int)))) = l.filter (fun q => !(decide (pl ≤ q.1) && decide (q.1 < pl + ((j + 1 : Nat) : Int)))) := by
        rw [List.filter_filter]
        apply List.filter_congr
        intro q _
        rw [Bool.eq_iff_iff]
        simp only [Bool.and_eq_true, Bool.not_eq_true', Bool.and_eq_false_iff, decide_eq_false_iff_not, bne_iff_ne, ne_eq]
        omega
      rw [e2, e1, List.range_succ_eq_map]
      simp [Function.comp_def]
    · intro i hi
      have := hT (i + 1) (by omega)
      rw [show pl + 1 + (i : Int) = pl + ((i + 1 : Nat) : Int) by omega]
      refine ⟨?_, this.2⟩
      have e := lookup_filter (l := l) (fun y => y != pl) (pl + ((i + 1 : Nat) : Int))
      rw [if_pos (by simp only [bne_iff_ne, ne_eq]; omega)] at e
      rw [e]; exact this.1
    · rw [show pl + 1 + (j : Int) = pl + ((j + 1 : Nat) : Int) by omega]
      rcases hE with h | h
      · left
        have e := lookup_filter (l := l) (fun y => y != pl) (pl + ((j + 1 : Nat) : Int))
        rw [if_pos (by simp only [bne_iff_ne, ne_eq]; omega)] at e
        rw [e]; exact h
      · exact .inr h
/-- There is such a place. -/
theorem gap (l : List (Int × Int)) (pl fin : Int) : ∃ (j : Nat) (T : Nat → Int), (∀ i : Nat, i < j → l.lookup (pl + i) = some (T i) ∧ pl + i ≠ fin) ∧ (l.lookup (pl + j) = none ∨ pl + j = fin) := by
  have hex : ∃ j : Nat, l.lookup (pl + j) = none := by
    have : ∀ (l : List (Int × Int)), ∃ M : Nat, ∀ j : Nat, M ≤ j → ∀ q ∈ l, q.1 ≠ pl + j := by
      intro l
      induction l with
      | nil => exact ⟨0, fun j _ q hq => by cases hq⟩
      | cons q r ih =>
        obtain ⟨M, hM⟩ := ih
        refine ⟨max M ((q.1 - pl).toNat + 1), fun j hj q' hq' => ?_⟩
        rcases List.mem_cons.1 hq' with rfl | hq'
        · omega
        · exact hM j (by omega) q' hq'
    obtain ⟨M, hM⟩ := this l
    exact ⟨M, lookup_none.2 (hM M (Nat.le_refl _))⟩
  obtain ⟨M, hM⟩ := hex
  have : ∀ (k : Nat), (∃ j : Nat, j < k ∧ (∀ i : Nat, i < j → ∃ v, l.lookup (pl + i) = some v ∧ pl + i ≠ fin) ∧ (l.lookup (pl + j) = none ∨ pl + j = fin)) ∨ ∀ i : Nat, i < k → ∃ v, l.lookup (pl + i) = some v ∧ pl + i ≠ fin := by
    intro k
    induction k with
    | zero => right; intro i hi; omega
    | succ k ih =>
      rcases ih with ⟨j, h1, h2, h3⟩ | h
      · exact .inl ⟨j, by omega, h2, h3⟩
      · cases hl : l.lookup (pl + k) with
        | none => exact .inl ⟨k, by omega, h, .inl hl⟩
        | some v =>
          by_cases hf : pl + k = fin
          · exact .inl ⟨k, by omega, h, .inr hf⟩
          · right
            intro i hi
            by_cases e : i = k
            · subst e; exact ⟨v, hl, hf⟩
            · exact h i (by omega)
  rcases this (M + 1) with ⟨j, _, h2, h3⟩ | h
  · refine ⟨j, fun i => (l.lookup (pl + i)).getD 0, fun i hi => ?_, h3⟩
    obtain ⟨v, hv, hne⟩ := h2 i hi
    exact ⟨by simp [hv], hne⟩
  · obtain ⟨v, hv, _⟩ := h M (by omega)
    rw [hM] at hv; cases hv
theorem size_out (j : Nat) (T : Nat → Int) : (strOfNums ((List.range j).map T)).size = j := by rw [size_nums]; simp
theorem push2_eq (d : DS) (off en : Int) (s : ByteArray) (fin : Bool) (fn : Int) (hfn : fn = if fin = true ∧ d.fin < 0 ∧ d.pl ≤ en ∧ far d.held en = false then en else d.fin) (hd : (d.held.map (·.1)).Nodup) (j : Nat) (T : Nat → Int)
    (hT : ∀ i : Nat, i < j → (ins d.held off s.data.toList d.pl).lookup (d.pl + i) = some (T i) ∧ d.pl + i ≠ fn) (hE : (ins d.held off s.data.toList d.pl).lookup (d.pl + j) = none ∨ d.pl + j = fn) (last : Bool) (hlast : last = (decide (d.pl + (j : Int) = fn) && !d.done)) (d4 : DS)
    (h4 : d4 = ⟨d.start, d.buffer, d.hist, d.pl + j, (ins d.held off s.data.toList d.pl).filter (fun q => !(decide (d.pl ≤ q.1) && decide (q.1 < d.pl + j))), keep (d.last ++ strOfNums ((List.range j).map T)) d.hist, fn, d.done || last⟩) :
    d.push2 off en s fin = (d4, if j ≠ 0 ∨ last = true then ⟨1, d.pl, strOfNums ((List.range j).map T), last⟩ else if d.pl + j < en then ⟨4, 0, ⟨#[]⟩, false⟩ else if 0 ≤ off ∧ d.pl + j - d.hist ≤ off then
      ⟨2, off, d4.last.extract (off - (d.pl + j - d4.last.size)).toNat (en - (d.pl + j - d4.last.size)).toNat, fin && d4.done && decide (en = fn)⟩ else ⟨3, 0, ⟨#[]⟩, false⟩) := by
  have e1 : (if fin = true ∧ d.fin < 0 ∧ d.pl ≤ en ∧ far d.held en = false then { d with fin := en } else d) = { d with fin := fn } := by
    rw [hfn]
    split <;> rfl
  have hr := rel_spec _ d.pl (ins d.held off s.data.toList d.pl) fn j T rfl (ins_nodup _ _ _ _ hd) hT hE
  subst hlast
  unfold DS.push2
  simp only [e1, DS.rels, hr, size_out]
  rw [h4]
def zeros (k : Nat) : ByteArray := strOfNums (List.replicate k 0)
theorem size_zeros (k : Nat) : (zeros k).size = k := by unfold zeros; rw [size_nums]; simp
theorem zeros_at (k : Nat) (i : Int) : byteAt (zeros k).data.toList i = 0 := by
  unfold byteAt zeros strOfNums
  simp only [List.map_replicate]
  by_cases h : i.toNat < k
  · rw [List.getD_eq_getElem?_getD, List.getElem?_eq_getElem (by simpa using h)]; simp
  · rw [List.getD_eq_getElem?_getD, List.getElem?_eq_none (by simpa using h)]; simp
theorem ofNat_toNat (c : UInt8) : UInt8.ofNat (((c.toNat : Nat) : Int).toNat) = c := by simp
theorem strOfNums_byteAt (l : List UInt8) (j k : Nat) : strOfNums ((List.range j).map fun i : Nat => byteAt l ((k : Int) + (i : Int))) = ⟨((List.range j).map fun i => l.getD (k + i) 0).toArray⟩ := by
  unfold strOfNums byteAt
  rw [List.map_map]
  congr 2
  apply List.map_congr_left
  intro i _
  simp only [Function.comp]
  rw [ofNat_toNat]
  congr 1
theorem part_of (l : List UInt8) (j k : Nat) (h : k + j ≤ l.length) : (List.range j).map (fun i => l.getD (k + i) 0) = (l.drop k).take j := by
  apply List.ext_getElem?
  intro i
  rw [List.getElem?_map, List.getElem?_take, List.getElem?_drop]
  by_cases hi : i < j
  · rw [List.getElem?_range hi, if_pos hi, Option.map_some, List.getD_eq_getElem?_getD, List.getElem?_eq_getElem (by omega), Option.getD_some]
  · rw [if_neg hi, List.getElem?_eq_none (by simpa using hi)]; rfl
/-- Bytes by their places: the text's part. -/
theorem nums_part (s : ByteArray) (j k : Nat) (h : k + j ≤ s.size) : strOfNums ((List.range j).map fun i : Nat => byteAt s.data.toList ((k : Int) + (i : Int))) = s.extract k (k + j) := by
  rw [strOfNums_byteAt, part_of _ _ _ (by simpa using h)]
  apply ByteArray.ext
  rw [ByteArray.data_extract]
  apply Array.toList_inj.1
  simp [List.take_drop]
theorem plc_at {start o near : Int} (hs : 0 ≤ start ∧ start < 4294967296) (hn : 0 ≤ near) (ho : -2147483648 ≤ o - near) (ho1 : o - near < 2147483648) : plc start ((start + o) % 4294967296) near = o := by
  unfold plc sd wrap32
  omega
end Go.Proofs.Ytieolnekccacbaa
