/- What is proved: a text that comes in parts, in any order: what a push does. Conditions: those that stand in each theorem. -/
import Derived.Test.YtieolnekccacbaaDirLaw3
namespace Go.Proofs.Ytieolnekccacbaa
set_option linter.unusedVariables false
set_option linter.unusedSimpArgs false
set_option linter.unusedSectionVars false
open Go.RowKit Go.Maps Go.MapKept Go.ChangeMaps
structure OInv (start : Int) (s : ByteArray) (d : DS) : Prop where
  st : d.start = start
  bu : d.buffer = 100
  hi : d.hist = 100
  p0 : 0 ≤ d.pl
  p1 : d.pl ≤ s.size
  nd : (d.held.map (·.1)).Nodup
  hl : ∀ x c, d.held.lookup x = some c → d.pl < x ∧ x < s.size ∧ c = byteAt s.data.toList x
  la : d.last = s.extract 0 d.pl.toNat
  fi : d.fin = -1 ∨ d.fin = s.size
  dn : d.done = decide (d.fin = d.pl)
def Has (d : DS) (x : Int) : Prop := x < d.pl ∨ d.held.lookup x ≠ none
theorem ext_app (s : ByteArray) (a b : Nat) (h : a ≤ b) : s.extract 0 a ++ s.extract a b = s.extract 0 b := by
  rw [ByteArray.extract_append_extract]
  congr 1 <;> omega
theorem ext_ext (s : ByteArray) (k a b : Nat) (h : b ≤ k) : (s.extract 0 k).extract a b = s.extract a b := by
  rw [ByteArray.extract_extract]
  congr 1 <;> omega
structure OPost (start : Int) (s : ByteArray) (d : DS) (fr n : Nat) (r : DS × GotV) : Prop where
  inv : OInv start s r.1
  has : ∀ x, Has d x → Has r.1 x
  new : ∀ x, (fr : Int) ≤ x → x < fr + n → Has r.1 x
  fin : fr + n = s.size → r.1.fin = s.size
  fin' : d.fin = s.size → r.1.fin = s.size
  k5 : r.2.kind ≠ 5
  k1 : r.2.kind = 1 → r.2.from_ = d.pl ∧ s.extract 0 d.pl.toNat ++ r.2.data = s.extract 0 r.1.pl.toNat
  k0 : r.2.kind ≠ 1 → r.1.pl = d.pl
  k2 : r.2.kind = 2 → r.2.data = s.extract fr (fr + n)
theorem filter_lookup_out {l : List (Int × Int)} (a b x : Int) : (l.filter (fun q => !(decide (a ≤ q.1) && decide (q.1 < b)))).lookup x = if a ≤ x ∧ x < b then none else l.lookup x := by
  have := lookup_filter (l := l) (fun y => !(decide (a ≤ y) && decide (y < b))) x
  rw [this]
  by_cases h : a ≤ x ∧ x < b
  · rw [if_pos h, if_neg (by simp [h.1, h.2])]
  · rw [if_neg h, if_pos (by simp only [Bool.not_eq_true', Bool.and_eq_false_iff, decide_eq_false_iff_not]; omega)]
theorem ord_push (start : Int) (hs : 0 ≤ start ∧ start < 4294967296) (s : ByteArray) (hN : s.size ≤ 60) (d : DS) (I : OInv start s d) (fr n : Nat) (hn : 1 ≤ n) (hfn : fr + n ≤ s.size) (data : ByteArray) (hsz : data.size = n)
    (hdata : ∀ x : Int, (fr : Int) ≤ x → x < fr + n → Has d x ∨ byteAt data.data.toList (x - fr) = byteAt s.data.toList x) (fin : Bool) (hfin : fin = decide (fr + n = s.size)) :
    OPost start s d fr n (d.push ((start + fr) % 4294967296) data fin) := by
  obtain ⟨st, bu, hi, p0, p1, nd, hl, la, fi, dn⟩ := I
  have hpush : d.push ((start + fr) % 4294967296) data fin = d.push2 fr (fr + n) data fin := by
    unfold DS.push
    rw [if_neg (by omega), st, plc_at hs p0 (by omega) (by omega)]
    have t : d.trim fr ((fr : Int) + data.size) data fin = ((fr : Int) + n, data, fin) := by
      unfold DS.trim
      rw [hsz]
      rcases fi with h | h
      · rw [if_pos (by omega)]
      · rw [if_neg (by omega), if_pos (by omega), h]
        congr 2
        rw [hfin]
        by_cases e : fr + n = s.size
        · rw [decide_eq_true e, decide_eq_true (by omega)]; rfl
        · rw [decide_eq_false e]; rfl
    rw [t, if_neg (by show ¬ d.pl + d.buffer < (fr : Int) + n; omega)]
  rw [hpush]
  -- the end
  obtain ⟨fn, hfnn⟩ : ∃ fn, fn = if fin = true ∧ d.fin < 0 ∧ d.pl ≤ (fr : Int) + n ∧ far d.held (fr + n) = false then (fr : Int) + n else d.fin := ⟨_, rfl⟩
  have hfar : fr + n = s.size → far d.held ((fr : Int) + n) = false := by
    intro h
    unfold far
    rw [List.any_eq_false]
    intro q hq
    have := hl q.1 q.2 (lookup_of_mem nd hq)
    simp only [decide_eq_true_eq]
    omega
  have hfn1 : fn = -1 ∨ fn = s.size := by
    rw [hfnn]
    split
    · rename_i h
      right
      have := of_decide_eq_true (hfin ▸ h.1)
      omega
    · exact fi
  have hfn2 : fr + n = s.size → fn = s.size := by
    intro h
    rw [hfnn]
    rcases fi with h' | h'
    · rw [if_pos ⟨by rw [hfin]; exact decide_eq_true h, by omega, by omega, hfar h⟩]; omega
    · rw [if_neg (by omega)]; exact h'
  have hfn3 : d.fin = s.size → fn = s.size := by
    intro h
    rw [hfnn, if_neg (by omega)]; exact h
  -- what is held
  obtain ⟨H, hH⟩ : ∃ H, H = ins d.held fr data.data.toList d.pl := ⟨_, rfl⟩
  have hHat : ∀ x, H.lookup x = (d.held.lookup x).or (if d.pl ≤ x ∧ (fr : Int) ≤ x ∧ x < fr + n then some (byteAt data.data.toList (x - fr)) else none) := by
    intro x
    rw [hH, ins_lookup, bytes_len, hsz]
  have hHn : (H.map (·.1)).Nodup := by rw [hH]; exact ins_nodup _ _ _ _ nd
  have hL : ∀ x c, H.lookup x = some c → d.pl ≤ x ∧ x < s.size ∧ c = byteAt s.data.toList x := by
    intro x c h
    rw [hHat] at h
    cases hd : d.held.lookup x with
    | some v =>
      rw [hd] at h
      have h' : v = c := by simpa using h
      have := hl x v hd
      exact ⟨by omega, this.2.1, h' ▸ this.2.2⟩
    | none =>
      rw [hd] at h
      by_cases hc : d.pl ≤ x ∧ (fr : Int) ≤ x ∧ x < fr + n
      · rw [if_pos hc] at h
        have h' : byteAt data.data.toList (x - fr) = c := by simpa using h
        refine ⟨hc.1, by omega, ?_⟩
        rcases hdata x hc.2.1 hc.2.2 with h2 | h2
        · rcases h2 with h2 | h2
          · omega
          · exact absurd hd h2
        · rw [← h', h2]
      · rw [if_neg hc] at h; simp at h
  have hHnew : ∀ x : Int, d.pl ≤ x → (fr : Int) ≤ x → x < fr + n → H.lookup x ≠ none := by
    intro x h1 h2 h3
    rw [hHat, if_pos ⟨h1, h2, h3⟩]
    cases d.held.lookup x <;> simp
  have hHold : ∀ x, d.held.lookup x ≠ none → H.lookup x ≠ none := by
    intro x h1
    rw [hHat]
    cases hd : d.held.lookup x with
    | none => exact absurd hd h1
    | some v => simp
  obtain ⟨j, T, hT, hE⟩ := gap H d.pl fn
  have hT' : ∀ i : Nat, i < j → T i = byteAt s.data.toList (d.pl + i) ∧ d.pl + i < s.size := by
    intro i hi
    have := hL _ _ (hT i hi).1
    exact ⟨this.2.2, this.2.1⟩
  have hj : d.pl + j ≤ s.size := by
    cases j with
    | zero => simpa using p1
    | succ j => have := (hT' j (by omega)).2; omega
  have hno : H.lookup (d.pl + j) = none := by
    rcases hE with h | h
    · exact h
    · cases hl' : H.lookup (d.pl + j) with
      | none => rfl
      | some c =>
        have := hL _ _ hl'
        rcases hfn1 with h2 | h2 <;> omega
  have hout : strOfNums ((List.range j).map T) = s.extract d.pl.toNat (d.pl.toNat + j) := by
    rw [← nums_part s j d.pl.toNat (by omega)]
    congr 1
    apply List.map_congr_left
    intro i hi
    rw [(hT' i (List.mem_range.1 hi)).1]
    congr 1
    omega
  obtain ⟨last, hlast⟩ : ∃ last, last = (decide (d.pl + (j : Int) = fn) && !d.done) := ⟨_, rfl⟩
  have hpl : (d.pl + j).toNat = d.pl.toNat + j := by omega
  have hkeep : keep (d.last ++ strOfNums ((List.range j).map T)) d.hist = s.extract 0 (d.pl.toNat + j) := by
    rw [la, hout, ext_app _ _ _ (by omega), hi]
    apply keep_self
    rw [ByteArray.size_extract]
    omega
  have hdn : (d.done || last) = decide (fn = d.pl + j) := by
    rw [hlast, dn]
    by_cases h : d.fin = d.pl
    · have hN' : d.fin = s.size := by rcases fi with h' | h'; · omega
                                      · exact h'
      have := hfn3 hN'
      rw [decide_eq_true h, decide_eq_true (by omega : fn = d.pl + j)]; rfl
    · rw [decide_eq_false h]
      by_cases h2 : d.pl + (j : Int) = fn
      · rw [decide_eq_true h2, decide_eq_true h2.symm]; rfl
      · rw [decide_eq_false h2, decide_eq_false (Ne.symm h2)]; rfl
  have hp := push2_eq d fr (fr + n) data fin fn hfnn nd j T (by rw [← hH]; exact hT) (by rw [← hH]; exact hE) last hlast _ rfl
  rw [hp, ← hH, hkeep, hdn, hout]
  have hinv : OInv start s ⟨d.start, d.buffer, d.hist, d.pl + j, H.filter (fun q => !(decide (d.pl ≤ q.1) && decide (q.1 < d.pl + j))), s.extract 0 (d.pl.toNat + j), fn, decide (fn = d.pl + j)⟩ := by
    refine ⟨st, bu, hi, by show 0 ≤ d.pl + (j : Int); omega, hj, nodup_filter _ hHn, ?_, by show _ = s.extract 0 (d.pl + j).toNat; rw [hpl], hfn1, rfl⟩
    intro x c h
    show d.pl + (j : Int) < x ∧ _
    have h : (H.filter (fun q => !(decide (d.pl ≤ q.1) && decide (q.1 < d.pl + j)))).lookup x = some c := h
    rw [filter_lookup_out] at h
    by_cases hc : d.pl ≤ x ∧ x < d.pl + j
    · rw [if_pos hc] at h; cases h
    · rw [if_neg hc] at h
      have h3 := hL x c h
      have : x ≠ d.pl + j := by intro e; rw [e, hno] at h; cases h
      exact ⟨by omega, h3.2⟩
  have hhas : ∀ x, d.pl ≤ x → H.lookup x ≠ none → Has ⟨d.start, d.buffer, d.hist, d.pl + j, H.filter (fun q => !(decide (d.pl ≤ q.1) && decide (q.1 < d.pl + j))), s.extract 0 (d.pl.toNat + j), fn, decide (fn = d.pl + j)⟩ x := by
    intro x h1 h2
    by_cases h3 : x < d.pl + j
    · exact .inl h3
    · right
      show (H.filter (fun q => !(decide (d.pl ≤ q.1) && decide (q.1 < d.pl + j)))).lookup x ≠ none
      rw [filter_lookup_out, if_neg (by omega)]
      exact h2
  have hold : ∀ x, Has d x → Has ⟨d.start, d.buffer, d.hist, d.pl + j, H.filter (fun q => !(decide (d.pl ≤ q.1) && decide (q.1 < d.pl + j))), s.extract 0 (d.pl.toNat + j), fn, decide (fn = d.pl + j)⟩ x := by
    intro x h
    by_cases h1 : x < d.pl
    · left; show x < d.pl + (j : Int); omega
    · rcases h with h | h
      · exact absurd h h1
      · exact hhas x (by omega) (hHold x h)
  have hnew : ∀ x, (fr : Int) ≤ x → x < fr + n → Has ⟨d.start, d.buffer, d.hist, d.pl + j, H.filter (fun q => !(decide (d.pl ≤ q.1) && decide (q.1 < d.pl + j))), s.extract 0 (d.pl.toNat + j), fn, decide (fn = d.pl + j)⟩ x := by
    intro x h1 h2
    by_cases h3 : x < d.pl
    · left; show x < d.pl + (j : Int); omega
    · exact hhas x (by omega) (hHnew x (by omega) h1 h2)
  by_cases h1 : j ≠ 0 ∨ last = true
  · rw [if_pos h1]
    refine ⟨hinv, hold, hnew, hfn2, hfn3, by show (1 : Int) ≠ 5; decide, fun _ => ⟨rfl, ?_⟩, fun h => absurd rfl h, fun h => absurd h (by show ¬ (1 : Int) = 2; decide)⟩
    show s.extract 0 d.pl.toNat ++ s.extract d.pl.toNat (d.pl.toNat + j) = s.extract 0 (d.pl + j).toNat
    rw [ext_app _ _ _ (by omega), hpl]
  · have hj0 : j = 0 := by omega
    subst hj0
    rw [if_neg h1]
    by_cases h2 : d.pl + ((0 : Nat) : Int) < (fr : Int) + n
    · rw [if_pos h2]
      exact ⟨hinv, hold, hnew, hfn2, hfn3, by show (4 : Int) ≠ 5; decide, fun h => absurd h (by show ¬ (4 : Int) = 1; decide), fun _ => by show d.pl + ((0 : Nat) : Int) = d.pl; omega, fun h => absurd h (by show ¬ (4 : Int) = 2; decide)⟩
    · rw [if_neg h2, if_pos (by omega)]
      refine ⟨hinv, hold, hnew, hfn2, hfn3, by show (2 : Int) ≠ 5; decide, fun h => absurd h (by show ¬ (2 : Int) = 1; decide), fun _ => by show d.pl + ((0 : Nat) : Int) = d.pl; omega, fun _ => ?_⟩
      show (s.extract 0 (d.pl.toNat + 0)).extract _ _ = s.extract fr (fr + n)
      rw [ByteArray.size_extract]
      rw [ext_ext _ _ _ _ (by omega)]
      congr 1 <;> omega
end Go.Proofs.Ytieolnekccacbaa
