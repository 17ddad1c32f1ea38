/- What is proved: a text in parts, in any order: what a part does. Conditions: those that stand in each theorem. -/
import Derived.Test.YtnghmaejmfhigaaDefLaw2
import Derived.Test.YtnghmaejmfhigaaDefBytes
namespace Go.Proofs.Ytnghmaejmfhigaa
set_option linter.unusedVariables false
set_option linter.unusedSimpArgs false
set_option linter.unusedSectionVars false
open Go.RowKit Go.Maps Go.MapKept Go.ChangeMaps Fw
/-- A byte by its place. -/
def byteAt (s : List UInt8) (i : Int) : Int := ((s.getD i.toNat 0).toNat : Int)
theorem lookup_append {l r : List (Int × Int)} (x : Int) : (l ++ r).lookup x = (l.lookup x).or (r.lookup x) := by
  induction l with
  | nil => rfl
  | cons q l ih =>
    rw [List.cons_append, List.lookup_cons, List.lookup_cons]
    split
    · rfl
    · exact ih
theorem lookup_one (x y c : Int) : [(y, c)].lookup x = if x = y then some c else none := by
  rw [List.lookup_cons]
  by_cases h : x = y
  · subst h; simp
  · rw [beq_eq_false_iff_ne.2 h, if_neg h]; rfl
theorem insD_lookup (s : List UInt8) : ∀ (l : List (Int × Int)) (off all x : Int), (insD l off s all).lookup x = (l.lookup x).or (if off ≤ x ∧ x < off + s.length ∧ (all = 0 ∨ x < all) then some (byteAt s (x - off)) else none) := by
  induction s with
  | nil =>
    intro l off all x
    simp only [insD, List.length_nil]
    rw [if_neg (by omega)]; simp
  | cons c r ih =>
    intro l off all x
    simp only [insD, List.length_cons]
    rw [ih]
    by_cases hx : x = off
    · subst hx
      rw [if_neg (show ¬ (x + 1 ≤ x ∧ x < x + 1 + (r.length : Int) ∧ (all = 0 ∨ x < all)) by omega)]
      by_cases hp : all = 0 ∨ x < all
      · rw [if_pos (show x ≤ x ∧ x < x + ((r.length + 1 : Nat) : Int) ∧ (all = 0 ∨ x < all) from ⟨by omega, by omega, hp⟩)]
        cases hl : l.lookup x with
        | none =>
          rw [if_pos ⟨rfl, hp⟩, lookup_append, hl, lookup_one, if_pos rfl]
          simp [byteAt]
        | some v => rw [if_neg (by simp)]; rw [hl]; simp
      · rw [if_neg (fun h => hp h.2), if_neg (fun h => hp h.2.2)]
    · have e : (if l.lookup off = none ∧ (all = 0 ∨ off < all) then l ++ [(off, (c.toNat : Int))] else l).lookup x = l.lookup x := by
        split
        · rw [lookup_append, lookup_one, if_neg hx]; simp
        · rfl
      rw [e]
      congr 1
      by_cases h : off ≤ x ∧ x < off + ((r.length + 1 : Nat) : Int) ∧ (all = 0 ∨ x < all)
      · rw [if_pos h, if_pos (by omega)]
        congr 1
        unfold byteAt
        rw [show (x - off).toNat = (x - (off + 1)).toNat + 1 by omega]
        rfl
      · rw [if_neg h, if_neg (by omega)]
theorem insD_nodup (s : List UInt8) : ∀ (l : List (Int × Int)) (off all : Int), (l.map (·.1)).Nodup → ((insD l off s all).map (·.1)).Nodup := by
  induction s with
  | nil => intro l off all h; exact h
  | cons c r ih =>
    intro l off all h
    simp only [insD]
    apply ih
    split
    · rename_i hn
      rw [List.map_append, List.nodup_append]
      refine ⟨h, by simp, ?_⟩
      intro a ha b hb
      simp only [List.map_cons, List.map_nil, List.mem_singleton] at hb
      subst hb
      obtain ⟨q, hq, rfl⟩ := List.mem_map.1 ha
      exact lookup_none.1 hn.1 q hq
    · exact h
theorem lookup_filter {l : List (Int × Int)} (p : Int → Bool) (x : Int) : (l.filter (fun q => p q.1)).lookup x = if p x = true then l.lookup x else none := by
  induction l with
  | nil => simp
  | cons q r ih =>
    rw [List.filter_cons, List.lookup_cons]
    by_cases hx : x = q.1
    · subst hx
      by_cases hp : p q.1 = true
      · rw [if_pos hp, if_pos hp, List.lookup_cons]; simp
      · rw [if_neg hp, ih, if_neg hp, if_neg hp]
    · rw [beq_eq_false_iff_ne.2 hx]
      by_cases hp : p q.1 = true
      · rw [if_pos hp, List.lookup_cons, beq_eq_false_iff_ne.2 hx]; simp only; exact ih
      · rw [if_neg hp]; simp only; exact ih
theorem ofNat_toNat (c : UInt8) : UInt8.ofNat (((c.toNat : Nat) : Int).toNat) = c := by simp
theorem nums_all (s : ByteArray) : strOfNums ((List.range s.size).map fun i : Nat => byteAt s.data.toList (i : Int)) = s := by
  unfold strOfNums byteAt
  rw [List.map_map]
  apply ByteArray.ext
  apply Array.toList_inj.1
  apply List.ext_getElem?
  intro i
  have hl : s.data.toList.length = s.size := bytes_len s
  simp only [List.getElem?_map]
  by_cases hi : i < s.size
  · rw [List.getElem?_range hi, List.getElem?_eq_getElem (by omega)]
    simp only [Option.map_some, Function.comp, Int.toNat_natCast]
    rw [List.getD_eq_getElem?_getD, List.getElem?_eq_getElem (by omega), Option.getD_some]
    congr 1
    exact ofNat_toNat _
  · rw [List.getElem?_eq_none (by simp; omega), List.getElem?_eq_none (by omega)]; rfl
theorem byteAt_part (s : ByteArray) (a n : Nat) (h : a + n ≤ s.size) (x : Int) (h0 : (a : Int) ≤ x) (h1 : x < a + n) : byteAt (s.extract a (a + n)).data.toList (x - a) = byteAt s.data.toList x := by
  unfold byteAt
  rw [ByteArray.data_extract, Array.toList_extract, List.extract_eq_take_drop]
  congr 2
  rw [List.getD_eq_getElem?_getD, List.getD_eq_getElem?_getD, List.getElem?_take, if_pos (by omega), List.getElem?_drop]
  congr 2
  omega
theorem nodup_count : ∀ (b : Nat) (l : List Int) (a : Int), l.Nodup → (∀ x ∈ l, a ≤ x ∧ x < a + b) → l.length ≤ b
  | 0, l, a, _, h => by
    cases l with
    | nil => simp
    | cons x r => have := h x List.mem_cons_self; omega
  | b + 1, l, a, hn, h => by
    have h1 := nodup_count b (l.erase (a + b)) a (hn.erase _) (fun x hx => by
      have hm := List.mem_of_mem_erase hx
      have h2 := h x hm
      have : x ≠ a + b := fun e => by rw [e] at hx; exact List.Nodup.not_mem_erase hn hx
      omega)
    by_cases hm : a + (b : Int) ∈ l
    · rw [List.length_erase_of_mem hm] at h1; omega
    · rw [List.erase_of_not_mem hm] at h1; omega
theorem cover_count : ∀ (b : Nat) (l : List Int) (a : Int), (∀ x, a ≤ x → x < a + b → x ∈ l) → b ≤ l.length
  | 0, l, a, _ => Nat.zero_le _
  | b + 1, l, a, h => by
    have hm : a + (b : Int) ∈ l := h _ (by omega) (by omega)
    have h1 := cover_count b (l.erase (a + b)) a (fun x h0 h1 => (List.mem_erase_of_ne (by omega)).2 (h x h0 (by omega)))
    rw [List.length_erase_of_mem hm] at h1
    have := List.length_pos_of_mem hm
    omega
theorem mem_keys {l : List (Int × Int)} {x : Int} : x ∈ l.map (·.1) ↔ l.lookup x ≠ none := by
  constructor
  · intro h e
    obtain ⟨q, hq, e'⟩ := List.mem_map.1 h
    exact lookup_none.1 e q hq e'
  · intro h
    by_cases hm : x ∈ l.map (·.1)
    · exact hm
    · exfalso
      apply h
      rw [lookup_none]
      intro p hp e
      exact hm (List.mem_map.2 ⟨p, hp, e⟩)
/-! ### The parts -/
structure Parts (N : Nat) (A B : List Nat) : Prop where
  len : A.length = B.length
  z : A.getD 0 0 = 0
  nx : ∀ j, j + 1 < A.length → A.getD (j + 1) 0 = A.getD j 0 + B.getD j 0
  la : ∀ j, j + 1 = A.length → A.getD j 0 + B.getD j 0 = N
  b1 : ∀ j, j < A.length → 1 ≤ B.getD j 0
  m8 : ∀ j, j + 1 < A.length → B.getD j 0 % 8 = 0
theorem Parts.mono {N : Nat} {A B : List Nat} (P : Parts N A B) (j : Nat) : ∀ k, j < k → k < A.length → A.getD j 0 + B.getD j 0 ≤ A.getD k 0 := by
  intro k
  induction k with
  | zero => intro h; omega
  | succ k ih =>
    intro h h1
    rw [P.nx k h1]
    by_cases e : j = k
    · rw [e]; exact Nat.le_refl _
    · have := ih (by omega) (by omega); omega
theorem Parts.bound {N : Nat} {A B : List Nat} (P : Parts N A B) (k : Nat) (h : k < A.length) : A.getD k 0 + B.getD k 0 ≤ N := by
  by_cases e : k + 1 = A.length
  · rw [P.la k e]; exact Nat.le_refl _
  · have h1 := P.mono k (A.length - 1) (by omega) (by omega)
    have h2 := P.la (A.length - 1) (by omega)
    omega
theorem Parts.cover {N : Nat} {A B : List Nat} (P : Parts N A B) (h0 : 0 < A.length) (x : Int) (hx0 : 0 ≤ x) (hx : x < N) : ∃ k, k < A.length ∧ (A.getD k 0 : Int) ≤ x ∧ x < (A.getD k 0 : Int) + B.getD k 0 := by
  have : ∀ m, m < A.length → x < (A.getD m 0 : Int) + B.getD m 0 → ∃ k, k < A.length ∧ (A.getD k 0 : Int) ≤ x ∧ x < (A.getD k 0 : Int) + B.getD k 0 := by
    intro m
    induction m with
    | zero => intro hm hlt; exact ⟨0, hm, by rw [P.z]; exact hx0, hlt⟩
    | succ m ih =>
      intro hm hlt
      by_cases hge : (A.getD (m + 1) 0 : Int) ≤ x
      · exact ⟨m + 1, hm, hge, hlt⟩
      · have := P.nx m hm
        exact ih (by omega) (by omega)
  have hl := P.la (A.length - 1) (by omega)
  exact this (A.length - 1) (by omega) (by omega)
def Got (A B : List Nat) (went : List Bool) (x : Int) : Prop := ∃ k, went.getD k false = true ∧ (A.getD k 0 : Int) ≤ x ∧ x < (A.getD k 0 : Int) + B.getD k 0
structure OI (s : ByteArray) (A B : List Nat) (went : List Bool) (e : EV) : Prop where
  nd : (e.bytes.map (·.1)).Nodup
  on : ∀ x, Got A B went x → e.bytes.lookup x = some (byteAt s.data.toList x)
  off : ∀ x, ¬ Got A B went x → e.bytes.lookup x = none
  all : e.all = if went.getD (A.length - 1) false = true then (s.size : Int) else 0
def k7 : KeyV := ⟨0, 0, 0, 7⟩
def TO (s : ByteArray) (A B : List Nat) (went : List Bool) (T : List (KeyV × EV)) : Prop := (T = [] ∧ OI s A B went ⟨[], 0, 0⟩) ∨ ∃ e, T = [(k7, e)] ∧ OI s A B went e
def i7 (m : Bool) (o : Int) : IPV := ⟨0, 7, m, false, o, 0, 0, 0, 0, ⟨#[]⟩⟩
theorem getD_set {went : List Bool} {k : Nat} (hk : k < went.length) (j : Nat) : (went.set k true).getD j false = if j = k then true else went.getD j false := by
  by_cases h : j = k
  · subst h; rw [if_pos rfl, List.getD_eq_getElem?_getD, List.getElem?_set_self hk]; rfl
  · rw [if_neg h, List.getD_eq_getElem?_getD, List.getElem?_set_ne (Ne.symm h), ← List.getD_eq_getElem?_getD]
theorem got_set {A B : List Nat} {went : List Bool} {k : Nat} (hk : k < went.length) (x : Int) : Got A B (went.set k true) x ↔ Got A B went x ∨ ((A.getD k 0 : Int) ≤ x ∧ x < (A.getD k 0 : Int) + B.getD k 0) := by
  constructor
  · rintro ⟨j, hj, h⟩
    rw [getD_set hk] at hj
    by_cases e : j = k
    · right; rw [← e]; exact h
    · rw [if_neg e] at hj; exact .inl ⟨j, hj, h⟩
  · rintro (⟨j, hj, h⟩ | h)
    · refine ⟨j, ?_, h⟩
      rw [getD_set hk]; split
      · rfl
      · exact hj
    · exact ⟨k, by rw [getD_set hk, if_pos rfl], h⟩
theorem oi_add {s body : ByteArray} {A B : List Nat} {went : List Bool} {e : EV} (P : Parts s.size A B) (h2 : 2 ≤ A.length) (hw : went.length = A.length) (h : OI s A B went e) {k : Nat} (hk : k < A.length) (hs : body.size = B.getD k 0)
    (hb : went.getD k false = false → body = s.extract (A.getD k 0) (A.getD k 0 + B.getD k 0)) : OI s A B (went.set k true) (addE (some e) (i7 (decide (k + 1 < A.length)) (A.getD k 0)) body) := by
  have hkw : k < went.length := by omega
  obtain ⟨e1, he1⟩ : ∃ e1, e1 = if (i7 (decide (k + 1 < A.length)) (A.getD k 0)).more = false ∧ e.all = 0 then ({ e with all := (A.getD k 0 : Int) + body.size } : EV).trim else e := ⟨_, rfl⟩
  have hbnd := P.bound k hk
  have hgotN : ∀ x, Got A B went x → x < s.size ∧ 0 ≤ x := by
    rintro x ⟨j, hj, h0, h1⟩
    have hjl : j < A.length := by
      rcases Nat.lt_or_ge j A.length with h | h
      · exact h
      · rw [List.getD_eq_getElem?_getD, List.getElem?_eq_none (by omega)] at hj; cases hj
    have := P.bound j hjl
    omega
  have hbl : ∀ x, e1.bytes.lookup x = e.bytes.lookup x := by
    intro x
    rw [he1]
    split
    · rename_i hc
      have hlast : k + 1 = A.length := by
        have := hc.1
        have : ¬ k + 1 < A.length := of_decide_eq_false this
        omega
      have hN := P.la k hlast
      show (e.bytes.filter fun q => decide (q.1 < (A.getD k 0 : Int) + body.size)).lookup x = _
      rw [lookup_filter (fun y => decide (y < (A.getD k 0 : Int) + body.size)) x]
      by_cases hx : x < (A.getD k 0 : Int) + body.size
      · rw [decide_eq_true hx, if_pos rfl]
      · rw [decide_eq_false hx, if_neg (by decide)]
        refine (h.off x fun hg => ?_).symm
        have := (hgotN x hg).1
        omega
    · rfl
  have hnd : (e1.bytes.map (·.1)).Nodup := by
    rw [he1]
    split
    · exact h.nd.sublist ((List.filter_sublist).map _)
    · exact h.nd
  have hall : e1.all = if (went.set k true).getD (A.length - 1) false = true then (s.size : Int) else 0 := by
    rw [he1, getD_set hkw]
    by_cases hlast : k + 1 = A.length
    · have hm : (i7 (decide (k + 1 < A.length)) (A.getD k 0)).more = false := decide_eq_false (by omega)
      have hN := P.la k hlast
      rw [if_pos (show A.length - 1 = k by omega), if_pos rfl]
      by_cases h0 : e.all = 0
      · rw [if_pos ⟨hm, h0⟩]
        show (A.getD k 0 : Int) + body.size = s.size
        omega
      · rw [if_neg (fun hc => h0 hc.2)]
        have := h.all
        split at this
        · exact this
        · exact absurd this h0
    · have hm : (i7 (decide (k + 1 < A.length)) (A.getD k 0)).more = true := decide_eq_true (by omega)
      rw [if_neg (by rw [hm]; simp), if_neg (show ¬ A.length - 1 = k by omega)]
      exact h.all
  have haddE : addE (some e) (i7 (decide (k + 1 < A.length)) (A.getD k 0)) body = { e1 with bytes := insD e1.bytes (A.getD k 0) body.data.toList e1.all } := by
    rw [he1]; rfl
  have hlk : ∀ x, (insD e1.bytes (A.getD k 0) body.data.toList e1.all).lookup x = (e.bytes.lookup x).or (if (A.getD k 0 : Int) ≤ x ∧ x < (A.getD k 0 : Int) + B.getD k 0 then some (byteAt body.data.toList (x - A.getD k 0)) else none) := by
    intro x
    rw [insD_lookup, hbl, bytes_len, hs]
    congr 1
    by_cases hx : (A.getD k 0 : Int) ≤ x ∧ x < (A.getD k 0 : Int) + B.getD k 0
    · have hc : e1.all = 0 ∨ x < e1.all := by
        rw [hall]
        by_cases hl : (went.set k true).getD (A.length - 1) false = true
        · rw [if_pos hl]; right; omega
        · rw [if_neg hl]; left; rfl
      rw [if_pos hx, if_pos ⟨hx.1, hx.2, hc⟩]
    · rw [if_neg hx, if_neg (fun hc => hx ⟨hc.1, hc.2.1⟩)]
  rw [haddE]
  refine ⟨insD_nodup _ _ _ _ hnd, fun x hg => ?_, fun x hg => ?_, hall⟩
  · show (insD e1.bytes (A.getD k 0) body.data.toList e1.all).lookup x = _
    rw [hlk]
    rw [got_set hkw] at hg
    by_cases hg0 : Got A B went x
    · rw [h.on x hg0]; rfl
    · have hx := hg.resolve_left hg0
      rw [h.off x hg0, if_pos hx]
      have hwk : went.getD k false = false := by
        cases hc : went.getD k false with
        | false => rfl
        | true => exact absurd ⟨k, hc, hx⟩ hg0
      rw [hb hwk, byteAt_part s _ _ hbnd x hx.1 hx.2]
      rfl
  · show (insD e1.bytes (A.getD k 0) body.data.toList e1.all).lookup x = _
    rw [hlk]
    rw [got_set hkw] at hg
    rw [h.off x (fun c => hg (.inl c)), if_neg (fun c => hg (.inr c))]
    rfl
theorem ord_step {s body : ByteArray} {A B : List Nat} {went : List Bool} {T : List (KeyV × EV)} (P : Parts s.size A B) (h2 : 2 ≤ A.length) (hN : s.size ≤ 600) (hw : went.length = A.length) (h : TO s A B went T) {k : Nat} (hk : k < A.length) (hs : body.size = B.getD k 0)
    (hb : went.getD k false = false → body = s.extract (A.getD k 0) (A.getD k 0 + B.getD k 0)) :
    ((∀ j, j < A.length → (went.set k true).getD j false = true) → TVadd 1 T (i7 (decide (k + 1 < A.length)) (A.getD k 0)) body = ([], s, true, 0)) ∧
    ((∃ j, j < A.length ∧ (went.set k true).getD j false = false) → ∃ T', TVadd 1 T (i7 (decide (k + 1 < A.length)) (A.getD k 0)) body = (T', ⟨#[]⟩, false, 0) ∧ TO s A B (went.set k true) T' ∧ allB T' = true) := by
  have hkw : k < went.length := by omega
  have hbnd := P.bound k hk
  have hb1 := P.b1 k hk
  have F : Fit (i7 (decide (k + 1 < A.length)) (A.getD k 0)) body := by
    refine ⟨by omega, fun hm => ?_, by show (0 : Int) ≤ (A.getD k 0 : Int); omega, by show (A.getD k 0 : Int) + body.size ≤ 2000; omega, ?_⟩
    · have : k + 1 < A.length := of_decide_eq_true hm
      rw [hs]; exact P.m8 k this
    · by_cases hl : k + 1 < A.length
      · exact .inl (decide_eq_true hl)
      · right
        have h1 := P.mono (k - 1) k (by omega) hk
        have h2 := P.b1 (k - 1) (by omega)
        show (0 : Int) < (A.getD k 0 : Int)
        omega
  have ek : (i7 (decide (k + 1 < A.length)) (A.getD k 0)).key = k7 := rfl
  obtain ⟨e, hTl, hT, hO⟩ : ∃ e, (T.lookup k7).getD ⟨[], 0, 0⟩ = e ∧ (T = [] ∨ T = [(k7, e)]) ∧ OI s A B went e := by
    rcases h with ⟨rfl, ho⟩ | ⟨e, rfl, ho⟩
    · exact ⟨_, rfl, .inl rfl, ho⟩
    · exact ⟨e, by rw [List.lookup_cons, beq_self_eq_true]; rfl, .inr rfl, ho⟩
  have haddE : addE (T.lookup k7) (i7 (decide (k + 1 < A.length)) (A.getD k 0)) body = addE (some e) (i7 (decide (k + 1 < A.length)) (A.getD k 0)) body := by
    unfold addE
    rw [hTl]; rfl
  have hO' := oi_add P h2 hw hO hk hs hb
  obtain ⟨E, hE⟩ : ∃ E, E = addE (some e) (i7 (decide (k + 1 < A.length)) (A.getD k 0)) body := ⟨_, rfl⟩
  rw [← hE] at hO' haddE
  have hadd := TVadd_fit (most := 1) (T := T) F (fun hn => by
    rcases hT with rfl | rfl
    · decide
    · rw [ek, List.lookup_cons, beq_self_eq_true] at hn; cases hn)
  rw [ek, haddE] at hadd
  have hgot0 : ∀ x, Got A B (went.set k true) x → 0 ≤ x ∧ x < (0 : Int) + s.size := by
    rintro x ⟨j, hj, h0, h1⟩
    have hjl : j < A.length := by
      rcases Nat.lt_or_ge j A.length with h | h
      · exact h
      · rw [List.getD_eq_getElem?_getD, List.getElem?_eq_none (by rw [List.length_set]; omega)] at hj; cases hj
    have := P.bound j hjl
    omega
  refine ⟨fun hall => ?_, fun hsome => ?_⟩
  · have hEall : E.all = s.size := by rw [hO'.all, if_pos (hall _ (by omega))]
    have hgot : ∀ x : Int, 0 ≤ x → x < s.size → Got A B (went.set k true) x := fun x h0 h1 => by
      obtain ⟨j, hj, hjx⟩ := P.cover (by omega) x h0 h1
      exact ⟨j, hall j hj, hjx⟩
    have hlen : s.size ≤ E.bytes.length := by
      have := cover_count s.size (E.bytes.map (·.1)) 0 (fun x h0 h1 => mem_keys.2 (by rw [hO'.on x (hgot x h0 (by omega))]; simp))
      rwa [List.length_map] at this
    have hNpos : s.size ≠ 0 := by omega
    have hwh : E.whole = some s := by
      unfold EV.whole
      rw [if_neg (by rw [hEall]; omega), hEall, Int.toNat_natCast]
      congr 1
      conv => rhs; rw [← nums_all s]
      congr 1
      apply List.map_congr_left
      intro j hj
      have hj := List.mem_range.1 hj
      rw [hO'.on j (hgot j (by omega) (by omega))]
      rfl
    rw [hadd]
    simp only [hwh]
    congr 1
    rcases hT with rfl | rfl
    · rfl
    · simp
  · obtain ⟨j, hj, hjf⟩ := hsome
    have hwh : E.whole = none := by
      unfold EV.whole
      rw [if_pos]
      by_cases hlast : (went.set k true).getD (A.length - 1) false = true
      · right
        rw [hO'.all, if_pos hlast]
        have hx : ¬ Got A B (went.set k true) (A.getD j 0) := by
          rintro ⟨q, hq, h0, h1⟩
          have hqj : q ≠ j := fun e => by rw [e, hjf] at hq; cases hq
          have hql : q < A.length := by
            rcases Nat.lt_or_ge q A.length with h | h
            · exact h
            · rw [List.getD_eq_getElem?_getD, List.getElem?_eq_none (by rw [List.length_set]; omega)] at hq; cases hq
          rcases Nat.lt_or_gt_of_ne hqj with hlt | hgt
          · have := P.mono q j hlt hj; omega
          · have := P.mono j q hgt hql
            have := P.b1 j hj
            omega
        have hxk : (A.getD j 0 : Int) ∉ E.bytes.map (·.1) := fun hm => mem_keys.1 hm (hO'.off _ hx)
        have hc := nodup_count s.size ((A.getD j 0 : Int) :: E.bytes.map (·.1)) 0 (List.nodup_cons.2 ⟨hxk, hO'.nd⟩) (fun x hx => by
          rcases List.mem_cons.1 hx with e | e
          · have := P.bound j hj
            have := P.b1 j hj
            omega
          · refine hgot0 x ?_
            by_cases hg : Got A B (went.set k true) x
            · exact hg
            · exact absurd (hO'.off x hg) (mem_keys.1 e))
        rw [List.length_cons, List.length_map] at hc
        omega
      · left
        rw [hO'.all, if_neg hlast]
    rw [hadd]
    simp only [hwh]
    refine ⟨_, rfl, ?_, ?_⟩
    · right
      refine ⟨E, ?_, hO'⟩
      rcases hT with rfl | rfl
      · rfl
      · rw [if_neg (by rw [List.lookup_cons, beq_self_eq_true]; simp)]
        simp
    · have hEall : 0 ≤ E.all ∧ E.all ≤ 2000 := by
        rw [hO'.all]; split <;> omega
      have : ∀ T', T' = [(k7, E)] → allB T' = true := by
        rintro _ rfl
        unfold allB
        simp only [List.all_cons, List.all_nil, Bool.and_true, Bool.and_eq_true, decide_eq_true_eq]
        exact hEall
      apply this
      rcases hT with rfl | rfl
      · rfl
      · rw [if_neg (by rw [List.lookup_cons, beq_self_eq_true]; simp)]
        simp
end Go.Proofs.Ytnghmaejmfhigaa
