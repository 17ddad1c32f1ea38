/- What is proved: a part is added. Conditions: those that stand in each theorem. -/
import Derived.Test.YtnghmaejmfhigaaDefWhole
namespace Go.Proofs.Ytnghmaejmfhigaa
set_option linter.unusedVariables false
set_option linter.unusedSimpArgs false
set_option linter.unusedSectionVars false
open Go.RowKit Go.Maps Go.MapKept Go.ChangeMaps Fw
structure IPV where
  tos : Int
  id : Int
  more : Bool
  keep : Bool
  off : Int
  ttl : Int
  proto : Int
  src : Int
  dst : Int
  opts : ByteArray
def ipVs (i : IPV) : List Value := [.int .i64 i.tos, .int .i64 i.id, .bool i.more, .bool i.keep, .int .i64 i.off, .int .i64 i.ttl, .int .i64 i.proto, .int .u32 i.src, .int .u32 i.dst, .string i.opts]
def IPV.key (i : IPV) : KeyV := ⟨i.src, i.dst, i.proto, i.id⟩
/-- What is needed of a head: numbers of their kinds. -/
structure IPok (i : IPV) : Prop where
  key : okK i.key
  off : -9223372036854775808 ≤ i.off ∧ i.off ≤ 9223372036854775807
/-- Bytes are laid where none lies, up to the end. -/
def insD (l : List (Int × Int)) (off : Int) (s : List UInt8) (all : Int) : List (Int × Int) :=
  match s with
  | [] => l
  | c :: r => insD (if l.lookup off = none ∧ (all = 0 ∨ off < all) then l ++ [(off, (c.toNat : Int))] else l) (off + 1) r all
def addE (x : Option EV) (i : IPV) (s : ByteArray) : EV :=
  let e0 := x.getD ⟨[], 0, 0⟩
  let e1 := if i.more = false ∧ e0.all = 0 then ({ e0 with all := i.off + s.size } : EV).trim else e0
  { e1 with bytes := insD e1.bytes i.off s.data.toList e1.all }
def TVadd (most : Int) (T : List (KeyV × EV)) (i : IPV) (s : ByteArray) : List (KeyV × EV) × ByteArray × Bool × Int :=
  if i.more = false ∧ i.off ≤ 0 then (T, s, true, 0) else
  if s.size = 0 ∨ (i.more = true ∧ s.size % 8 ≠ 0) ∨ i.off < 0 then (T, ⟨#[]⟩, false, 3) else
  if 2000 < s.size ∨ 2000 - (s.size : Int) < i.off then (T.filter (fun p => p.1 != i.key), ⟨#[]⟩, false, 5) else
  if T.lookup i.key = none ∧ most ≤ T.length then (T, ⟨#[]⟩, false, 10) else
  match (addE (T.lookup i.key) i s).whole with
  | some x => (T.filter (fun p => p.1 != i.key), x, true, 0)
  | none => (if T.lookup i.key = none then T ++ [(i.key, addE (T.lookup i.key) i s)] else T.map (fun p => if p.1 = i.key then (p.1, addE (T.lookup i.key) i s) else p), ⟨#[]⟩, false, 0)
def ke (x : Ent) : KeyV × EV := (x.key, x.e)
def setE (L : List Ent) (k : KeyV) (e : EV) : List Ent := L.map fun z => if z.key = k then { z with e := e } else z
def AddPost (t m : Nat) (most ticks : Int) (L : List Ent) (r : List (KeyV × EV) × ByteArray × Bool × Int) (w : World) (en : Ending) (w' : World) : Prop :=
  ∃ L', en = .returned (.tuple #[.string r.2.1, .bool r.2.2.1, .int .i64 r.2.2.2]) ∧ TAt w' t m most ticks L' ∧ L'.map ke = r.1 ∧ Mv (TB t m L) w w' ∧ ∀ k, TB t m L' k → TB t m L k ∨ w.heap.size ≤ k
/-! ### Lists -/
theorem lookup_ke (L : List Ent) (k : KeyV) : (L.map ke).lookup k = (L.find? (fun z => z.key = k)).map (·.e) := by
  induction L with
  | nil => rfl
  | cons z r ih =>
    rw [List.map_cons, List.lookup_cons, List.find?_cons]
    by_cases h : k = z.key
    · have h1 : (k == (ke z).1) = true := by rw [h]; exact beq_self_eq_true _
      have h2 : decide (z.key = k) = true := decide_eq_true h.symm
      rw [h1, h2]; rfl
    · have h1 : (k == (ke z).1) = false := beq_eq_false_iff_ne.2 h
      have h2 : decide (z.key = k) = false := decide_eq_false (Ne.symm h)
      rw [h1, h2]; exact ih
theorem lookup_kb (L : List Ent) (k : KeyV) : (L.map fun x => (x.key, x.b)).lookup k = (L.find? (fun z => z.key = k)).map (·.b) := by
  induction L with
  | nil => rfl
  | cons z r ih =>
    rw [List.map_cons, List.lookup_cons, List.find?_cons]
    by_cases h : k = z.key
    · have h1 : (k == z.key) = true := by rw [h]; exact beq_self_eq_true _
      have h2 : decide (z.key = k) = true := decide_eq_true h.symm
      simp only [h1, h2]; rfl
    · have h1 : (k == z.key) = false := beq_eq_false_iff_ne.2 h
      have h2 : decide (z.key = k) = false := decide_eq_false (Ne.symm h)
      simp only [h1, h2]; exact ih
theorem setE_mem {L : List Ent} {y : Ent} (hy : y ∈ L) (e : EV) : (⟨y.key, y.b, y.m, e⟩ : Ent) ∈ setE L y.key e := List.mem_map.2 ⟨y, hy, by rw [if_pos rfl]⟩
theorem setE_kb (L : List Ent) (k : KeyV) (e : EV) : ((setE L k e).map fun x => (x.key, x.b)) = L.map fun x => (x.key, x.b) := by
  unfold setE
  rw [List.map_map]
  apply List.map_congr_left
  intro z _
  simp only [Function.comp]
  split <;> rfl
theorem setE_b (L : List Ent) (k : KeyV) (e : EV) : (setE L k e).map (·.b) = L.map (·.b) := by
  unfold setE
  rw [List.map_map]
  apply List.map_congr_left
  intro z _
  simp only [Function.comp]
  split <;> rfl
theorem setE_m (L : List Ent) (k : KeyV) (e : EV) : (setE L k e).map (·.m) = L.map (·.m) := by
  unfold setE
  rw [List.map_map]
  apply List.map_congr_left
  intro z _
  simp only [Function.comp]
  split <;> rfl
theorem TB_setE {t m : Nat} {L : List Ent} {k : KeyV} {e : EV} (i : Nat) : TB t m (setE L k e) i ↔ TB t m L i := by
  unfold TB setE
  constructor
  · rintro (h | h | ⟨x, hx, h⟩)
    · exact .inl h
    · exact .inr (.inl h)
    · obtain ⟨z, hz, rfl⟩ := List.mem_map.1 hx
      refine .inr (.inr ⟨z, hz, ?_⟩)
      split at h <;> exact h
  · rintro (h | h | ⟨x, hx, h⟩)
    · exact .inl h
    · exact .inr (.inl h)
    · refine .inr (.inr ⟨_, List.mem_map.2 ⟨x, hx, rfl⟩, ?_⟩)
      split <;> exact h
theorem TAt.keys {w : World} {t m : Nat} {most ticks : Int} {L : List Ent} (h : TAt w t m most ticks L) : (L.map (·.key)).Nodup := by
  have := keys_of h.map KMk
  rwa [List.map_map] at this
theorem setE_self {w : World} {t m : Nat} {most ticks : Int} {L : List Ent} (h : TAt w t m most ticks L) {y : Ent} (hy : y ∈ L) : setE L y.key y.e = L := by
  unfold setE
  conv => rhs; rw [← List.map_id L]
  apply List.map_congr_left
  intro z hz
  simp only [id_eq]
  by_cases hk : z.key = y.key
  · rw [if_pos hk]
    have := inj_of_pw (f := fun x : Ent => x.key) (l := L) (List.pairwise_map.1 h.keys) z hz y hy hk
    rw [this]
  · rw [if_neg hk]
theorem TAt.set {w w' : World} {t m : Nat} {most ticks : Int} {L : List Ent} {y : Ent} {e e' : EV} (hy : y ∈ L) (h : TAt w t m most ticks (setE L y.key e)) (hm : Mv (fun k => k = y.b ∨ k = y.m) w w') (he : EAt w' y.b y.m e') : TAt w' t m most ticks (setE L y.key e') := by
  have hym := setE_mem hy e
  have ht := h.tb hym
  have hnb := h.nb
  have hnm := h.nm
  rw [setE_b] at hnb
  rw [setE_m] at hnm
  refine ⟨h.blk.moved hm (fun e => by rcases e with e | e; exact ht.1 e.symm; exact ht.2.2.1 e.symm), ?_, ?_, by rw [setE_b]; exact hnb, by rw [setE_m]; exact hnm, ?_⟩
  · rw [setE_kb]
    have := h.map
    rw [setE_kb] at this
    exact this.moved hm (fun e => by rcases e with e | e; exact ht.2.1 e.symm; exact ht.2.2.2.1 e.symm)
  · intro x hx
    obtain ⟨z, hz, rfl⟩ := List.mem_map.1 hx
    by_cases hk : z.key = y.key
    · have hzy : z = y := by
        have hkn := h.keys
        have e1 : (setE L y.key e).map (·.key) = L.map (·.key) := by
          unfold setE
          rw [List.map_map]
          apply List.map_congr_left
          intro z _
          simp only [Function.comp]
          split <;> rfl
        rw [e1] at hkn
        exact inj_of_pw (f := fun x : Ent => x.key) (l := L) (List.pairwise_map.1 hkn) z hz y hy hk
      rw [if_pos hk, hzy]
      exact he
    · rw [if_neg hk]
      have hz' : z ∈ setE L y.key e := List.mem_map.2 ⟨z, hz, by rw [if_neg hk]⟩
      have hzy : z ≠ y := fun e => hk (by rw [e])
      have b1 : z.b ≠ y.b := fun e => hzy (inj_of_pw (f := fun x : Ent => x.b) (l := L) (List.pairwise_map.1 hnb) z hz y hy e)
      have b2 : z.m ≠ y.m := fun e => hzy (inj_of_pw (f := fun x : Ent => x.m) (l := L) (List.pairwise_map.1 hnm) z hz y hy e)
      have c1 : z.b ≠ y.m := ml_ne (h.ent _ hym).map (h.ent z hz').blk
      have c2 : y.b ≠ z.m := ml_ne (h.ent z hz').map (h.ent _ hym).blk
      exact (h.ent z hz').moved hm (fun e => by rcases e with e | e; exact b1 e; exact c1 e) (fun e => by rcases e with e | e; exact c2 e.symm; exact b2 e)
  · intro x hx
    obtain ⟨z, hz, rfl⟩ := List.mem_map.1 hx
    have := h.mm _ (List.mem_map.2 ⟨z, hz, rfl⟩)
    split <;> (split at this <;> first | exact this | (rename_i a b; exact absurd a b) | (rename_i a b; exact absurd b a))
theorem setE_ke_old (L : List Ent) (k : KeyV) (e : EV) : (setE L k e).map ke = (L.map ke).map (fun p => if p.1 = k then (p.1, e) else p) := by
  unfold setE
  rw [List.map_map, List.map_map]
  apply List.map_congr_left
  intro z _
  simp only [Function.comp, ke]
  by_cases h : z.key = k <;> simp [h]
theorem setE_ke_new (L : List Ent) (k : KeyV) (b m : Nat) (e0 e : EV) (h : ∀ z ∈ L, z.key ≠ k) : (setE (L ++ [⟨k, b, m, e0⟩]) k e).map ke = L.map ke ++ [(k, e)] := by
  unfold setE
  rw [List.map_append, List.map_append]
  congr 1
  · rw [List.map_map]
    apply List.map_congr_left
    intro z hz
    simp only [Function.comp]
    rw [if_neg (h z hz)]
  · simp only [List.map_cons, List.map_nil, if_true, ke]
theorem TAt.drop {w w' : World} {t m : Nat} {most ticks : Int} {L : List Ent} (h : TAt w t m most ticks L) (k : KeyV) (hm : Mv (· = m) w w') (hM : KMap w' m ((L.map fun x => (x.key, x.b)).filter (fun p => p.1 != k))) : TAt w' t m most ticks (L.filter fun z => z.key != k) := by
  have hsub : (L.filter fun z => z.key != k).Sublist L := List.filter_sublist
  refine ⟨h.blk.moved hm h.tm, ?_, fun x hx => ?_, h.nb.sublist (hsub.map _), h.nm.sublist (hsub.map _), fun x hx => h.mm x (hsub.subset hx)⟩
  · rw [List.filter_map] at hM
    exact hM
  · have hx' := hsub.subset hx
    have ht := h.tb hx'
    exact (h.ent x hx').moved hm ht.2.1 ht.2.2.2.1
theorem filter_ke (L : List Ent) (k : KeyV) : (L.filter fun z => z.key != k).map ke = (L.map ke).filter (fun p => p.1 != k) := by
  rw [List.filter_map]; rfl
theorem TB_filter {t m : Nat} {L : List Ent} {p : Ent → Bool} (i : Nat) (h : TB t m (L.filter p) i) : TB t m L i := by
  rcases h with h | h | ⟨x, hx, h⟩
  · exact .inl h
  · exact .inr (.inl h)
  · exact .inr (.inr ⟨x, (List.mem_filter.1 hx).1, h⟩)
theorem setE_filter (L : List Ent) (k : KeyV) (e : EV) : (setE L k e).filter (fun z => z.key != k) = L.filter (fun z => z.key != k) := by
  unfold setE
  induction L with
  | nil => rfl
  | cons z r ih =>
    rw [List.map_cons]
    by_cases h : z.key = k
    · rw [if_pos h, List.filter_cons, if_neg (by simp [h]), List.filter_cons, if_neg (by simp [h])]; exact ih
    · rw [if_neg h, List.filter_cons, if_pos (by simp [h]), List.filter_cons, if_pos (by simp [h]), ih]
end Go.Proofs.Ytnghmaejmfhigaa
