/- What is proved: ticks go by; how many bytes lie there. Conditions: those that stand in each theorem. -/
import Derived.Test.YtnghmaejmfhigaaDefAdd2
namespace Go.Proofs.Ytnghmaejmfhigaa
set_option linter.unusedVariables false
set_option linter.unusedSimpArgs false
set_option linter.unusedSectionVars false
open Go.RowKit Go.Maps Go.MapKept Go.ChangeMaps Fw
def agedE (n : Int) (e : EV) : EV := { e with age := e.age + n }
def TVtick (ticks n : Int) (T : List (KeyV × EV)) : List (KeyV × EV) := (T.filter fun p => decide (p.2.age + n < ticks)).map fun p => (p.1, agedE n p.2)
/-- What a table is when those of P are still to come. -/
def stage (n ticks : Int) (P : KeyV → Bool) (L : List Ent) : List Ent := (L.filter fun z => P z.key || decide (z.e.age + n < ticks)).map fun z => if P z.key = true then z else { z with e := agedE n z.e }
theorem stage_all (n ticks : Int) (P : KeyV → Bool) (L : List Ent) (h : ∀ z ∈ L, P z.key = true) : stage n ticks P L = L := by
  unfold stage
  rw [List.filter_eq_self.2 fun z hz => by rw [h z hz]; rfl]
  conv => rhs; rw [← List.map_id L]
  apply List.map_congr_left
  intro z hz
  rw [if_pos (h z hz)]; rfl
theorem stage_none (n ticks : Int) (L : List Ent) : (stage n ticks (fun _ => false) L).map ke = TVtick ticks n (L.map ke) := by
  unfold stage TVtick
  rw [List.map_map, List.filter_map, List.map_map]
  have : (L.filter fun z => false || decide (z.e.age + n < ticks)) = L.filter ((fun p : KeyV × EV => decide (p.2.age + n < ticks)) ∘ ke) := List.filter_congr fun z _ => by rw [Bool.false_or]; rfl
  rw [this]
  apply List.map_congr_left
  intro z _
  simp only [Function.comp, ke]
  rfl
theorem stage_congr (n ticks : Int) {P P' : KeyV → Bool} {L : List Ent} (h : ∀ z ∈ L, P z.key = P' z.key) : stage n ticks P L = stage n ticks P' L := by
  unfold stage
  rw [List.filter_congr (q := fun z => P' z.key || decide (z.e.age + n < ticks)) fun z hz => by rw [h z hz]]
  apply List.map_congr_left
  intro z hz
  rw [h z (List.mem_filter.1 hz).1]
theorem bne_t {a b : KeyV} (h : ¬ a = b) : (a != b) = true := by simpa using h
theorem bne_f {a b : KeyV} (h : a = b) : (a != b) = false := by simp [h]
theorem stage_aged (n ticks : Int) (P : KeyV → Bool) (L : List Ent) (k : KeyV) (e : EV) (hk : P k = true) (hlt : e.age + n < ticks) (hu : ∀ z ∈ L, z.key = k → z.e = e) : stage n ticks (fun q => P q && q != k) L = setE (stage n ticks P L) k (agedE n e) := by
  unfold stage setE
  rw [List.map_map]
  have hf : (L.filter fun z => (P z.key && z.key != k) || decide (z.e.age + n < ticks)) = L.filter fun z => P z.key || decide (z.e.age + n < ticks) := List.filter_congr fun z hz => by
    by_cases h : z.key = k
    · have : z.e.age + n < ticks := by rw [hu z hz h]; exact hlt
      rw [decide_eq_true this, Bool.or_true, Bool.or_true]
    · rw [bne_t h, Bool.and_true]
  show List.map (fun z => if (P z.key && z.key != k) = true then z else { z with e := agedE n z.e }) (L.filter fun z => (P z.key && z.key != k) || decide (z.e.age + n < ticks)) = _
  rw [hf]
  apply List.map_congr_left
  intro z hz
  have hzL := (List.mem_filter.1 hz).1
  simp only [Function.comp]
  by_cases h : z.key = k
  · have h1 : (P z.key && z.key != k) = false := by rw [bne_f h, Bool.and_false]
    have h2 : P z.key = true := by rw [h]; exact hk
    have h1' : (true && z.key != k) = false := by rw [bne_f h]; rfl
    simp only [h2, h1', if_true, if_false, Bool.false_eq_true]
    rw [if_pos h, hu z hzL h]
  · have h1 : (P z.key && z.key != k) = P z.key := by rw [bne_t h, Bool.and_true]
    simp only [h1]
    cases hP : P z.key with
    | true => simp only [if_true, h, if_false]
    | false => simp only [h, if_false, Bool.false_eq_true]
theorem stage_gone (n ticks : Int) (P : KeyV → Bool) (L : List Ent) (k : KeyV) (e : EV) (hk : P k = true) (hge : ¬ e.age + n < ticks) (hu : ∀ z ∈ L, z.key = k → z.e = e) : stage n ticks (fun q => P q && q != k) L = (stage n ticks P L).filter (fun z => z.key != k) := by
  unfold stage
  rw [List.filter_map, List.filter_filter]
  have hf : (L.filter fun z => (P z.key && z.key != k) || decide (z.e.age + n < ticks)) = L.filter fun z => (((fun z : Ent => z.key != k) ∘ fun z => if P z.key = true then z else { z with e := agedE n z.e }) z && (P z.key || decide (z.e.age + n < ticks))) := List.filter_congr fun z hz => by
    simp only [Function.comp]
    have hkey : (if P z.key = true then z else { z with e := agedE n z.e }).key = z.key := by split <;> rfl
    rw [hkey]
    by_cases h : z.key = k
    · have h1 : decide (z.e.age + n < ticks) = false := decide_eq_false (by rw [hu z hz h]; exact hge)
      rw [h1, bne_f h, Bool.and_false, Bool.false_and, Bool.or_false]
    · rw [bne_t h, Bool.and_true, Bool.true_and]
  show List.map (fun z => if (P z.key && z.key != k) = true then z else { z with e := agedE n z.e }) (L.filter fun z => (P z.key && z.key != k) || decide (z.e.age + n < ticks)) = _
  rw [hf]
  apply List.map_congr_left
  intro z hz
  have h := (List.mem_filter.1 hz).2
  simp only [Function.comp, Bool.and_eq_true] at h
  have hkey : (if P z.key = true then z else { z with e := agedE n z.e }).key = z.key := by split <;> rfl
  have h1 := h.1
  rw [hkey] at h1
  simp only [h1, Bool.and_true]
def TickPost (t m : Nat) (most ticks : Int) (L : List Ent) (n : Int) (w : World) (en : Ending) (w' : World) : Prop :=
  ∃ L', en = .returned (.int .i64 ((L.length : Int) - (TVtick ticks n (L.map ke)).length)) ∧ TAt w' t m most ticks L' ∧ L'.map ke = TVtick ticks n (L.map ke) ∧ Mv (TB t m L) w w' ∧ ∀ k, TB t m L' k → TB t m L k
/-- The blocks that a key's entry lies in stay. -/
theorem stage_tb {t m : Nat} {n ticks : Int} {P : KeyV → Bool} {L : List Ent} (k : Nat) (h : TB t m (stage n ticks P L) k) : TB t m L k := by
  rcases h with h | h | ⟨x, hx, h⟩
  · exact .inl h
  · exact .inr (.inl h)
  · obtain ⟨z, hz, rfl⟩ := List.mem_map.1 hx
    refine .inr (.inr ⟨z, (List.mem_filter.1 hz).1, ?_⟩)
    split at h <;> exact h
theorem any_key {left : List (KeyV × Nat)} {k : KeyV} : (left.any fun p => p.1 == k) = true ↔ ∃ p ∈ left, p.1 = k := by
  rw [List.any_eq_true]
  constructor
  · rintro ⟨p, hp, h⟩; exact ⟨p, hp, by simpa using h⟩
  · rintro ⟨p, hp, h⟩; exact ⟨p, hp, by simpa using h⟩
theorem any_filter {left : List (KeyV × Nat)} {k : KeyV} (q : KeyV) : ((left.filter fun p => p.1 != k).any fun p => p.1 == q) = ((left.any fun p => p.1 == q) && q != k) := by
  rw [Bool.eq_iff_iff, any_key, Bool.and_eq_true, any_key]
  constructor
  · rintro ⟨p, hp, rfl⟩
    have := List.mem_filter.1 hp
    exact ⟨⟨p, this.1, rfl⟩, this.2⟩
  · rintro ⟨⟨p, hp, rfl⟩, h⟩
    exact ⟨p, List.mem_filter.2 ⟨hp, h⟩, rfl⟩
theorem stage_len_all {n ticks : Int} {L : List Ent} : ((stage n ticks (fun _ => false) L).length : Int) = (TVtick ticks n (L.map ke)).length := by
  rw [← stage_none, List.length_map]
theorem stage_mem {n ticks : Int} {P : KeyV → Bool} {L : List Ent} {x : Ent} (hx : x ∈ stage n ticks P L) (hp : P x.key = true) : x ∈ L := by
  obtain ⟨z, hz, rfl⟩ := List.mem_map.1 hx
  by_cases h : P z.key = true
  · rw [if_pos h]; exact (List.mem_filter.1 hz).1
  · rw [if_neg h] at hp; exact absurd hp h
set_option maxRecDepth 100000 in
set_option maxHeartbeats 4000000 in
theorem tick_walk (t m : Nat) (most ticks : Int) (L : List Ent) (n : Int) (w : World) (h : TAt w t m most ticks L) (hlen : L.length ≤ 1000000) (hage : ∀ x ∈ L, 0 ≤ x.e.age ∧ x.e.age ≤ 1000000000) :
    Calls Try.prog 14 #[.pointer (some ⟨t, 0, none⟩), .int .i64 n] w (TickPost t m most ticks L (max 0 (min n 100000)) w) := by
  refine calls_W (n := 46) (vs := [.pointer (some ⟨t, 0, none⟩), .int .i64 n]) Try.func14 rfl rfl rfl ?_
  apply W.readS LO mixed [0, 1] (by kernel_rfl)
  · repeat' (first | rfl | with_reducible assumption | assumption | constructor)
  intro w1 f1 s1 hf1
  replace hf1 : f1 = [(0, _), (1, _)] := hf1
  subst hf1
  have k1 : Kn (if 100000 < n then 100000 else n) (min n 100000) := .of (by split <;> omega)
  have k2 : Kn (if min n 100000 > 0 then min n 100000 else 0) (max 0 (min n 100000)) := .of (by split <;> omega)
  apply W.readS LO mixed [0, 1] (by kernel_rfl)
  · repeat' (first | rfl | with_reducible assumption | assumption | constructor)
  intro w2 f2 s2 hf2
  replace hf2 : f2 = [(0, _), (1, _)] := hf2
  subst hf2
  have hN : 0 ≤ max 0 (min n 100000) ∧ max 0 (min n 100000) ≤ 100000 := by omega
  generalize max 0 (min n 100000) = nn at hN k2
  clear k1 k2
  apply W.readS LO mixed [0, 1, 5] (by kernel_rfl)
  · repeat' (first | rfl | with_reducible assumption | assumption | constructor)
  intro w3 f3 s3 hf3
  replace hf3 : f3 = [(0, _), (1, _), (5, _)] := hf3
  subst hf3
  have h3 := ((h.same s1).same s2).same s3
  have mv3 : Mv (TB t m L) w w3 := (((Mv.refl _ w).same s1).same s2).same s3
  have z3 : w3.heap.size = w.heap.size := by rw [s3.heap, s2.heap, s1.heap]
  clear s1 s2 s3
  refine W.cutS (fun w' g => (TAt w' t m most ticks (stage nn ticks (fun _ => false) L) ∧ Mv (TB t m L) w w') ∧ g = [(5, .int .i64 ((L.length : Int) - (stage nn ticks (fun _ => false) L).length))]) ?_ ?_
  · refine W.seq (W.list ?_)
    obtain ⟨c0, c1, c2⟩ := h3.blk.cls
    apply Ls.runK LO [0, 1, 5, 14] 4
    · repeat' (first | rfl | with_reducible assumption | assumption | constructor)
    intro w4 f4 s4 hf4
    replace hf4 : f4 = [(0, _), (1, _), (5, _), (14, _)] := hf4
    subst hf4
    have h4 := h3.same s4
    refine Ls.mrange rfl rfl rfl rfl Try.underlying49 h4.map rfl ?_
    intro w5 hI hz hm5
    obtain ⟨r, hr⟩ : ∃ r, r = w4.heap.size := ⟨_, rfl⟩
    rw [← hr] at hI
    rw [← hr]
    have hr3 : r = w.heap.size := by rw [hr, s4.heap]; exact z3
    have hold : ∀ k, TB t m L k → k < r := fun k hk => by rw [hr]; exact h4.lt k hk
    refine Ls.nil (N.to ?_)
    have h5 := h4.moved hm5 (fun _ _ e => e)
    have mv5 : Mv (TB t m L) w w5 := (mv3.same s4).cut hm5 fun _ _ e => e.elim
    have hall0 : ∀ z ∈ L, ((L.map fun x => (x.key, x.b)).any fun p => p.1 == z.key) = true := fun z hz => any_key.2 ⟨_, List.mem_map_of_mem hz, rfl⟩
    refine W.block (W.loop (fun k w' g => ∃ left, left.length = k ∧ MI mkK mkP okK w' r m ((stage nn ticks (fun q => left.any fun p => p.1 == q) L).map fun x => (x.key, x.b)) left ∧ TAt w' t m most ticks (stage nn ticks (fun q => left.any fun p => p.1 == q) L) ∧ Mv (TB t m L) w w' ∧
      g = [(0, .pointer (some ⟨t, 0, none⟩)), (1, .int .i64 nn), (5, .int .i64 ((L.length : Int) - (stage nn ticks (fun q => left.any fun p => p.1 == q) L).length)), (15, .pointer (some ⟨r, 0, none⟩))]) L.length [(0, .pointer (some ⟨t, 0, none⟩)), (1, .int .i64 nn), (5, .int .i64 0), (15, .pointer (some ⟨r, 0, none⟩))] ⟨L.map fun x => (x.key, x.b), List.length_map .., ?_, ?_, mv5, ?_⟩ (sub_keys rfl) ?_)
    · rw [stage_all nn ticks _ L hall0]; exact hI
    · rw [stage_all nn ticks _ L hall0]; exact h5
    · rw [stage_all nn ticks _ L hall0, Int.sub_self]
    clear hI hz hm5 h5 mv5 h4 s4 h3 mv3 z3 c0 c1 c2 hall0 hr
    rintro k w6 _ ⟨left, hk, hI, hA, hmv, rfl⟩
    obtain ⟨cur, hcur⟩ : ∃ cur, cur = stage nn ticks (fun q => left.any fun p => p.1 == q) L := ⟨_, rfl⟩
    rw [← hcur] at hI hA
    rw [← hcur]
    have hcurlen : cur.length ≤ L.length := by rw [hcur]; unfold stage; rw [List.length_map]; exact List.length_filter_le _ _
    have hcurtb : ∀ k, TB t m cur k → TB t m L k := fun k hk => by rw [hcur] at hk; exact stage_tb k hk
    refine W.seq (W.list ?_)
    refine Ls.mnext rfl rfl rfl rfl KMk hI rfl ?_ ?_
    · rintro rfl
      have hst : cur = stage nn ticks (fun _ => false) L := by rw [hcur]; rfl
      apply Ls.runK LO [5, 17] 1
      · repeat' (first | rfl | with_reducible assumption | assumption | constructor)
      intro w7 f7 s7 hf7
      replace hf7 : f7 = [(5, _), (17, _)] := hf7
      subst hf7
      refine Ls.nil (N.to (W.seq (W.cond (b := false) rfl (fun h => by cases h) (fun _ => W.exit ?_))))
      rw [hst] at hA ⊢
      exact N.thenE (N.thenE (N.out (N.cut ⟨⟨hA.same s7, hmv.same s7⟩, rfl⟩ (sub_keys rfl))))
    · intro x vb w7 hx hx2 hI7 hm7 hz7 hen
      apply Ls.runK LO [0, 1, 5, 15, 17] 1
      · repeat' (first | rfl | with_reducible assumption | assumption | constructor)
      intro w8 f8 s8 hf8
      replace hf8 : f8 = [(0, _), (1, _), (5, _), (15, _), (17, _)] := hf8
      subst hf8
      refine Ls.nil (N.to (W.seq (W.cond (b := true) rfl (fun _ => W.skip (N.to ?_)) (fun h => by cases h))))
      have hA8 : TAt w8 t m most ticks cur := (hA.moved hm7 fun k hk e => by have := hold k (hcurtb k hk); omega).same s8
      have hI8 := hI7.moved ((Mv.refl (fun _ => False) _).same s8) (fun e => e) (fun e => e)
      have hmv8 : Mv (TB t m L) w w8 := (hmv.cut hm7 fun i hi e => by omega).same s8
      have hshort : (left.filter (fun q => q.1 != x)).length < k := by rw [← hk]; exact filter_shorter hx (by simp)
      have hokx : okK x := ml_ok hI7.ml hx2
      obtain ⟨y, hy, hyx⟩ := List.mem_map.1 hx2
      simp only [Prod.mk.injEq] at hyx
      obtain ⟨hyk, hyb⟩ := hyx
      have hPx : (left.any fun p => p.1 == x) = true := any_key.2 ⟨_, hx, rfl⟩
      have hyL : y ∈ L := by rw [hcur] at hy; exact stage_mem hy (by rw [hyk]; exact hPx)
      have hyu : ∀ z ∈ L, z.key = x → z.e = y.e := fun z hz hzx => by rw [inj_of_pw (f := fun x : Ent => x.key) (l := L) (List.pairwise_map.1 h.keys) z hz y hyL (hzx.trans hyk.symm)]
      have hyage := hage y hyL
      have hrlt : r < w8.heap.size := by
        obtain ⟨es, clock, seen, _, _, _, _, hb, _⟩ := hI8
        exact (Array.getElem?_eq_some_iff.1 hb).1
      refine W.block ?_
      refine W.seq (W.list ?_)
      refine Ls.mentry rfl rfl rfl rfl rfl (entry_same hen s8.heap) ?_
      apply Ls.runK LO [0, 1, 5, 15, 19, 20] 2
      · repeat' (first | rfl | with_reducible assumption | assumption | constructor)
      intro w9 f9 s9 hf9
      replace hf9 : f9 = [(0, _), (1, _), (5, _), (15, _), (19, _), (20, _)] := hf9
      subst hf9
      have hA9 := hA8.same s9
      have hI9 := hI8.moved ((Mv.refl (fun _ => False) _).same s9) (fun e => e) (fun e => e)
      have hmv9 := hmv8.same s9
      refine Ls.alloc LO rfl rfl rfl rfl rfl ?_
      have hb10 := heap_alloc_new w9 (.cells [.int .u32 0, .int .u32 0, .int .i64 0, .int .i64 0].toArray 53)
      have m10 : Mv (fun _ => False) w9 (w9.alloc (.cells [.int .u32 0, .int .u32 0, .int .i64 0, .int .i64 0].toArray 53)) := (Mv.refl _ w9).alloc _
      generalize w9.alloc (.cells [.int .u32 0, .int .u32 0, .int .i64 0, .int .i64 0].toArray 53) = w10 at hb10 m10
      obtain ⟨qk, hqk⟩ : ∃ qk, qk = w9.heap.size := ⟨_, rfl⟩
      rw [← hqk] at hb10
      rw [← hqk]
      have hqr : r < qk := by rw [hqk, s9.heap]; exact hrlt
      refine Ls.store LO rfl rfl rfl rfl rfl (v := mkK x) (vs := [.int .u32 x.src, .int .u32 x.dst, .int .i64 x.proto, .int .i64 x.id]) rfl rfl rfl hb10 rfl ?_
      intro w11 hb11 m11 _
      have hkb11 : KB w11 qk x := hb11
      apply Ls.runK LO [0, 1, 5, 6, 7, 15] 1
      · repeat' (first | rfl | with_reducible assumption | assumption | constructor)
      intro w12 f12 s12 hf12
      replace hf12 : f12 = [(0, _), (1, _), (5, _), (6, _), (7, _), (15, _)] := hf12
      subst hf12
      refine Ls.nil (N.to ?_)
      have hold' : ∀ k, TB t m cur k → k < r := fun k hk => hold k (hcurtb k hk)
      have hA12 : TAt w12 t m most ticks cur := ((hA9.moved m10 fun _ _ e => e).moved m11 fun k hk e => by have := hold' k hk; omega).same s12
      have hmr : m < r := hold m (.inr (.inl rfl))
      have hI12 := ((hI9.moved m10 (fun e => e) (fun e => e)).moved m11 (by omega) (by omega)).moved ((Mv.refl (fun _ => False) _).same s12) (fun e => e) (fun e => e)
      have hmv12 : Mv (TB t m L) w w12 := ((hmv9.cut m10 fun _ _ e => e.elim).cut m11 fun i hi e => by omega).same s12
      have hkb12 : KB w12 qk x := by unfold KB; rw [s12.heap]; exact hkb11
      clear hA8 hI8 hmv8 hA9 hI9 hmv9 hb10 m10 hqk hb11 m11 s12 s9 s8 hI7 hm7 hz7 hen hA hI hmv hkb11 hrlt
      rw [show mkP vb = .pointer (some ⟨y.b, 0, none⟩) by rw [← hyb]; rfl]
      -- its age
      refine W.seq (W.list ?_)
      have he := hA12.ent y hy
      obtain ⟨d0, d1, d2⟩ := he.blk.cls
      have k3 : Kn (IntKind.i64.wrap (y.e.age + nn)) (y.e.age + nn) := .of (IntWalk.i64_in _ (by omega))
      apply Ls.runK LO [0, 1, 5, 6, 7, 15, 28, 26] 8
      · repeat' (first | rfl | with_reducible assumption | assumption | constructor)
      intro w13 f13 s13 hf13
      replace hf13 : f13 = [(0, _), (1, _), (5, _), (6, _), (7, _), (15, _), (28, _), (26, _)] := hf13
      subst hf13
      have hA13 := hA12.same s13
      have he13 := hA13.ent y hy
      refine Ls.store LO rfl rfl rfl rfl rfl (vs := [.int .i64 (y.e.age + nn)]) rfl rfl rfl he13.blk rfl ?_
      intro w14 hb14 m14 _
      have he14 : EAt w14 y.b y.m (agedE nn y.e) := ⟨hb14, he13.map.moved m14 (Ne.symm he13.ne)⟩
      have hcs : setE cur y.key y.e = cur := setE_self hA13 hy
      have hA14 : TAt w14 t m most ticks (setE cur y.key (agedE nn y.e)) := TAt.set (e := y.e) hy (by rw [hcs]; exact hA13) (m14.mono fun k e => .inl e) he14
      have hbL : TB t m L y.b := hcurtb _ (.inr (.inr ⟨y, hy, .inl rfl⟩))
      have hmv14 : Mv (TB t m L) w w14 := (hmv12.same s13).cut m14 fun i _ e => by rw [e]; exact hbL
      have hybr : y.b < r := hold _ hbL
      have hybm : y.b ≠ m := (hA13.tb hy).2.1
      have hI14 := (hI12.moved ((Mv.refl (fun _ => False) _).same s13) (fun e => e) (fun e => e)).moved m14 (Ne.symm hybm) (by omega)
      have hkb14 : KB w14 qk x := KB.moved (by unfold KB; rw [s13.heap]; exact hkb12) m14 (by omega)
      refine Ls.nil (N.to ?_)
      clear hA12 hI12 hmv12 hkb12 d0 d1 d2 he k3 s13 he13 hA13 m14 hb14
      have he := he14
      obtain ⟨d0, d1, d2⟩ := he.blk.cls
      obtain ⟨c0, c1, c2⟩ := hA14.blk.cls
      by_cases hlt : y.e.age + nn < ticks
      · have k4 : Kn (decide (ticks ≤ (agedE nn y.e).age)) false := .no (by show ¬ ticks ≤ y.e.age + nn; omega)
        apply W.readS LO mixed [0, 1, 5, 15, 37] (by kernel_rfl)
        · repeat' (first | rfl | with_reducible assumption | assumption | constructor)
        intro w15 f15 s15 hf15
        replace hf15 : f15 = [(0, _), (1, _), (5, _), (15, _), (37, _)] := hf15
        subst hf15
        refine W.cond (b := false) rfl (fun h => by cases h) (fun _ => W.skip (N.inb ?_))
        have hst : stage nn ticks (fun q => (left.filter (fun p => p.1 != x)).any fun p => p.1 == q) L = setE cur y.key (agedE nn y.e) := by
          rw [stage_congr nn ticks (P' := fun q => (left.any fun p => p.1 == q) && q != x) fun z _ => any_filter z.key, stage_aged nn ticks _ L x y.e hPx hlt hyu, ← hcur, hyk]
        have hlen2 : (setE cur y.key (agedE nn y.e)).length = cur.length := by unfold setE; rw [List.length_map]
        refine N.round _ [(0, .pointer (some ⟨t, 0, none⟩)), (1, .int .i64 nn), (5, .int .i64 ((L.length : Int) - (cur.length : Int))), (15, .pointer (some ⟨r, 0, none⟩))] hshort ⟨left.filter (fun p => p.1 != x), rfl, ?_, ?_, hmv14.same s15, ?_⟩ (sub_keys rfl)
        · rw [hst, setE_kb]; exact hI14.moved ((Mv.refl (fun _ => False) _).same s15) (fun e => e) (fun e => e)
        · rw [hst]; exact hA14.same s15
        · rw [hst, hlen2]
      · have k4 : Kn (decide (ticks ≤ (agedE nn y.e).age)) true := .yes (by show ticks ≤ y.e.age + nn; omega)
        apply W.readS LO mixed [0, 1, 5, 6, 15, 37] (by kernel_rfl)
        · repeat' (first | rfl | with_reducible assumption | assumption | constructor)
        intro w15 f15 s15 hf15
        replace hf15 : f15 = [(0, _), (1, _), (5, _), (6, _), (15, _), (37, _)] := hf15
        subst hf15
        refine W.cond (b := true) rfl (fun _ => ?_) (fun h => by cases h)
        refine W.seq ?_
        have hA15 := hA14.same s15
        have hkb15 : KB w15 qk x := by unfold KB; rw [s15.heap]; exact hkb14
        clear c0 c1 c2
        obtain ⟨c0, c1, c2⟩ := hA15.blk.cls
        have hcells := hkb15.cells
        apply W.tailK LO mixed [0, 1, 5, 15, 41, 42] 5 (by kernel_rfl)
        · repeat' (first | rfl | with_reducible assumption | assumption | constructor)
        intro w16 f16 s16 hf16
        replace hf16 : f16 = [(0, _), (1, _), (5, _), (15, _), (41, _), (42, _)] := hf16
        subst hf16
        have hA16 := hA15.same s16
        have hI16 := (hI14.moved ((Mv.refl (fun _ => False) _).same s15) (fun e => e) (fun e => e)).moved ((Mv.refl (fun _ => False) _).same s16) (fun e => e) (fun e => e)
        have e16 : (cur.map fun x => (x.key, x.b)) = (setE cur y.key (agedE nn y.e)).map fun x => (x.key, x.b) := (setE_kb _ _ _).symm
        rw [e16] at hI16
        refine Ls.mdeleteI rfl rfl rfl KMk Try.underlying49 hI16 rfl x rfl hokx ?_
        intro w17 hI17 m17
        have hA17 := hA16.drop x m17 hI17.ml
        have hst : stage nn ticks (fun q => (left.filter (fun p => p.1 != x)).any fun p => p.1 == q) L = (setE cur y.key (agedE nn y.e)).filter (fun z => z.key != x) := by
          rw [stage_congr nn ticks (P' := fun q => (left.any fun p => p.1 == q) && q != x) fun z _ => any_filter z.key, stage_gone nn ticks _ L x y.e hPx hlt hyu, ← hcur, hyk, setE_filter]
        refine Ls.nil (N.to ?_)
        have hcl : cur.length = (cur.filter fun z => z.key != x).length + 1 := by
          have hkn : (cur.map (·.key)).Nodup := by
            have := hA16.keys
            unfold setE at this
            rw [List.map_map] at this
            have e : (cur.map ((fun x : Ent => x.key) ∘ fun z => if z.key = y.key then { z with e := agedE nn y.e } else z)) = cur.map (·.key) := List.map_congr_left fun z _ => by simp only [Function.comp]; split <;> rfl
            rwa [e] at this
          have hone : ∀ (l : List Ent), (l.map (·.key)).Nodup → y ∈ l → l.length = (l.filter fun z => z.key != x).length + 1 := by
            intro l
            induction l with
            | nil => intro _ hy; cases hy
            | cons z r ih =>
              intro hnd hy
              rw [List.map_cons, List.nodup_cons] at hnd
              by_cases hz : z.key = x
              · rw [List.filter_cons, if_neg (by simp [hz]), List.length_cons]
                have : r.filter (fun z => z.key != x) = r := List.filter_eq_self.2 fun q hq => by
                  simp only [bne_iff_ne, ne_eq]
                  intro e
                  exact hnd.1 (List.mem_map.2 ⟨q, hq, by rw [e, hz]⟩)
                rw [this]
              · rw [List.filter_cons, if_pos (by simp [hz]), List.length_cons, List.length_cons]
                rcases List.mem_cons.1 hy with e | e
                · exact absurd (by rw [← e]; exact hyk) hz
                · rw [ih hnd.2 e]
          exact hone cur hkn hy
        have hfl : ((setE cur y.key (agedE nn y.e)).filter fun z => z.key != x).length = (cur.filter fun z => z.key != x).length := by rw [← hyk, setE_filter]
        have k5 : Kn (IntKind.i64.wrap ((L.length : Int) - (cur.length : Int) + 1)) ((L.length : Int) - (((setE cur y.key (agedE nn y.e)).filter fun z => z.key != x).length : Int)) := .of ((IntWalk.i64_in _ (by omega)).trans (by omega))
        apply W.readN LO mixed [0, 1, 5, 15] (by kernel_rfl)
        · repeat' (first | rfl | with_reducible assumption | assumption | constructor)
        intro w18 f18 s18 hf18
        replace hf18 : f18 = [(0, _), (1, _), (5, _), (15, _)] := hf18
        subst hf18
        refine N.inb (N.round _ [(0, .pointer (some ⟨t, 0, none⟩)), (1, .int .i64 nn), (5, .int .i64 ((L.length : Int) - (((setE cur y.key (agedE nn y.e)).filter fun z => z.key != x).length : Int))), (15, .pointer (some ⟨r, 0, none⟩))] hshort ⟨left.filter (fun p => p.1 != x), rfl, ?_, ?_, ?_, ?_⟩ (sub_keys rfl))
        · rw [hst]
          have := hI17.moved ((Mv.refl (fun _ => False) _).same s18) (fun e => e) (fun e => e)
          rw [List.filter_map] at this
          rw [List.filter_filter, List.filter_congr (q := fun p : KeyV × Nat => p.1 != x) fun a _ => Bool.and_self _] at this
          exact this
        · rw [hst]; exact hA17.same s18
        · exact (((hmv14.same s15).same s16).cut m17 fun i _ e => .inr (.inl e)).same s18
        · rw [hst]
  rintro w4 _ ⟨⟨hA, hmv⟩, rfl⟩
  apply W.readS LO mixed [4] (by kernel_rfl)
  · repeat' (first | rfl | with_reducible assumption | assumption | constructor)
  intro w5 f5 s5 hf5
  replace hf5 : f5 = [(4, _)] := hf5
  subst hf5
  refine W.ret (post LO (rs := [.tmp 4]) rfl (vs := [.int .i64 _]) (.tmp rfl .nil) ⟨_, ?_, hA.same s5, stage_none _ _ _, hmv.same s5, fun k hk => stage_tb k hk⟩)
  rw [← stage_len_all]; rfl
end Go.Proofs.Ytnghmaejmfhigaa
