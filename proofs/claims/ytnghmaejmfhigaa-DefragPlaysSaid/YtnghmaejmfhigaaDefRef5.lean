/- What is proved: the reference's table: what a step leaves. Conditions: those that stand in each theorem. -/
import Derived.Test.YtnghmaejmfhigaaDefRef4
namespace Go.Proofs.Ytnghmaejmfhigaa
set_option linter.unusedVariables false
set_option linter.unusedSimpArgs false
set_option linter.unusedSectionVars false
open Go.RowKit Go.Maps Go.MapKept Go.ChangeMaps Fw
structure RInv (most now : Int) (L : List RE) : Prop where
  ok : ∀ x ∈ L, ROk x
  at_ : ∀ x ∈ L, 0 ≤ x.at_ ∧ x.at_ ≤ now
  nd : (L.map (·.key)).Nodup
  few : (L.length : Int) ≤ most
structure RP (q : Nat) (most ticks now : Int) (vL0 : Value) (L0 : List RE) (i : IPV) (qi : Nat) (w w' : World) (vL : Value) (L : List RE) : Prop where
  at_ : RTAt w' q vL most ticks now L
  mv : Mv (RB q vL0 L0) w w'
  own : ∀ k, RB q vL L k → RB q vL0 L0 k ∨ w.heap.size ≤ k
  ib : IB w' qi i
  fq : w.heap.size ≤ qi
theorem RP.same {q : Nat} {most ticks now : Int} {vL0 vL : Value} {L0 L : List RE} {i : IPV} {qi : Nat} {w w' w'' : World} (h : RP q most ticks now vL0 L0 i qi w w' vL L) (s : Same w' w'') : RP q most ticks now vL0 L0 i qi w w'' vL L :=
  ⟨h.at_.same s, h.mv.same s, h.own, h.ib.same s, h.fq⟩
theorem RP.step {q : Nat} {most ticks now : Int} {vL0 vL vL' : Value} {L0 L L' : List RE} {i : IPV} {qi : Nat} {w w' w'' : World} (h : RP q most ticks now vL0 L0 i qi w w' vL L) (hA : RTAt w'' q vL' most ticks now L') (hM : Mv (RB q vL L) w' w'') (hO : ∀ k, RB q vL' L' k → RB q vL L k ∨ w'.heap.size ≤ k) : RP q most ticks now vL0 L0 i qi w w'' vL' L' := by
  refine ⟨hA, h.mv.cut hM fun k hk hS => ?_, fun k hk => ?_, h.ib.moved hM fun e => h.at_.off h.ib (by decide) (by decide) (by decide) qi e rfl, h.fq⟩
  · rcases h.own k hS with h1 | h1
    · exact h1
    · omega
  · rcases hO k hk with h1 | h1
    · exact h.own k h1
    · right; have := h.mv.size; omega
theorem RP.non {q : Nat} {most ticks now : Int} {vL0 vL : Value} {L0 L : List RE} {i : IPV} {qi : Nat} {w w' w'' : World} (h : RP q most ticks now vL0 L0 i qi w w' vL L) (m : Mv (fun _ => False) w' w'') : RP q most ticks now vL0 L0 i qi w w'' vL L :=
  h.step (h.at_.moved m fun _ _ e => e) (m.mono fun _ e => e.elim) fun k hk => .inl hk
theorem RB_sub {q : Nat} {vL : Value} {L L' : List RE} (hs : ∀ x ∈ L', x ∈ L) (k : Nat) (h : RB q vL L' k) : RB q vL L k := by
  rcases h with h | h | ⟨x, hx, h⟩
  · exact .inl h
  · exact .inr (.inl h)
  · exact .inr (.inr ⟨x, hs x hx, h⟩)
theorem RP.dropped {q : Nat} {most ticks now : Int} {vL0 vL : Value} {L0 L L' : List RE} {i : IPV} {qi : Nat} {w w' w'' : World} {e : Ending} (h : RP q most ticks now vL0 L0 i qi w w' vL L) (hd : DropPost q vL most ticks now L' w' e w'') (hs : ∀ x ∈ L', x ∈ L) : e = .returned (.tuple #[]) ∧ ∃ vL', RP q most ticks now vL0 L0 i qi w w'' vL' L' := by
  obtain ⟨he, vL', hA, hM, hO⟩ := hd
  refine ⟨he, vL', h.step hA (hM.mono fun k e => .inl e) fun k hk => ?_⟩
  rcases hk with hk | hk | ⟨x, hx, hk⟩
  · exact .inl (.inl hk)
  · rcases hO k hk with h1 | h1
    · exact .inl (.inr (.inl h1))
    · exact .inr h1
  · exact .inl (.inr (.inr ⟨x, hs x hx, hk⟩))
/-- The row grows by an entry without parts. -/
theorem RTAt.grow {w w' : World} {q : Nat} {vL vL' : Value} {most ticks now : Int} {L : List RE} {x : RE} (h : RTAt w q vL most ticks now L) (m : Mv (fun j => j = q ∨ vL.ownBlock = some j) w w') (hb : w'.heap[q]? = some (.cells [.int .i64 most, .int .i64 ticks, .int .i64 now, vL'].toArray 47 (0, 0)))
    (hrow : OwnZ w' 63 7 vL' (L.length + 1) (rows L ++ x.cs)) (hp : x.parts = []) (hl : x.lv = .slice none 0 0) : RTAt w' q vL' most ticks now (L ++ [x]) := by
  refine ⟨hb, ?_, fun y hy => ?_, ?_⟩
  · rw [List.length_append, List.length_singleton]
    have : rows (L ++ [x]) = rows L ++ x.cs := by unfold rows; rw [List.flatMap_append]; simp
    rw [this]; exact hrow
  · rcases List.mem_append.1 hy with hy | hy
    · refine (h.ent y hy).moved m fun j hj e => ?_
      obtain ⟨cy, hcy⟩ := (h.ent y hy).blk j hj
      rcases e with e | e
      · rw [e, h.blk] at hcy
        injection hcy with e1
        injection e1 with _ e2
        exact absurd e2 (by decide)
      · obtain ⟨cg, hcg⟩ := h.row.blk j e
        rw [hcg] at hcy
        injection hcy with e1
        injection e1 with _ e2
        exact absurd e2 (by decide)
    · obtain rfl := List.mem_singleton.1 hy
      rw [hp, hl]; exact OwnZ.nil _ _ _
  · rw [List.pairwise_append]
    refine ⟨h.dis, List.pairwise_singleton _ _, fun y hy z hz j hj e => ?_⟩
    obtain rfl := List.mem_singleton.1 hz
    rw [hl] at e; cases e
theorem RP.put {q : Nat} {most ticks now : Int} {vL0 vL : Value} {L0 M : List RE} {i : IPV} {qi : Nat} {w w' w'' : World} {k g : Nat} {x x' : RE} (h : RP q most ticks now vL0 L0 i qi w w' vL M) (hk : M[k]? = some x) (hg : vL.ownBlock = some g) (m : Mv (fun j => j = g ∨ x.lv.ownBlock = some j) w' w'')
    (hrow : OwnZ w'' 63 7 vL M.length (rows (M.set k x'))) (hent : OwnZ w'' 69 2 x'.lv x'.parts.length (prow x'.parts)) (hlv : ∀ j, x'.lv.ownBlock = some j → x.lv.ownBlock = some j ∨ w'.heap.size ≤ j) : RP q most ticks now vL0 L0 i qi w w'' vL (M.set k x') := by
  have hxM : x ∈ M := List.mem_of_getElem? hk
  refine h.step (h.at_.upd hk hg m hrow hent hlv) (m.mono fun j e => ?_) fun j hj => ?_
  · rcases e with e | e
    · exact .inr (.inl (by rw [e]; exact hg))
    · exact .inr (.inr ⟨x, hxM, e⟩)
  · rcases hj with hj | hj | ⟨y, hy, hj⟩
    · exact .inl (.inl hj)
    · exact .inl (.inr (.inl hj))
    · rcases List.mem_or_eq_of_mem_set hy with hy | rfl
      · exact .inl (.inr (.inr ⟨y, hy, hj⟩))
      · rcases hlv j hj with e | e
        · exact .inl (.inr (.inr ⟨x, hxM, e⟩))
        · exact .inr e
/-- One cell of an entry is stored: the row as it stands behind it. -/
theorem RTAt.cell {w : World} {q g k : Nat} {vL : Value} {most ticks now : Int} {L : List RE} {x : RE} (h : RTAt w q vL most ticks now L) (hk : L[k]? = some x) (hg : vL.ownBlock = some g) : ∃ cs : List Value, w.heap[g]? = some (.cells cs.toArray 63 (0, 0)) ∧ k * 7 + 7 ≤ cs.length ∧
    ∀ (w' : World) (j : Nat) (v : Value) (x' : RE), j < 7 → x'.cs = x.cs.set j v → w'.heap[g]? = some (.cells (wr cs (0 + k * 7 + j) [v]).toArray 63 (0, 0)) → OwnZ w' 63 7 vL L.length (rows (L.set k x')) := by
  have hl : k < L.length := (List.getElem?_eq_some_iff.1 hk).1
  obtain ⟨g', c, hv, hg', hnc, _, cs, hcs, hlen, hst⟩ := h.row.pos (by omega)
  have e1 : g' = g := Option.some.inj (hg'.symm.trans hg)
  rw [e1] at hcs hst
  have hrl : (rows L).length = L.length * 7 := flat_len RE.cs 7 cs_len L
  have h7 : k * 7 + 7 ≤ L.length * 7 := by omega
  refine ⟨cs, hcs, by omega, fun w' j v x' hj hx hw' => ?_⟩
  rw [rows_set hk hj hx]
  refine hst w' (k * 7 + j) [v] (by rw [List.length_singleton]; omega) ?_
  rw [Nat.zero_add] at hw'
  exact hw'
def RAddPost (q : Nat) (most ticks now : Int) (vL : Value) (L : List RE) (R : List (KeyV × EV) × ByteArray × Bool × Int) (w : World) (e : Ending) (w' : World) : Prop :=
  ∃ vL' L', e = .returned (.tuple #[.string R.2.1, .bool R.2.2.1, .int .i64 R.2.2.2]) ∧ RTAt w' q vL' most ticks now L' ∧ L'.map (rv now) = R.1 ∧ RInv most now L' ∧ Mv (RB q vL L) w w' ∧ ∀ k, RB q vL' L' k → RB q vL L k ∨ w.heap.size ≤ k
theorem RP.ret {q : Nat} {most ticks now : Int} {vL0 vL : Value} {L0 L : List RE} {i : IPV} {qi : Nat} {w w' : World} {f : Fr} {T : List (KeyV × EV)} {x : ByteArray} {b : Bool} {n : Int} (h : RP q most ticks now vL0 L0 i qi w w' vL L) (hT : L.map (rv now) = T) (hI : RInv most now L) (h6 : fget f 6 = some (.string x)) (h7 : fget f 7 = some (.bool b)) (h8 : fget f 8 = some (.int .i64 n)) :
    N 238 f w' (bodyPost Try.prog Try.f18 (RAddPost q most ticks now vL0 L0 (T, x, b, n) w)) .ret :=
  post LO (rs := [.tmp 6, .tmp 7, .tmp 8]) rfl (vs := [.string x, .bool b, .int .i64 n]) (.tmp h6 (.tmp h7 (.tmp h8 .nil))) ⟨vL, L, rfl, h.at_, hT, hI, h.mv, h.own⟩
/-- The block leaves the entry there. -/
structure RPE (q : Nat) (most ticks now : Int) (vL0 : Value) (L0 : List RE) (i : IPV) (qi : Nat) (w w' : World) (vL : Value) (L : List RE) (k : Nat) (x : RE) : Prop where
  rp : RP q most ticks now vL0 L0 i qi w w' vL L
  hk : L[k]? = some x
  ky : x.key = i.key
  inv : RInv most now L
  rel : ∀ x3 : RE, x3.key = i.key → (L.set k x3).map (rv now) = if (L0.map (rv now)).lookup i.key = none then L0.map (rv now) ++ [(i.key, x3.ev now)] else (L0.map (rv now)).map (fun p => if p.1 = i.key then (p.1, x3.ev now) else p)
  fil : (L.eraseIdx k).map (rv now) = (L0.map (rv now)).filter (fun p => p.1 != i.key)
  ent : x.ev now = ((L0.map (rv now)).lookup i.key).getD ⟨[], 0, 0⟩
theorem RPE.old {q : Nat} {most ticks now : Int} {vL0 vL : Value} {L0 : List RE} {i : IPV} {qi : Nat} {w w' : World} {k : Nat} {x : RE} (h : RP q most ticks now vL0 L0 i qi w w' vL L0) (I : RInv most now L0) (hk : L0[k]? = some x) (ky : x.key = i.key) (hf : L0.find? (fun x => decide (x.key = i.key)) = some x) : RPE q most ticks now vL0 L0 i qi w w' vL L0 k x := by
  have hl : (L0.map (rv now)).lookup i.key = some (x.ev now) := by rw [rv_lookup, hf]; rfl
  refine ⟨h, hk, ky, I, fun x3 h3 => ?_, ?_, by rw [hl]; rfl⟩
  · rw [hl, if_neg (by simp), map_set_key now I.nd hk (h3.trans ky.symm), ky]
  · rw [← key_erase I.nd hk, ky, rv_filter]
theorem RPE.new {q : Nat} {most ticks now : Int} {vL0 vL : Value} {L0 : List RE} {i : IPV} {qi : Nat} {w w' : World} {x : RE} (h : RP q most ticks now vL0 L0 i qi w w' vL (L0 ++ [x])) (I : RInv most now L0) (hx : x = ⟨i.key, [], -1, now, .slice none 0 0⟩) (hn : 0 ≤ now) (hno : ∀ y ∈ L0, y.key ≠ i.key) (hf : L0.find? (fun x => decide (x.key = i.key)) = none) (hm : (L0.length : Int) < most) : RPE q most ticks now vL0 L0 i qi w w' vL (L0 ++ [x]) L0.length x := by
  have hl : (L0.map (rv now)).lookup i.key = none := by rw [rv_lookup, hf]; rfl
  refine ⟨h, by rw [List.getElem?_append_right (Nat.le_refl _), Nat.sub_self]; rfl, by rw [hx], ⟨fun y hy => ?_, fun y hy => ?_, ?_, by rw [List.length_append, List.length_singleton]; omega⟩, fun x3 h3 => ?_, ?_, ?_⟩
  · rcases List.mem_append.1 hy with hy | hy
    · exact I.ok y hy
    · obtain rfl := List.mem_singleton.1 hy
      rw [hx]
      exact ⟨.inl rfl, fun q hq => (by cases hq), .nil⟩
  · rcases List.mem_append.1 hy with hy | hy
    · exact I.at_ y hy
    · obtain rfl := List.mem_singleton.1 hy
      rw [hx]
      exact ⟨hn, Int.le_refl _⟩
  · rw [List.map_append, List.nodup_append]
    refine ⟨I.nd, by simp, fun a ha b hb => ?_⟩
    obtain ⟨y, hy, rfl⟩ := List.mem_map.1 ha
    obtain ⟨z, hz, rfl⟩ := List.mem_map.1 hb
    obtain rfl := List.mem_singleton.1 hz
    rw [hx]
    exact hno y hy
  · rw [hl, if_pos rfl, List.set_append_right _ _ (Nat.le_refl _), Nat.sub_self, List.set_cons_zero, List.map_append]
    show _ ++ [(x3.key, x3.ev now)] = _
    rw [h3]
  · rw [List.eraseIdx_append_of_length_le (Nat.le_refl _), Nat.sub_self, List.eraseIdx_cons_zero, List.append_nil, ← rv_filter, List.filter_eq_self.2]
    intro y hy
    simpa using hno y hy
  · rw [hl, hx]
    unfold RE.ev
    simp
theorem RInv.set {most now : Int} {L : List RE} {k : Nat} {x x' : RE} (I : RInv most now L) (hk : L[k]? = some x) (h1 : x'.key = x.key) (h2 : x'.at_ = x.at_) (h3 : ROk x') : RInv most now (L.set k x') := by
  have hxL := List.mem_of_getElem? hk
  refine ⟨fun y hy => ?_, fun y hy => ?_, ?_, by rw [List.length_set]; exact I.few⟩
  · rcases List.mem_or_eq_of_mem_set hy with hy | rfl
    · exact I.ok y hy
    · exact h3
  · rcases List.mem_or_eq_of_mem_set hy with hy | rfl
    · exact I.at_ y hy
    · rw [h2]; exact I.at_ x hxL
  · have : (L.set k x').map (·.key) = L.map (·.key) := by
      rw [List.map_set, h1]
      apply List.ext_getElem?
      intro n
      by_cases hn : n = k
      · subst hn
        rw [List.getElem?_set_self (by rw [List.length_map]; exact (List.getElem?_eq_some_iff.1 hk).1), List.getElem?_map, hk]; rfl
      · rw [List.getElem?_set_ne (Ne.symm hn)]
    rw [this]; exact I.nd
theorem RInv.sub {most now : Int} {L L' : List RE} (I : RInv most now L) (h : L'.Sublist L) : RInv most now L' :=
  ⟨fun y hy => I.ok y (h.subset hy), fun y hy => I.at_ y (h.subset hy), I.nd.sublist (h.map _), by have := h.length_le; have := I.few; omega⟩
theorem addE_getD (o : Option EV) (i : IPV) (s : ByteArray) : addE o i s = addE (some (o.getD ⟨[], 0, 0⟩)) i s := by cases o <;> rfl
end Go.Proofs.Ytnghmaejmfhigaa
