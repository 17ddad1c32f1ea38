/- What is proved: the table and the reference's side by side. Conditions: those that stand in each theorem. -/
import Derived.Test.YtnghmaejmfhigaaDefPlay1
import Derived.Test.YtnghmaejmfhigaaDefBytes
namespace Go.Proofs.Ytnghmaejmfhigaa
set_option linter.unusedVariables false
set_option linter.unusedSimpArgs false
set_option linter.unusedSectionVars false
open Go.RowKit Go.Maps Go.MapKept Go.ChangeMaps Fw
/-- Their blocks are none of each other's. -/
theorem tb_rb {w : World} {t m q : Nat} {vL : Value} {most ticks most' ticks' now : Int} {L : List Ent} {R : List RE} (hA : TAt w t m most ticks L) (hR : RTAt w q vL most' ticks' now R) (k : Nat) (h1 : TB t m L k) (h2 : RB q vL R k) : False := by
  have cells : ∃ c T, w.heap[k]? = some (.cells c T (0, 0)) ∧ T ≠ 51 ∧ T ≠ 57 := by
    rcases h2 with rfl | h2 | ⟨x, hx, h2⟩
    · exact ⟨_, _, hR.blk, by decide, by decide⟩
    · obtain ⟨c, hc⟩ := hR.row.blk k h2
      exact ⟨c, _, hc, by decide, by decide⟩
    · obtain ⟨c, hc⟩ := (hR.ent x hx).blk k h2
      exact ⟨c, _, hc, by decide, by decide⟩
  obtain ⟨c, T, hc, n1, n2⟩ := cells
  exact hA.off hc n1 n2 k h1 rfl
structure BT (w0 w : World) (t m q : Nat) (vL : Value) (most ticks now : Int) (L : List Ent) (R : List RE) : Prop where
  ta : TAt w t m most ticks L
  ra : RTAt w q vL most ticks now R
  mv : Mv (fun _ => False) w0 w
  ft : ∀ k, TB t m L k → w0.heap.size ≤ k
  fr : ∀ k, RB q vL R k → w0.heap.size ≤ k
theorem BT.same {w0 w w' : World} {t m q : Nat} {vL : Value} {most ticks now : Int} {L : List Ent} {R : List RE} (h : BT w0 w t m q vL most ticks now L R) (s : Same w w') : BT w0 w' t m q vL most ticks now L R := ⟨h.ta.same s, h.ra.same s, h.mv.same s, h.ft, h.fr⟩
theorem BT.d {w0 w w' : World} {t m q : Nat} {vL : Value} {most ticks now : Int} {L L' : List Ent} {R : List RE} (h : BT w0 w t m q vL most ticks now L R) (hA : TAt w' t m most ticks L') (hm : Mv (TB t m L) w w') (ho : ∀ k, TB t m L' k → TB t m L k ∨ w.heap.size ≤ k) : BT w0 w' t m q vL most ticks now L' R :=
  ⟨hA, h.ra.moved hm fun k hk e => tb_rb h.ta h.ra k e hk, h.mv.cut hm fun k hk e => by have := h.ft k e; omega, fun k hk => by
    rcases ho k hk with e | e
    · exact h.ft k e
    · have := h.mv.size; omega, h.fr⟩
theorem BT.r {w0 w w' : World} {t m q : Nat} {vL vL' : Value} {most ticks now now' : Int} {L : List Ent} {R R' : List RE} (h : BT w0 w t m q vL most ticks now L R) (hR : RTAt w' q vL' most ticks now' R') (hm : Mv (RB q vL R) w w') (ho : ∀ k, RB q vL' R' k → RB q vL R k ∨ w.heap.size ≤ k) : BT w0 w' t m q vL' most ticks now' L R' :=
  ⟨h.ta.moved hm fun k hk e => tb_rb h.ta h.ra k hk e, hR, h.mv.cut hm fun k hk e => by have := h.fr k e; omega, h.ft, fun k hk => by
    rcases ho k hk with e | e
    · exact h.fr k e
    · have := h.mv.size; omega⟩
/-- What is new behind w0 leaves both alone. -/
theorem BT.far {S : Nat → Prop} {w0 w w' : World} {t m q : Nat} {vL : Value} {most ticks now : Int} {L : List Ent} {R : List RE} (h : BT w0 w t m q vL most ticks now L R) (hm : Mv S w w') (hS : ∀ k, S k → ¬ TB t m L k ∧ ¬ RB q vL R k ∧ w0.heap.size ≤ k) : BT w0 w' t m q vL most ticks now L R :=
  ⟨h.ta.moved hm fun k hk e => (hS k e).1 hk, h.ra.moved hm fun k hk e => (hS k e).2.1 hk, h.mv.cut hm fun k hk e => by have := (hS k e).2.2; omega, h.ft, h.fr⟩
theorem BT.non {w0 w w' : World} {t m q : Nat} {vL : Value} {most ticks now : Int} {L : List Ent} {R : List RE} (h : BT w0 w t m q vL most ticks now L R) (hm : Mv (fun _ => False) w w') : BT w0 w' t m q vL most ticks now L R := h.far hm fun _ e => e.elim
/-- A call in its box. -/
def OB (w : World) (o : Nat) (x : OpV) : Prop := w.heap[o]? = some (.cells x.cs.toArray 44 (0, 0))
theorem OB.same {w w' : World} {o : Nat} {x : OpV} (h : OB w o x) (s : Same w w') : OB w' o x := by unfold OB; rw [s.heap]; exact h
theorem OB.moved {S : Nat → Prop} {w w' : World} {o : Nat} {x : OpV} (h : OB w o x) (m : Mv S w w') (hs : ¬ S o) : OB w' o x := (m.block o (Array.getElem?_eq_some_iff.1 h).1 hs).trans h
theorem OB.cls {w : World} {o : Nat} {x : OpV} (h : OB w o x) : Cl w ⟨o, 0, none⟩ (.int .i64 x.kind) ∧ Cl w ⟨o, 1, none⟩ (.int .i64 x.n) ∧ CellsAt w o 2 10 (ipVs x.ip) ∧ Cl w ⟨o, 12, none⟩ (.string x.body) := by
  unfold OB at h
  refine ⟨⟨?_⟩, ⟨?_⟩, .cons ⟨?_⟩ (.cons ⟨?_⟩ (.cons ⟨?_⟩ (.cons ⟨?_⟩ (.cons ⟨?_⟩ (.cons ⟨?_⟩ (.cons ⟨?_⟩ (.cons ⟨?_⟩ (.cons ⟨?_⟩ (.cons ⟨?_⟩ .nil))))))))), ⟨?_⟩⟩ <;> (unfold World.cell?; rw [h]; rfl)
theorem OB.tb {w0 w : World} {t m q o : Nat} {vL : Value} {most ticks now : Int} {L : List Ent} {R : List RE} {x : OpV} (h : OB w o x) (hB : BT w0 w t m q vL most ticks now L R) : ¬ TB t m L o ∧ ¬ RB q vL R o :=
  ⟨fun e => hB.ta.off h (by decide) (by decide) o e rfl, fun e => hB.ra.off h (by decide) (by decide) (by decide) o e rfl⟩
theorem cellsAt_of {w : World} {b : Nat} : ∀ {cs : List Value} {o : Nat}, (∀ (j : Nat) (u : Value), cs[j]? = some u → w.cell? ⟨b, o + j, none⟩ = some u) → CellsAt w b o cs.length cs
  | [], _, _ => .nil
  | v :: r, o, h => .cons ⟨h 0 v rfl⟩ (cellsAt_of fun j u hj => by
      have := h (j + 1) u hj
      rw [show o + (j + 1) = o + 1 + j by omega] at this
      exact this)
/-! ### Plain -/
theorem tick_eq (ticks now n : Int) (R : List RE) : (R.filter (young ticks (now + n))).map (rv (now + n)) = TVtick ticks n (R.map (rv now)) := by
  unfold TVtick
  rw [List.filter_map, List.map_map]
  have e1 : R.filter (young ticks (now + n)) = R.filter ((fun p : KeyV × EV => decide (p.2.age + n < ticks)) ∘ rv now) := by
    apply List.filter_congr
    intro x _
    unfold young
    simp only [Function.comp, rv, RE.ev]
    exact decide_eq_decide.2 (by omega)
  rw [e1]
  apply List.map_congr_left
  intro x _
  simp only [Function.comp, rv, RE.ev, agedE]
  congr 2
  omega
theorem inv_tick {most now n : Int} {R : List RE} (I : RInv most now R) (hn : 0 ≤ n) (f : RE → Bool) : RInv most (now + n) (R.filter f) := by
  have hs : List.Sublist (R.filter f) R := List.filter_sublist
  have I' := I.sub hs
  exact ⟨I'.ok, fun x hx => by have := I'.at_ x hx; omega, I'.nd, I'.few⟩
theorem inv_sum {most now : Int} {R : List RE} (I : RInv most now R) : sumB (R.map (rv now)) ≤ R.length * 2001 := by
  have : ∀ R : List RE, (∀ x ∈ R, ROk x) → sumB (R.map (rv now)) ≤ R.length * 2001 := by
    intro R
    induction R with
    | nil => intro _; exact Nat.le_refl _
    | cons x r ih =>
      intro h
      have h1 := ih fun y hy => h y (List.mem_cons_of_mem _ hy)
      have h2 := (h x List.mem_cons_self).few
      unfold sumB at h1 ⊢
      simp only [List.map_cons, List.sum_cons, List.length_cons]
      have e : (rv now x).2.bytes.length = x.parts.length := rfl
      rw [e]
      omega
  exact this R I.ok
theorem inv_all {most now : Int} {R : List RE} {T : List (KeyV × EV)} (I : RInv most now R) (h : R.map (rv now) = T) : ∀ p ∈ T, 0 ≤ p.2.all ∧ p.2.all ≤ 2000 := by
  subst h
  intro p hp
  obtain ⟨x, hx, rfl⟩ := List.mem_map.1 hp
  have := (I.ok x hx).all
  show 0 ≤ (if x.all < 0 then (0 : Int) else x.all) ∧ (if x.all < 0 then (0 : Int) else x.all) ≤ 2000
  split <;> omega
theorem inv_age {most now : Int} {R : List RE} {T : List (KeyV × EV)} (I : RInv most now R) (h : R.map (rv now) = T) : ∀ p ∈ T, 0 ≤ p.2.age ∧ p.2.age ≤ now := by
  subst h
  intro p hp
  obtain ⟨x, hx, rfl⟩ := List.mem_map.1 hp
  have := I.at_ x hx
  show 0 ≤ now - x.at_ ∧ now - x.at_ ≤ now
  omega
end Go.Proofs.Ytnghmaejmfhigaa
