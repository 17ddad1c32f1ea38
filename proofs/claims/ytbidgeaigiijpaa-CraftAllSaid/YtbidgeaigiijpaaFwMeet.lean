/- What is proved: where ways meet inside a region in the text's order. Conditions: those that stand in each theorem. -/
import Derived.Test.YtbidgeaigiijpaaFwHeld
namespace Go.Proofs.Ytbidgeaigiijpaa.Fw
set_option linter.unusedVariables false
set_option linter.unusedSimpArgs false
set_option linter.unusedSectionVars false
open Go.RowKit
section
variable {P : Program} {L : Lay} {n : Nat} {f : Fr} {w : World} {Q : Exit → Act → World → Prop}
theorem wpList_meet {ops : Array Oper} {K : Act → World → Prop} : ∀ (l1 l2 : List Oper) (a : Act) (w : World), wpList P ops (Exit.then K Q) l1 a w → (∀ a w, K a w → wpList P ops Q l2 a w) → wpList P ops Q (l1 ++ l2) a w
  | [], l2, a, w, h, hK => hK a w h
  | o :: r, l2, a, w, h, hK => by
    rw [List.cons_append]
    unfold wpList at h ⊢
    split
    · rename_i hw
      rw [if_pos hw] at h
      have hQ : ∀ (e : Exit) (a : Act) (w : World), Exit.then K Q e a w → e ≠ .normal → Q e a w := fun e a w he hne => by
        cases e <;> first | exact absurd rfl hne | exact he
      rcases h with h | ⟨h1, a', w', h2⟩
      · left
        have h3 : o.wp P a w (wpList P ops (Exit.then K Q) r) Q := upon_imp hQ h
        exact Oper.wp_mono (fun a w h => wpList_meet r l2 a w h hK) h3
      · exact .inr ⟨h1, a', w', hQ _ a' w' h2 (by intro e; cases e)⟩
    · rename_i hw
      rw [if_neg hw] at h
      exact wpList_meet r l2 _ w h hK
theorem Ls.meet {ops l : List Oper} (k : Nat) (R : World → Fr → Prop) (h1 : Ls P n ops (l.take k) f w (Exit.then (fun a' w' => ∃ g, R w' g ∧ Fits g n a') Q)) (h2 : ∀ w' g, R w' g → Ls P n ops (l.drop k) g w' Q) : Ls P n ops l f w Q := fun a hf => by
  have := wpList_meet (P := P) (ops := ops.toArray) (Q := Q) (l.take k) (l.drop k) a w (h1 a hf) (fun a' w' ⟨g, hR, hg⟩ => h2 w' g hR a' hg)
  rwa [List.take_append_drop] at this
end
end Go.Proofs.Ytbidgeaigiijpaa.Fw
