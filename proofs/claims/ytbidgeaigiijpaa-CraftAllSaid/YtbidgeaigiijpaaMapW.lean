/- What is proved: the laws on maps as lists, at the operations of a walk. Conditions: those that stand in each theorem. -/
import Derived.Test.YtbidgeaigiijpaaMapL
namespace Go.Proofs.Ytbidgeaigiijpaa
set_option linter.unusedVariables false
set_option linter.unusedSimpArgs false
set_option linter.unusedSectionVars false
open Go.RowKit Go.Maps Go.MapKept Go.ChangeMaps
set_option linter.unusedSectionVars false
section
variable {K V : Type} [DecidableEq K] {P : Program} {w : World} {ops : Array Oper} {rest : List Oper} {o : Oper} {a : Act} {Q : Exit → Act → World → Prop}
variable {k : TypeId} {mk : K → Value} {mv : V → Value} {ok : K → Prop} {b : Nat} {l : List (K × V)}

theorem wpL_look (hg : o.guard = none) {m x : Operand} {t e : TypeId} (hop : o.op = Op.lookup t m x true) (KK : KM P k mk ok) (ht : P.underlying t = some (.map k e)) {z : Value} (hz : (zeroValue e).run P w = .ok z w)
    (h : ML mk mv ok w b l) (hm : a.eval m = .map (some b)) (kx : K) (hx : a.eval x = mk kx) (hok : ok kx) (v : Option V) (hv : l.lookup kx = v)
    (hK : wpList P ops Q rest (a.put o.dst (.tuple #[(v.map mv).getD z, .bool v.isSome])) w) : wpList P ops Q (o :: rest) a w := by
  refine wpList_plain hg fun K' hK' => ?_
  have hrun := h.look KK ht hz kx hok true
  unfold Oper.wp
  subst hv
  simp [execOp, hop, hm, hx, hrun, Result.andThen]
  exact hK' _ _ hK

theorem wpL_store (hg : o.guard = none) {m x v : Operand} {t e : TypeId} (hop : o.op = Op.mapUpdate t m x v) (KK : KM P k mk ok) (ht : P.underlying t = some (.map k e))
    (h : ML mk mv ok w b l) (hm : a.eval m = .map (some b)) (kx : K) (hx : a.eval x = mk kx) (hok : ok kx) (vx : V) (hv : a.eval v = mv vx) (hn : l.lookup kx = none)
    (hK : ∀ w', ML mk mv ok w' b (l ++ [(kx, vx)]) → Mv (· = b) w w' → wpList P ops Q rest (a.put o.dst undef) w') : wpList P ops Q (o :: rest) a w := by
  refine wpList_plain hg fun K' hK' => ?_
  obtain ⟨w', hrun, h1, h2⟩ := h.store KK ht kx hok vx hn
  unfold Oper.wp
  simp [execOp, hop, hm, hx, hv, hrun, Result.andThen]
  exact hK' _ _ (hK w' h1 h2)

theorem wpL_delete (hg : o.guard = none) {m x : Operand} {t e : TypeId} (hop : o.op = Op.call { callee := Callee.builtin Builtin.delete, args := #[m, x], argTypes := #[t, k] }) (KK : KM P k mk ok) (ht : P.underlying t = some (.map k e))
    (h : ML mk mv ok w b l) (hm : a.eval m = .map (some b)) (kx : K) (hx : a.eval x = mk kx) (hok : ok kx)
    (hK : ∀ w', ML mk mv ok w' b (l.filter (fun p => p.1 != kx)) → Mv (· = b) w w' → wpList P ops Q rest (a.put o.dst (.tuple #[])) w') : wpList P ops Q (o :: rest) a w := by
  refine wpList_plain hg fun K' hK' => ?_
  obtain ⟨w', hrun, h1, h2⟩ := h.drop KK ht kx hok o.type
  unfold Oper.wp
  simp [execOp, hop, resolve, invoke, builtin, hm, hx, hrun, Result.andThen]
  exact hK' _ _ (hK w' h1 h2)

theorem wpL_len (hg : o.guard = none) {m : Operand} {t e : TypeId} (hop : o.op = Op.call { callee := Callee.builtin Builtin.len, args := #[m], argTypes := #[t] }) (ht : P.underlying t = some (.map k e))
    (h : ML mk mv ok w b l) (hm : a.eval m = .map (some b))
    (hK : wpList P ops Q rest (a.put o.dst (.int .i64 l.length)) w) : wpList P ops Q (o :: rest) a w := by
  refine wpList_plain hg fun K' hK' => ?_
  have hrun := h.len (P := P) ht o.type
  unfold Oper.wp
  simp [execOp, hop, resolve, invoke, builtin, hm, hrun, Result.andThen]
  exact hK' _ _ hK

theorem wpL_clear (hg : o.guard = none) {m : Operand} {t e : TypeId} (hop : o.op = Op.call { callee := Callee.builtin Builtin.clear, args := #[m], argTypes := #[t] }) (ht : P.underlying t = some (.map k e))
    (h : ML mk mv ok w b l) (hm : a.eval m = .map (some b))
    (hK : ∀ w', ML mk mv ok w' b [] → Mv (· = b) w w' → wpList P ops Q rest (a.put o.dst (.tuple #[])) w') : wpList P ops Q (o :: rest) a w := by
  refine wpList_plain hg fun K' hK' => ?_
  obtain ⟨w', hrun, h1, h2⟩ := h.clear (P := P) ht o.type
  unfold Oper.wp
  simp [execOp, hop, resolve, invoke, builtin, hm, hrun, Result.andThen]
  exact hK' _ _ (hK w' h1 h2)

theorem wpL_range (hg : o.guard = none) {m : Operand} {t e : TypeId} (hop : o.op = Op.range t m) (ht : P.underlying t = some (.map k e))
    (h : ML mk mv ok w b l) (hm : a.eval m = .map (some b))
    (hK : ∀ w', MI mk mv ok w' w.heap.size b l l → w'.heap.size = w.heap.size + 1 → Mv (fun _ => False) w w' → wpList P ops Q rest (a.put o.dst (.pointer (some ⟨w.heap.size, 0, none⟩))) w') : wpList P ops Q (o :: rest) a w := by
  refine wpList_plain hg fun K' hK' => ?_
  obtain ⟨w', hrun, h1, h2, h3⟩ := h.range (P := P) ht
  unfold Oper.wp
  simp [execOp, hop, hm, hrun, Result.andThen]
  exact hK' _ _ (hK w' h1 h2 h3)

theorem wpL_next (hg : o.guard = none) {it : Operand} (hop : o.op = Op.next it false) (KK : KM P k mk ok) {r : Nat} {left : List (K × V)} (h : MI mk mv ok w r b l left) (hit : a.eval it = .pointer (some ⟨r, 0, none⟩))
    (hDone : left = [] → wpList P ops Q rest (a.put o.dst (.tuple #[.bool false])) w)
    (hMore : ∀ (x : K) (v : V) w', (x, v) ∈ left → (x, v) ∈ l → MI mk mv ok w' r b l (left.filter (fun q => q.1 != x)) → Mv (· = r) w w' → w'.heap.size = w.heap.size →
      (Instr.entry (.pointer (some ⟨r, 0, none⟩))).run P w' = .ok (.tuple #[mk x, mv v]) w' → wpList P ops Q rest (a.put o.dst (.tuple #[.bool true, mk x, mv v])) w') : wpList P ops Q (o :: rest) a w := by
  refine wpList_plain hg fun K' hK' => ?_
  unfold Oper.wp
  rcases h.next KK o.type with ⟨h0, hrun⟩ | ⟨p, w', hp, hp', hrun, h1, h2, h3, h4⟩
  · simp [execOp, hop, hit, hrun, Result.andThen]
    exact hK' _ _ (hDone h0)
  · simp [execOp, hop, hit, hrun, Result.andThen]
    exact hK' _ _ (hMore p.1 p.2 w' hp hp' h1 h2 h3 h4)

theorem wpL_deleteI (hg : o.guard = none) {m x : Operand} {t e : TypeId} (hop : o.op = Op.call { callee := Callee.builtin Builtin.delete, args := #[m, x], argTypes := #[t, k] }) (KK : KM P k mk ok) (ht : P.underlying t = some (.map k e))
    {r : Nat} {left : List (K × V)} (h : MI mk mv ok w r b l left) (hm : a.eval m = .map (some b)) (kx : K) (hx : a.eval x = mk kx) (hok : ok kx)
    (hK : ∀ w', MI mk mv ok w' r b (l.filter (fun p => p.1 != kx)) (left.filter (fun p => p.1 != kx)) → Mv (· = b) w w' → wpList P ops Q rest (a.put o.dst (.tuple #[])) w') : wpList P ops Q (o :: rest) a w := by
  refine wpList_plain hg fun K' hK' => ?_
  obtain ⟨w', hrun, h1, h2⟩ := h.drop KK ht kx hok o.type
  unfold Oper.wp
  simp [execOp, hop, resolve, invoke, builtin, hm, hx, hrun, Result.andThen]
  exact hK' _ _ (hK w' h1 h2)
end
end Go.Proofs.Ytbidgeaigiijpaa
