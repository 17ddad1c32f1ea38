/- What is proved: the laws on maps as lists, for walks by frames of few slots. Conditions: those that stand in each theorem. -/
import Derived.Test.YtbidgeaigiijpaaFw
import Derived.Test.YtbidgeaigiijpaaMapW
namespace Go.Proofs.Ytbidgeaigiijpaa.Fw
set_option linter.unusedVariables false
set_option linter.unusedSimpArgs false
set_option linter.unusedSectionVars false
open Go.RowKit Go.Maps Go.MapKept Go.ChangeMaps
set_option linter.unusedSectionVars false
section
variable {K V : Type} [DecidableEq K] {P : Program} {L : Lay} {n : Nat} {f : Fr} {w : World} {Q : Exit → Act → World → Prop} {ops l : List Oper} {o : Oper}
variable {k : TypeId} {mk : K → Value} {mv : V → Value} {ok : K → Prop} {b : Nat} {es : List (K × V)}

/-- A look-up, in every world that is the same but for draws: for the region's premise. -/
theorem look_same (h : ML mk mv ok w b es) {t e : TypeId} (KK : KM P k mk ok) (ht : P.underlying t = some (.map k e)) {z : Value} (hz : ∀ w, (zeroValue e).run P w = .ok z w) (x : K) (hx : ok x) (v : Option V) (hv : es.lookup x = v) :
    ∀ w', Same w w' → (Instr.lookup t (.map (some b)) (mk x) true).run P w' = .ok (.tuple #[(v.map mv).getD z, .bool v.isSome]) w' := fun w' hs => by
  have := (h.kept (by rw [hs.heap])).look (w := w') KK ht (hz w') x hx true
  rw [hv] at this
  simpa using this
theorem len_same (h : ML mk mv ok w b es) {t e : TypeId} (ht : P.underlying t = some (.map k e)) : ∀ w' ty, Same w w' → (Builtin.len_ #[t] ty #[.map (some b)]).run P w' = .ok (.int .i64 es.length) w' := fun w' ty hs =>
  (h.kept (w' := w') (by rw [hs.heap])).len ht ty
theorem Ls.mstore (hg : o.guard = none) {m x v : Operand} {t e : TypeId} (hop : o.op = Op.mapUpdate t m x v) (hd : o.dst = none) (KK : KM P k mk ok) (ht : P.underlying t = some (.map k e))
    (h : ML mk mv ok w b es) (hm : feval f m = some (.map (some b))) (kx : K) (hx : feval f x = some (mk kx)) (hok : ok kx) (vx : V) (hv : feval f v = some (mv vx)) (hn : es.lookup kx = none)
    (hK : ∀ w', ML mk mv ok w' b (es ++ [(kx, vx)]) → Mv (· = b) w w' → Ls P n ops l f w' Q) : Ls P n ops (o :: l) f w Q := fun a hf =>
  wpL_store hg hop KK ht h (hf.eval hm) kx (hf.eval hx) hok vx (hf.eval hv) hn fun w' h1 h2 => by rw [hd]; exact hK w' h1 h2 a hf
theorem Ls.mdelete (hg : o.guard = none) {m x : Operand} {t e : TypeId} (hop : o.op = Op.call { callee := Callee.builtin Builtin.delete, args := #[m, x], argTypes := #[t, k] }) (hd : o.dst = none) (KK : KM P k mk ok) (ht : P.underlying t = some (.map k e))
    (h : ML mk mv ok w b es) (hm : feval f m = some (.map (some b))) (kx : K) (hx : feval f x = some (mk kx)) (hok : ok kx)
    (hK : ∀ w', ML mk mv ok w' b (es.filter (fun p => p.1 != kx)) → Mv (· = b) w w' → Ls P n ops l f w' Q) : Ls P n ops (o :: l) f w Q := fun a hf =>
  wpL_delete hg hop KK ht h (hf.eval hm) kx (hf.eval hx) hok fun w' h1 h2 => by rw [hd]; exact hK w' h1 h2 a hf
theorem Ls.mclear (hg : o.guard = none) {m : Operand} {t e : TypeId} (hop : o.op = Op.call { callee := Callee.builtin Builtin.clear, args := #[m], argTypes := #[t] }) (hd : o.dst = none) (ht : P.underlying t = some (.map k e))
    (h : ML mk mv ok w b es) (hm : feval f m = some (.map (some b)))
    (hK : ∀ w', ML mk mv ok w' b [] → Mv (· = b) w w' → Ls P n ops l f w' Q) : Ls P n ops (o :: l) f w Q := fun a hf =>
  wpL_clear hg hop ht h (hf.eval hm) fun w' h1 h2 => by rw [hd]; exact hK w' h1 h2 a hf
theorem Ls.mmake (hg : o.guard = none) {t : TypeId} (hop : o.op = Op.makeMap t none) {d : Nat} (hd : o.dst = some d) (hdn : Nat.blt d n = true)
    (hK : Ls P n ops l ((d, .map (some w.heap.size)) :: f) (w.alloc (.map #[] 0)) Q) : Ls P n ops (o :: l) f w Q := fun a hf => by
  refine wpList_plain hg fun K hK' => ?_
  unfold Oper.wp
  have : (execOp a.eval o).run P w = .ok (.value (.map (some w.heap.size))) (w.alloc (.map #[] 0)) := by
    simp [execOp, hop, Instr.makeMap, Result.andThen]
  rw [this, Oper.upon_value, hd]
  exact hK' _ _ (hK _ (hf.put hdn _))
theorem Ls.mrange (hg : o.guard = none) {m : Operand} {t e : TypeId} (hop : o.op = Op.range t m) {d : Nat} (hd : o.dst = some d) (hdn : Nat.blt d n = true) (ht : P.underlying t = some (.map k e))
    (h : ML mk mv ok w b es) (hm : feval f m = some (.map (some b)))
    (hK : ∀ w', MI mk mv ok w' w.heap.size b es es → w'.heap.size = w.heap.size + 1 → Mv (fun _ => False) w w' → Ls P n ops l ((d, .pointer (some ⟨w.heap.size, 0, none⟩)) :: f) w' Q) : Ls P n ops (o :: l) f w Q := fun a hf =>
  wpL_range hg hop ht h (hf.eval hm) fun w' h1 h2 h3 => by rw [hd]; exact hK w' h1 h2 h3 _ (hf.put hdn _)
theorem Ls.mnext (hg : o.guard = none) {it : Operand} (hop : o.op = Op.next it false) {d : Nat} (hd : o.dst = some d) (hdn : Nat.blt d n = true) (KK : KM P k mk ok) {r : Nat} {left : List (K × V)} (h : MI mk mv ok w r b es left)
    (hit : feval f it = some (.pointer (some ⟨r, 0, none⟩))) (hDone : left = [] → Ls P n ops l ((d, .tuple #[.bool false]) :: f) w Q)
    (hMore : ∀ (x : K) (v : V) w', (x, v) ∈ left → (x, v) ∈ es → MI mk mv ok w' r b es (left.filter (fun q => q.1 != x)) → Mv (· = r) w w' → w'.heap.size = w.heap.size →
      (Instr.entry (.pointer (some ⟨r, 0, none⟩))).run P w' = .ok (.tuple #[mk x, mv v]) w' → Ls P n ops l ((d, .tuple #[.bool true, mk x, mv v]) :: f) w' Q) : Ls P n ops (o :: l) f w Q := fun a hf =>
  wpL_next hg hop KK h (hf.eval hit) (fun h0 => by rw [hd]; exact hDone h0 _ (hf.put hdn _)) fun x v w' h1 h2 h3 h4 h5 h6 => by rw [hd]; exact hMore x v w' h1 h2 h3 h4 h5 h6 _ (hf.put hdn _)
theorem Ls.mdeleteI (hg : o.guard = none) {m x : Operand} {t e : TypeId} (hop : o.op = Op.call { callee := Callee.builtin Builtin.delete, args := #[m, x], argTypes := #[t, k] }) (hd : o.dst = none) (KK : KM P k mk ok) (ht : P.underlying t = some (.map k e))
    {r : Nat} {left : List (K × V)} (h : MI mk mv ok w r b es left) (hm : feval f m = some (.map (some b))) (kx : K) (hx : feval f x = some (mk kx)) (hok : ok kx)
    (hK : ∀ w', MI mk mv ok w' r b (es.filter (fun p => p.1 != kx)) (left.filter (fun p => p.1 != kx)) → Mv (· = b) w w' → Ls P n ops l f w' Q) : Ls P n ops (o :: l) f w Q := fun a hf =>
  wpL_deleteI hg hop KK ht h (hf.eval hm) kx (hf.eval hx) hok fun w' h1 h2 => by rw [hd]; exact hK w' h1 h2 a hf
/-- The round's key and value. -/
theorem Ls.mentry (hg : o.guard = none) {it : Operand} (hop : o.op = Op.entry it) {d : Nat} (hd : o.dst = some d) (hdn : Nat.blt d n = true) {r : Nat} {v : Value} (hit : feval f it = some (.pointer (some ⟨r, 0, none⟩)))
    (hr : (Instr.entry (.pointer (some ⟨r, 0, none⟩))).run P w = .ok v w) (hK : Ls P n ops l ((d, v) :: f) w Q) : Ls P n ops (o :: l) f w Q := fun a hf => by
  refine wpList_plain hg fun K hK' => ?_
  unfold Oper.wp
  have : (execOp a.eval o).run P w = .ok (.value v) w := by
    simp [execOp, hop, hf.eval hit, hr, Result.andThen]
  rw [this, Oper.upon_value, hd]
  exact hK' _ _ (hK _ (hf.put hdn _))
end
end Go.Proofs.Ytbidgeaigiijpaa.Fw
