/- What is proved: a region in which one new variable may come up at any time, while calls come one by one. Conditions: the checks of each rule. -/
import Derived.Test.YtbidgeaigiijpaaFwMeet
namespace Go.Proofs.Ytbidgeaigiijpaa.Fw
set_option linter.unusedVariables false
set_option linter.unusedSimpArgs false
set_option linter.unusedSectionVars false
open Go.RowKit
theorem Sub.oeval {g f : Fr} (h : Sub g f) {x : Option Operand} {v : Option Value} (he : Fw.oeval g x = some v) : Fw.oeval f x = some v := by
  cases x with
  | none => exact he
  | some y =>
    obtain ⟨u, hu, rfl⟩ := Option.map_eq_some_iff.1 he
    show (Fw.feval f y).map some = _
    rw [h.feval hu]; rfl
theorem Sub.pevals {g f : Fr} (h : Sub g f) : ∀ {xs : List (Nat × Operand)} {vs : List (Nat × Value)}, Fw.pevals g xs = some vs → Fw.pevals f xs = some vs
  | [], vs, he => he
  | x :: r, vs, he => by
    simp only [Fw.pevals] at he ⊢
    obtain ⟨v, hv, he⟩ := Option.bind_eq_some_iff.1 he
    obtain ⟨us, hu, he⟩ := Option.map_eq_some_iff.1 he
    rw [h.feval hv, Option.bind_some, Sub.pevals h hu, Option.map_some, he]
theorem Sub.both {g f : Fr} (h : Sub g f) (d : Nat) (v : Value) : Sub ((d, v) :: g) ((d, v) :: f) := fun i u hi => by
  simp only [fget] at hi ⊢
  cases hb : Nat.beq d i with
  | true => rw [hb] at hi; exact hi
  | false => rw [hb] at hi; exact h i u hi
theorem Sub.swap {f : Fr} {a b : Nat} {u v : Value} (hab : Nat.beq a b = false) : Sub ((a, u) :: (b, v) :: f) ((b, v) :: (a, u) :: f) := fun i x hi => by
  simp only [fget] at hi ⊢
  cases ha : Nat.beq a i with
  | true =>
    cases hb : Nat.beq b i with
    | true => rw [Nat.eq_of_beq_eq_true ha, Nat.eq_of_beq_eq_true hb, Nat.beq_refl] at hab; cases hab
    | false => rw [ha] at hi; exact hi
  | false => rw [ha] at hi; exact hi
theorem Ev.sub {P : Program} {L : Lay} {w : World} {st : Bool} {g f : Fr} {b : Bool} {op : Op} {v : Value} (h : Ev P L w st g b op v) (s : Sub g f) : Ev P L w st f b op v := by
  cases h with
  | skip => exact .skip
  | move hx => exact .move (s.feval hx)
  | assign hx => exact .assign (s.feval hx)
  | @pick c x y cb v hc hp =>
    refine .pick (s.feval hc) ?_
    cases cb
    · exact s.feval (f := f) hp
    · exact s.feval (f := f) hp
  | nilCheck hx => exact .nilCheck (s.feval hx)
  | fieldAddr hx h1 h2 h3 h4 => exact .fieldAddr (s.feval hx) h1 h2 h3 h4
  | load hx h1 h2 => exact .load (s.feval hx) h1 h2
  | binOp hx hy hb => exact .binOp (s.feval hx) (s.feval hy) hb
  | unOp hx hu => exact .unOp (s.feval hx) hu
  | convert hx hc => exact .convert (s.feval hx) hc
  | build h1 h2 h3 h4 => exact .build h1 h2 (s.pevals h3) h4
  | extract hx hi => exact .extract (s.feval hx) hi
  | field hx h1 h2 h3 => exact .field (s.feval hx) h1 h2 h3
  | len hx hl => exact .len (s.feval hx) hl
  | mm hx hy hm => exact .mm (s.feval hx) (s.feval hy) hm
  | slice hx h1 h2 h3 => exact .slice (s.feval hx) (s.oeval h1) (s.oeval h2) h3
  | index hx hi h => exact .index (s.feval hx) (s.feval hi) h
  | indexAddr hx hi h => exact .indexAddr (s.feval hx) (s.feval hi) h
  | makeFunc h1 h2 => exact .makeFunc (s.fevals h1) (s.fevals h2)
  | lookup hx hi h => exact .lookup (s.feval hx) (s.feval hi) h
  | call h1 h2 h3 h4 => exact .call h1 h2 (s.fevals h3) h4
theorem wantF_sub {g f : Fr} {ops : List Oper} {x : Option (Nat × Bool)} {b : Bool} (h : wantF g ops x = some b) (s : Sub g f) : wantF f ops x = some b := by
  cases x with
  | none => exact h
  | some p =>
    obtain ⟨j, c⟩ := p
    simp only [wantF] at h ⊢
    obtain ⟨d, hd, h⟩ := Option.bind_eq_some_iff.1 h
    obtain ⟨v, hv, h⟩ := Option.bind_eq_some_iff.1 h
    rw [hd, Option.bind_some, s d v hv, Option.bind_some, h]
/-- None of these operations yields into d. -/
def noDst (ops : List Oper) (d : Nat) (is : List Nat) : Bool := is.all fun i => match (ops[i]?).bind (·.dst) with | some e => !Nat.beq e d | none => true
section
variable {P : Program} {L : Lay} {n : Nat} {f : Fr} {w : World} {Q : Exit → Act → World → Prop} {S : World → Prop} {ops : List Oper} {listed : Array Bool}
theorem RunS.sub {d : Nat} {p : Value} {is : List Nat} {g g' : Fr} (h : RunS P L S n ops is g g') : ∀ {f : Fr}, Sub g f → fget f d = some p → noDst ops d is = true → ∃ f', RunS P L S n ops is f f' ∧ Sub g' f' ∧ fget f' d = some p := by
  induction h with
  | nil => intro f s hd _; exact ⟨f, .nil, s, hd⟩
  | @cons i is o e b v g g' hi hg he hu hde hn _ ih =>
    intro f s hd hno
    simp only [noDst, List.all_cons, Bool.and_eq_true] at hno
    have h1 := hno.1
    rw [hi, Option.bind_some, hde] at h1
    have hne : Nat.beq e d = false := by simpa using h1
    obtain ⟨f', hr, hs, hf⟩ := ih (s.both e v) (by simp only [fget, hne, cond_false]; exact hd) (by simpa [noDst] using hno.2)
    exact ⟨f', .cons hi (wantF_sub hg s) (fun w' hw => (he w' hw).sub s) hu hde hn hr, hs, hf⟩
def Box (z : Nat) (zs : List Value) (T : Nat) (q : Nat) (w : World) : Prop := z ≤ q ∧ w.heap[q]? = some (.cells zs.toArray T (0, 0))
theorem Box.moved {z : Nat} {zs : List Value} {T q : Nat} {w w' : World} (h : Box z zs T q w) (m : Mv (fun _ => False) w w') : Box z zs T q w' := ⟨h.1, (m.block q (Array.getElem?_eq_some_iff.1 h.2).1 fun e => e).trans h.2⟩
/-- The region from here on: the new variable ia is made, or not yet. -/
def HP (P : Program) (n : Nat) (ops : List Oper) (S : World → Prop) (Q : Exit → Act → World → Prop) (ia dA : Nat) (zs : List Value) (T z : Nat) (k : Nat) (listed : Array Bool) (f : Fr) (w : World) : Prop :=
  ∀ w', Mv (fun _ => False) w w' → S w' → H P n ops S [] Q (k + 1) listed f w' ∧ ∀ q, Box z zs T q w' → H P n ops S [] Q k (listed.setIfInBounds ia true) ((dA, .pointer (some ⟨q, 0, none⟩)) :: f) w'
variable {ia dA z T k : Nat} {zs : List Value}
theorem HP.start (h : HP P n ops S Q ia dA zs T z k listed f w) (hS : S w) : H P n ops S [] Q (k + 1) listed f w := (h w (Mv.refl _ w) hS).1
theorem Ls.imp {l : List Oper} {K K' : Act → World → Prop} {Q' : Exit → Act → World → Prop} (h : Ls P n ops l f w (Exit.then K Q')) (hK : ∀ a w, K a w → K' a w) : Ls P n ops l f w (Exit.then K' Q') := fun a hf => by
  have e : Exit.then K Q' = Exit.then K (Exit.then K' Q') := by
    funext e a w
    cases e <;> rfl
  have h1 := h a hf
  rw [e] at h1
  have := wpList_meet (P := P) (ops := ops.toArray) (Q := Exit.then K' Q') l [] a w h1 (fun a w hk => hK a w hk)
  rwa [List.append_nil] at this
theorem HP.only (LO : LayOk P L) {c dc : Nat} {oc oa : Oper} (hc : ops[c]? = some oc) (ha : ops[ia]? = some oa) (hop : oa.op = .alloc T) (hgd : oa.guard = none) (hda : oa.dst = some dA) (hdn : Nat.blt dA n = true) (hz : lk L.zero T = some zs)
    (hr : (Region.ready .any ops.toArray listed = [c, ia] ∨ Region.ready .any ops.toArray listed = [ia, c])) (hr2 : Region.ready .any ops.toArray (listed.setIfInBounds ia true) = [c]) (hcd : Nat.beq dA dc = false) (hci : Nat.beq c ia = false) (hfr : fresh dA f = true) (hzw : z ≤ w.heap.size)
    (hSc : ∀ w1 w2, S w1 → Mv (fun _ => False) w1 w2 → S w2) {R : Value → World → Prop}
    (step : ∀ f' w', Sub f f' → Mv (fun _ => False) w w' → S w' → Ls P n ops [oc] f' w' (Exit.then (fun a' w'' => ∃ v, Fits ((dc, v) :: f') n a' ∧ R v w'' ∧ Mv (fun _ => False) w' w'') (Calm Q)))
    (next : ∀ v w', R v w' → Mv (fun _ => False) w w' → HP P n ops S Q ia dA zs T z k (listed.setIfInBounds c true) ((dc, v) :: f) w') : HP P n ops S Q ia dA zs T z (k + 1) listed f w := by
  have hne : c ≠ ia := fun e => by rw [e, Nat.beq_refl] at hci; cases hci
  have Bq : ∀ w', Mv (fun _ => False) w w' → S w' → ∀ q, Box z zs T q w' → H P n ops S [] Q (k + 1) (listed.setIfInBounds ia true) ((dA, .pointer (some ⟨q, 0, none⟩)) :: f) w' := fun w' m hS q hq => by
    refine H.only hc hr2 ?_
    refine (step ((dA, .pointer (some ⟨q, 0, none⟩)) :: f) w' ((Sub.rfl' f).fresh hfr) m hS).imp ?_
    rintro a w'' ⟨v, hf, hR, m2⟩
    have hS2 := hSc _ _ hS m2
    refine ⟨fun _ => hS2, fun hcl => ?_⟩
    have hn := (next v w'' hR (m.trans m2) w'' (Mv.refl _ _) hS2).2 q (hq.moved m2)
    rw [Array.setIfInBounds_comm _ _ hne] at hn
    exact hn.sub (Sub.swap hcd) a hf hcl fun _ => hS2
  intro w' m hS
  refine ⟨?_, Bq w' m hS⟩
  have b1 : Ls P n ops [oc] f w' (Exit.then (goOn P ops S [] Q (k + 1) (listed.setIfInBounds c true)) (Calm Q)) := by
    refine (step f w' (Sub.rfl' f) m hS).imp ?_
    rintro a w'' ⟨v, hf, hR, m2⟩
    have hS2 := hSc _ _ hS m2
    exact ⟨fun _ => hS2, fun hcl => (next v w'' hR (m.trans m2) w'' (Mv.refl _ _) hS2).1 a hf hcl fun _ => hS2⟩
  have b2 : Ls P n ops [oa] f w' (Exit.then (goOn P ops S [] Q (k + 1) (listed.setIfInBounds ia true)) (Calm Q)) := by
    refine Ls.alloc LO hop hgd hda hdn hz (Ls.nil ?_)
    have m2 : Mv (fun _ => False) w' (w'.alloc (.cells zs.toArray T)) := (Mv.refl _ w').alloc _
    have hS2 := hSc _ _ hS m2
    exact N.goOn (fun _ => hS2) (Bq _ (m.trans m2) hS2 _ ⟨Nat.le_trans hzw m.size, heap_alloc_new w' _⟩)
  rcases hr with hr | hr
  · exact H.two hc ha hr b1 b2
  · exact H.two ha hc hr b2 b1
theorem after_set : ∀ (is : List Nat) (listed : Array Bool), is.contains ia = false → after (listed.setIfInBounds ia true) is = (after listed is).setIfInBounds ia true
  | [], _, _ => rfl
  | i :: is, listed, h => by
    simp only [List.contains_cons, Bool.or_eq_false_iff] at h
    have hne : ia ≠ i := by simpa using h.1
    simp only [after]
    rw [Array.setIfInBounds_comm _ _ hne]
    exact after_set is _ h.2
theorem HP.takes (LO : LayOk P L) (b : Bool) (ks : List Nat) (is : List Nat) {f' : Fr} {m : Nat} (hm : k + is.length = m) (hB : (Region.noSelect ops.toArray && takesB ops.toArray [] b listed is && takesB ops.toArray [] b (listed.setIfInBounds ia true) is && !is.contains ia && noDst ops dA is && fresh dA f) = true)
    (hr : RunS P L (want b S) n ops is f f') (h : ∀ g, g = pick ks f' → HP P n ops S Q ia dA zs T z k (after listed is) g w) : HP P n ops S Q ia dA zs T z m listed f w := by
  simp only [Bool.and_eq_true, Bool.not_eq_true'] at hB
  obtain ⟨⟨⟨⟨⟨h1, h2⟩, h3⟩, h4⟩, h5⟩, h6⟩ := hB
  subst hm
  intro w' mv hS
  have hn := h _ rfl w' mv hS
  refine ⟨?_, fun q hq => ?_⟩
  · rw [show k + is.length + 1 = (k + 1) + is.length by omega]
    exact H.takes LO b h1 is listed f f' (k + 1) h2 hr (hn.1.sub (pick_sub ks f'))
  · obtain ⟨f2, hr2, hs2, hf2⟩ := hr.sub (d := dA) (p := .pointer (some ⟨q, 0, none⟩)) (f := (dA, .pointer (some ⟨q, 0, none⟩)) :: f) ((Sub.rfl' f).fresh h6) (by simp only [fget, Nat.beq_refl, cond_true]) h5
    refine H.takes LO b h1 is _ _ f2 k h3 hr2 ?_
    rw [after_set is listed h4]
    refine (hn.2 q hq).sub (Sub.cons ?_ hf2)
    intro i v hi
    exact hs2 i v (pick_sub ks f' i v hi)
theorem HP.fin (LO : LayOk P L) {oa : Oper} (ha : ops[ia]? = some oa) (hop : oa.op = .alloc T) (hgd : oa.guard = none) (hda : oa.dst = some dA) (hdn : Nat.blt dA n = true) (hz : lk L.zero T = some zs) (hr : Region.ready .any ops.toArray listed = [ia]) (hzw : z ≤ w.heap.size)
    (hSc : ∀ w1 w2, S w1 → Mv (fun _ => False) w1 w2 → S w2) (h : ∀ w' q, Mv (fun _ => False) w w' → S w' → Box z zs T q w' → H P n ops S [] Q k (listed.setIfInBounds ia true) ((dA, .pointer (some ⟨q, 0, none⟩)) :: f) w') : HP P n ops S Q ia dA zs T z k listed f w := by
  intro w' m hS
  refine ⟨H.only ha hr ?_, fun q hq => h w' q m hS hq⟩
  refine Ls.alloc LO hop hgd hda hdn hz (Ls.nil ?_)
  have m2 : Mv (fun _ => False) w' (w'.alloc (.cells zs.toArray T)) := (Mv.refl _ w').alloc _
  have hS2 := hSc _ _ hS m2
  exact N.goOn (fun _ => hS2) (h _ _ (m.trans m2) hS2 ⟨Nat.le_trans hzw m.size, heap_alloc_new w' _⟩)
/-- A call among them. -/
theorem Ls.step (LO : LayOk P L) {o : Oper} {g : Nat} {args : Array Operand} {ts : Array Nat} {vs : List Value} (hop : o.op = .call ⟨.value (.func g), args, ts⟩) (hw : wantF f ops o.guard = some true) (hg : has L.fn g = true) {d : Nat} (hd : o.dst = some d) (hdn : Nat.blt d n = true) (hv : fevals f args.toList = some vs)
    {u : Value} (hc : Calls P g vs.toArray w fun e w' => e = .returned u ∧ Mv (fun _ => False) w w') : Ls P n ops [o] f w (Exit.then (fun a' w' => ∃ v, Fits ((d, v) :: f) n a' ∧ v = u ∧ Mv (fun _ => False) w w') (Calm Q)) :=
  Ls.call LO hop hw hg hd hdn hv hc fun e w' ⟨he, m⟩ => ⟨u, he, Ls.nil fun a hf => ⟨u, hf, rfl, m⟩⟩
end
end Go.Proofs.Ytbidgeaigiijpaa.Fw
