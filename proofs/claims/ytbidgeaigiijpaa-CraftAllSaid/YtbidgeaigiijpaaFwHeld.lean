/- What is proved: a region that draws its order and in which several operations change the world: what reads is taken first, those that change come in whatever order. Conditions: the checks of each rule. -/
import Derived.Test.YtbidgeaigiijpaaFwTail
import Derived.OrdersHeld
namespace Go.Proofs.Ytbidgeaigiijpaa.Fw
set_option linter.unusedVariables false
set_option linter.unusedSimpArgs false
set_option linter.unusedSectionVars false
open Go.RowKit
section
variable {P : Program} {ops : Array Oper} {Q : Exit → Act → World → Prop} {md : Region.Mode} {S : World → Prop} {B : List Nat}
/-- None of the operations of B has come up. -/
def Intact (B : List Nat) (listed : Array Bool) : Prop := ∀ j ∈ B, listed.getD j false = false
theorem Intact.before {listed : Array Bool} {i : Nat} (h : Intact B (listed.setIfInBounds i true)) : Intact B listed := fun j hj => by
  have := h j hj
  by_cases e : i = j
  · subst e
    cases hl : listed.getD i false with
    | false => rfl
    | true => rw [getD_set_true hl] at this; cases this
  · rwa [getD_set_ne false e] at this
/-- What has come up is closed under what each waits for. -/
def Clo (md : Region.Mode) (ops : Array Oper) (listed : Array Bool) : Prop := ∀ j oj, ops[j]? = some oj → listed.getD j false = true → ∀ e ∈ oj.after, Region.binds md e = true → listed.getD e.on false = true
theorem Clo.zero (m : Nat) : Clo md ops (Array.replicate m false) := fun j oj _ hl => by rw [getD_replicate_false] at hl; cases hl
theorem Clo.set {listed : Array Bool} {i : Nat} (c : Clo md ops listed) (hi : i ∈ Region.ready md ops listed) : Clo md ops (listed.setIfInBounds i true) := by
  obtain ⟨_, oi, hoi, hall⟩ := mem_ready.1 hi
  intro j oj hj hl e he hb
  by_cases hij : i = j
  · subst hij
    have : oj = oi := Option.some.inj (hj.symm.trans hoi)
    subst this
    exact getD_set_true (hall e he hb)
  · rw [getD_set_ne false hij] at hl
    exact getD_set_true (c j oj hj hl e he hb)
/-- Whatever order is picked; S holds behind each operation until one of B has come up. -/
def anyB (P : Program) (md : Region.Mode) (ops : Array Oper) (Q : Exit → Act → World → Prop) (S : World → Prop) (B : List Nat) : Nat → Array Bool → Act → World → Prop
  | 0, listed, a, w => Region.ready md ops listed = [] ∧ Q .normal a w
  | fuel + 1, listed, a, w => (Region.ready md ops listed = [] → Q .normal a w) ∧
    ∀ i ∈ Region.ready md ops listed, wpOp P ops Q i (fun a' w' => (Intact B (listed.setIfInBounds i true) → S w') ∧ anyB P md ops Q S B fuel (listed.setIfInBounds i true) a' w') a w
theorem any_of_B : ∀ (fuel : Nat) (listed : Array Bool) (a : Act) (w : World), anyB P md ops Q S B fuel listed a w → wpAny P md ops Q fuel listed a w
  | 0, _, _, _, h => h
  | fuel + 1, _, _, _, h => ⟨h.1, fun i hi => wpOp_mono (fun a' w' h' => any_of_B fuel _ a' w' h'.2) (h.2 i hi)⟩
/-- What an operation asks of the world to yield its value. -/
def want (b : Bool) (S : World → Prop) : World → Prop := fun w => b = true → S w
theorem anyB_first {i : Nat} {oi : Oper} {v : Value} (b : Bool) (hi : ops[i]? = some oi) (hsel : ∀ (j : Nat) (o : Oper) cs b, ops[j]? = some o → o.op ≠ .select cs b)
    (hQ : ∀ c a w, Q (.panic c) (a.put oi.dst v) w → Q (.panic c) a w) (hiB : i ∉ B) (hwait : b = true → ∀ j ∈ B, Region.waitsFor md ops j i = true) :
    ∀ (fuel : Nat) (listed : Array Bool) (a : Act) (w : World), Clo md ops listed →
      (∀ j oj, ops[j]? = some oj → j ≠ i → listed.getD j true = false → (∀ e ∈ oj.after, Region.binds md e = true → e.on ≠ i) → oi.apart ops oj = true) →
      i ∈ Region.ready md ops listed → YieldsIf P ops (want b S) oi v a → (Intact B listed → S w) →
      anyB P md ops Q S B fuel (listed.setIfInBounds i true) (a.put oi.dst v) w → anyB P md ops Q S B (fuel + 1) listed a w := by
  have keep : ∀ (listed : Array Bool), Clo md ops listed → listed.getD i true = false → b = true → Intact B listed := by
    intro listed hc hun hb j hj
    obtain ⟨oj, hoj, e, he, hbi, hon⟩ := Region.waitsFor_spec (hwait hb j hj)
    cases hl : listed.getD j false with
    | false => rfl
    | true =>
      have := hc j oj hoj hl e he hbi
      rw [hon, getD_both hun] at this
      cases this
  intro fuel
  induction fuel with
  | zero =>
    intro listed a w hc _ hr hy hS H
    refine ⟨fun h => (by rw [h] at hr; cases hr), fun j hj => ?_⟩
    by_cases hji : j = i
    · subst hji; exact hy.wpOp hi (fun hb => hS (keep listed hc (mem_ready.1 hr).1 hb)) ⟨fun h => hS h.before, H⟩
    · have := ready_mono hj hji
      rw [H.1] at this
      cases this
  | succ fuel ih =>
    intro listed a w hc hfree hr hy hS H
    refine ⟨fun h => (by rw [h] at hr; cases hr), fun j hj => ?_⟩
    by_cases hji : j = i
    · subst hji; exact hy.wpOp hi (fun hb => hS (keep listed hc (mem_ready.1 hr).1 hb)) ⟨fun h => hS h.before, H⟩
    · have h1 := H.2 j (ready_mono hj hji)
      obtain ⟨hjun, oj, hoj, hall⟩ := mem_ready.1 hj
      have hnot : ∀ e ∈ oj.after, Region.binds md e = true → e.on ≠ i := fun e he hb heq => by
        have h1 := hall e he hb
        have h0 := (mem_ready.1 hr).1
        rw [heq, getD_both h0] at h1
        cases h1
      have h2 := wpOp_putIf hoj (hfree j oj hoj hji hjun hnot) (fun cs b => hsel i oi cs b hi) (fun cs b => hsel j oj cs b hoj) hQ hy h1
      have hfree' : ∀ k ok, ops[k]? = some ok → k ≠ i → (listed.setIfInBounds j true).getD k true = false →
          (∀ e ∈ ok.after, Region.binds md e = true → e.on ≠ i) → oi.apart ops ok = true := fun k ok hk hki hun hno => by
        refine hfree k ok hk hki ?_ hno
        by_cases hjk : j = k
        · subst hjk; exact hjun
        · rw [getD_set_ne true hjk] at hun; exact hun
      refine wpOp_mono (fun a' w' h3 => ?_) h2
      have hSj : Intact B (listed.setIfInBounds j true) → S w' := by
        intro hint
        refine h3.2.1 ?_
        intro k hk
        have hki : i ≠ k := fun e => hiB (e ▸ hk)
        rw [← Array.setIfInBounds_comm _ _ hji, getD_set_ne false hki]
        exact hint k hk
      refine ⟨hSj, ih (listed.setIfInBounds j true) a' w' (hc.set hj) hfree' (ready_mono hr (Ne.symm hji)) h3.1 hSj ?_⟩
      rw [Array.setIfInBounds_comm _ _ hji]
      exact h3.2.2
end
section
variable {P : Program} {L : Lay} {n : Nat} {f : Fr} {w : World} {Q : Exit → Act → World → Prop} {S : World → Prop} {B : List Nat} {ops : List Oper} {listed : Array Bool}
/-- Q, but for panics. -/
def Calm (Q : Exit → Act → World → Prop) : Exit → Act → World → Prop
  | .panic _, _, _ => False
  | e, a, w => Q e a w
theorem Calm.imp (e : Exit) (a : Act) (w : World) (h : Calm Q e a w) : Q e a w := by cases e <;> first | exact h | exact (h : False).elim
/-- The region from here on. -/
def H (P : Program) (n : Nat) (ops : List Oper) (S : World → Prop) (B : List Nat) (Q : Exit → Act → World → Prop) (k : Nat) (listed : Array Bool) (f : Fr) (w : World) : Prop :=
  ∀ a, Fits f n a → Clo .any ops.toArray listed → (Intact B listed → S w) → anyB P .any ops.toArray (Calm Q) S B k listed a w
theorem W.held (hm : P.follows .mixedOrders = true) {id : Nat} (S : World → Prop) (B : List Nat) (k : Nat) (hk : Nat.beq ops.length k = true) (h0 : ∀ w', Same w w' → S w') (h : ∀ w', Same w w' → H P n ops S B Q k (Array.replicate k false) f w') : W P n (.region id ops.toArray true) f w Q := fun a hf => by
  have hk' := Nat.eq_of_beq_eq_true hk
  have hs : Same w { w with drawn := w.drawn + 1 } := ⟨rfl, rfl, rfl, rfl⟩
  refine wp_mono (Q := Calm Q) ?_ Calm.imp
  refine wp_region_any hm (any_of_B (S := S) (B := B) _ _ _ _ ?_)
  rw [List.size_toArray, hk']
  exact h _ hs a hf (Clo.zero _) (fun _ => h0 _ hs)
inductive Und : Bool → Value → Prop
  | yes {v} : Und true v
  | no : Und false undef
/-- Operations that read, in the order in which they are taken. -/
inductive RunS (P : Program) (L : Lay) (S : World → Prop) (n : Nat) (ops : List Oper) : List Nat → Fr → Fr → Prop
  | nil {g : Fr} : RunS P L S n ops [] g g
  | cons {i : Nat} {is : List Nat} {o : Oper} {d : Nat} {b : Bool} {v : Value} {g g' : Fr} : ops[i]? = some o → wantF g ops o.guard = some b → (∀ w', S w' → Ev P L w' true g b o.op v) → Und b v → o.dst = some d → Nat.blt d n = true → RunS P L S n ops is ((d, v) :: g) g' → RunS P L S n ops (i :: is) g g'
def takesB (ops : Array Oper) (B : List Nat) (b : Bool) : Array Bool → List Nat → Bool
  | _, [] => true
  | listed, i :: is => Region.free .any ops listed i && (Region.ready .any ops listed).contains i && !B.contains i && (!b || B.all fun j => Region.waitsFor .any ops j i) && takesB ops B b (listed.setIfInBounds i true) is
def after : Array Bool → List Nat → Array Bool
  | listed, [] => listed
  | listed, i :: is => after (listed.setIfInBounds i true) is
theorem H.takes (LO : LayOk P L) (b : Bool) (hs : Region.noSelect ops.toArray = true) : ∀ (is : List Nat) (listed : Array Bool) (f f' : Fr) (k : Nat), takesB ops.toArray B b listed is = true → RunS P L (want b S) n ops is f f' →
    H P n ops S B Q k (after listed is) f' w → H P n ops S B Q (k + is.length) listed f w
  | [], listed, f, f', k, _, hr, h => by cases hr; exact h
  | i :: is, listed, f, f', k, hB, hr, h => by
    cases hr with
    | @cons _ _ o d c v _ _ hi hg he hu hd hn hr =>
      simp only [takesB, Bool.and_eq_true] at hB
      obtain ⟨⟨⟨⟨h1, h2⟩, h3⟩, h4⟩, h5⟩ := hB
      have hi' : ops.toArray[i]? = some o := by rw [List.getElem?_toArray]; exact hi
      have h2' : i ∈ Region.ready .any ops.toArray listed := by simpa using h2
      intro a hf hc hS
      have hput : a.put o.dst v = a.put (some d) v := by rw [hd]
      refine anyB_first (v := v) b hi' (Region.noSelect_spec hs) (fun c a w h => h) (by simpa using h3) (fun hb j hj => ?_) (k + is.length) listed a w hc (Region.free_spec hi' h1) h2' ?_ hS ?_
      · subst hb
        simp only [Bool.not_true, Bool.false_or, List.all_eq_true] at h4
        exact h4 j hj
      · cases c with
        | true =>
          left
          refine ⟨wanted_of hf hg, fun w' hS' => ?_⟩
          rcases (he w' hS').run LO hf ⟨rfl, rfl, rfl, rfl⟩ o rfl with h | ⟨h, _⟩
          · exact h
          · cases h
        | false =>
          right
          refine ⟨wanted_of hf hg, ?_⟩
          cases hu; rfl
      · rw [hput]
        exact H.takes LO b hs is _ _ f' k h5 hr h _ (hf.put hn v) (hc.set h2') (fun hint => hS hint.before)
theorem H.sub {g : Fr} {k : Nat} (h : H P n ops S B Q k listed g w) (hs : Sub g f) : H P n ops S B Q k listed f w := fun a hf => h a (hf.sub hs)
theorem H.takesK (LO : LayOk P L) (b : Bool) (ks : List Nat) (is : List Nat) {f' : Fr} {k m : Nat} (hm : k + is.length = m) (hB : (Region.noSelect ops.toArray && takesB ops.toArray B b listed is) = true) (hr : RunS P L (want b S) n ops is f f')
    (h : ∀ g, g = pick ks f' → H P n ops S B Q k (after listed is) g w) : H P n ops S B Q m listed f w := by
  simp only [Bool.and_eq_true] at hB
  subst hm
  exact H.takes LO b hB.1 is listed f f' k hB.2 hr ((h _ rfl).sub (pick_sub ks f'))
theorem H.done {k : Nat} (hr : Region.ready .any ops.toArray listed = []) (h : N n f w Q .normal) : H P n ops S B Q k listed f w := fun a hf _ _ => by
  cases k with
  | zero => exact ⟨hr, h a hf⟩
  | succ k => exact ⟨fun _ => h a hf, fun i hi => by rw [hr] at hi; cases hi⟩
/-- What stands behind one operation. -/
def goOn (P : Program) (ops : List Oper) (S : World → Prop) (B : List Nat) (Q : Exit → Act → World → Prop) (k : Nat) (listed : Array Bool) : Act → World → Prop :=
  fun a w => (Intact B listed → S w) ∧ (Clo .any ops.toArray listed → anyB P .any ops.toArray (Calm Q) S B k listed a w)
theorem N.goOn {k : Nat} (hS : Intact B listed → S w) (h : H P n ops S B Q k listed f w) : N n f w (Exit.then (goOn P ops S B Q k listed) (Calm Q)) .normal := fun a hf => ⟨hS, fun hc => h a hf hc hS⟩
theorem upon_imp {o : Oper} {a : Act} {K : Act → World → Prop} {Q1 Q2 : Exit → Act → World → Prop} (hQ : ∀ e a w, Q1 e a w → e ≠ .normal → Q2 e a w) {r : Result Next} (h : o.upon P a K Q1 r) : o.upon P a K Q2 r := by
  have hL : LetsOut Q1 → LetsOut Q2 := fun ⟨a, w, h⟩ => ⟨a, w, hQ _ a w h (by intro e; cases e)⟩
  cases r with
  | ok n w' =>
    cases n <;> simp only [Oper.upon] at h ⊢ <;> try exact h
    case enter f args =>
      refine h.mono fun e w'' he => ?_
      cases e with
      | returned u => exact he
      | panicked c => exact hQ _ _ _ he (by intro e; cases e)
      | outgrown => exact hL he
  | halt x w' =>
    cases x <;> simp only [Oper.upon] at h ⊢
    exact hQ _ _ _ h (by intro e; cases e)
theorem op_of_Ls {i : Nat} {o : Oper} {K : Act → World → Prop} {Q' : Exit → Act → World → Prop} (hi : ops[i]? = some o) (h : Ls P n ops [o] f w (Exit.then K Q')) {a : Act} (hf : Fits f n a) (hQ : ∀ e a w, Exit.then K Q' e a w → e ≠ .normal → Q' e a w) : wpOp P ops.toArray Q' i K a w := by
  have h1 := h a hf
  unfold wpOp
  rw [List.getElem?_toArray, hi]
  simp only
  unfold wpList at h1
  split
  · rename_i hw
    rw [if_pos hw] at h1
    rcases h1 with h1 | ⟨h1, h2⟩
    · exact .inl (upon_imp hQ h1)
    · refine .inr ⟨h1, ?_⟩
      obtain ⟨a, w, h⟩ := h2
      exact ⟨a, w, hQ _ a w h (by intro e; cases e)⟩
  · rename_i hw
    rw [if_neg hw] at h1
    exact h1
/-- The one operation that may come up. -/
theorem H.only {i : Nat} {o : Oper} {k : Nat} (hi : ops[i]? = some o) (hr : Region.ready .any ops.toArray listed = [i]) (h : Ls P n ops [o] f w (Exit.then (goOn P ops S B Q k (listed.setIfInBounds i true)) (Calm Q))) : H P n ops S B Q (k + 1) listed f w := fun a hf hc hS => by
  refine ⟨fun h0 => (by rw [hr] at h0; cases h0), fun j hj => ?_⟩
  have hmem : j ∈ Region.ready .any ops.toArray listed := hj
  rw [hr] at hj
  obtain rfl : j = i := by simpa using hj
  refine wpOp_mono (fun a' w' hk => ⟨hk.1, hk.2 (hc.set hmem)⟩) (op_of_Ls hi h hf ?_)
  intro e a w he hne
  cases e <;> first | exact absurd rfl hne | exact he
/-- Either of two may come up. -/
theorem H.two {i j : Nat} {oi oj : Oper} {k : Nat} (hi : ops[i]? = some oi) (hj : ops[j]? = some oj) (hr : Region.ready .any ops.toArray listed = [i, j])
    (h1 : Ls P n ops [oi] f w (Exit.then (goOn P ops S B Q k (listed.setIfInBounds i true)) (Calm Q))) (h2 : Ls P n ops [oj] f w (Exit.then (goOn P ops S B Q k (listed.setIfInBounds j true)) (Calm Q))) : H P n ops S B Q (k + 1) listed f w := fun a hf hc hS => by
  refine ⟨fun h0 => (by rw [hr] at h0; cases h0), fun x hx => ?_⟩
  have hmem : x ∈ Region.ready .any ops.toArray listed := hx
  rw [hr] at hx
  have hx' : x = i ∨ x = j := by simpa using hx
  rcases hx' with rfl | rfl
  · refine wpOp_mono (fun a' w' hk => ⟨hk.1, hk.2 (hc.set hmem)⟩) (op_of_Ls hi h1 hf ?_)
    intro e a w he hne
    cases e <;> first | exact absurd rfl hne | exact he
  · refine wpOp_mono (fun a' w' hk => ⟨hk.1, hk.2 (hc.set hmem)⟩) (op_of_Ls hj h2 hf ?_)
    intro e a w he hne
    cases e <;> first | exact absurd rfl hne | exact he
/-- An operation that changes the world: its number, where its value goes, what is known of the value; what holds until it comes up. -/
structure Eff where
  i : Nat
  d : Nat
  G : Value → World → Prop
  A : World → Prop := fun _ => True
def shufB (ops : Array Oper) (E : List Nat) (fin : Array Bool) : Nat → Array Bool → Bool
  | 0, listed => listed == fin
  | k + 1, listed => !(Region.ready .any ops listed).isEmpty && (Region.ready .any ops listed).all fun i => E.contains i && shufB ops E fin k (listed.setIfInBounds i true)
def fresh (d : Nat) : Fr → Bool
  | [] => true
  | p :: r => !Nat.beq p.1 d && fresh d r
theorem fget_fresh {d : Nat} : ∀ {f : Fr} {v : Value}, fresh d f = true → fget f d = some v → False
  | [], v, _, h => by cases h
  | p :: r, v, hf, h => by
    simp only [fresh, Bool.and_eq_true, Bool.not_eq_true'] at hf
    simp only [fget, hf.1, cond_false] at h
    exact fget_fresh hf.2 h
theorem Sub.fresh {g f : Fr} {d : Nat} {v : Value} (h : Sub g f) (hd : fresh d g = true) : Sub g ((d, v) :: f) := fun i u hi => by
  simp only [fget]
  cases hb : Nat.beq d i with
  | true => rw [← Nat.eq_of_beq_eq_true hb] at hi; exact (fget_fresh hd hi).elim
  | false => exact h i u hi
theorem Sub.cons {g f : Fr} {d : Nat} {v : Value} (h : Sub g f) (hd : fget f d = some v) : Sub ((d, v) :: g) f := fun i u hi => by
  simp only [fget] at hi
  cases hb : Nat.beq d i with
  | true => rw [hb] at hi; rw [← Nat.eq_of_beq_eq_true hb]; exact hd.trans hi
  | false => rw [hb] at hi; exact h i u hi
theorem Sub.feval {g f : Fr} (h : Sub g f) {x : Operand} {v : Value} (he : feval g x = some v) : feval f x = some v := by
  cases x with
  | tmp t => exact h t v he
  | const u => exact he
  | global g => exact he
  | func k => exact he
theorem Sub.fevals {g f : Fr} (h : Sub g f) : ∀ {xs : List Operand} {vs : List Value}, fevals g xs = some vs → fevals f xs = some vs
  | [], vs, he => he
  | x :: r, vs, he => by
    simp only [Fw.fevals] at he ⊢
    obtain ⟨v, hv, he⟩ := Option.bind_eq_some_iff.1 he
    obtain ⟨us, hu, he⟩ := Option.map_eq_some_iff.1 he
    rw [h.feval hv, Option.bind_some, h.fevals hu, Option.map_some, he]
/-- What stands behind an operation among several. -/
def effOn (n : Nat) (E : List Eff) (e : Eff) (Bw : World → Prop) (f : Fr) (w : World) : Act → World → Prop :=
  fun a' w' => ∃ v, Fits ((e.d, v) :: f) n a' ∧ Bw w' ∧ e.G v w' ∧ ∀ e' ∈ E, e'.i ≠ e.i → (e'.A w → e'.A w') ∧ ∀ u, e'.G u w → e'.G u w'
theorem N.eff {E : List Eff} {e : Eff} {Bw : World → Prop} {f0 : Fr} {w0 : World} {v : Value} {Q' : Exit → Act → World → Prop} (hb : Bw w) (hg : e.G v w) (ho : ∀ e' ∈ E, e'.i ≠ e.i → (e'.A w0 → e'.A w) ∧ ∀ u, e'.G u w0 → e'.G u w) : N n ((e.d, v) :: f0) w (Exit.then (effOn n E e Bw f0 w0) Q') .normal := fun _ hf => ⟨v, hf, hb, hg, ho⟩
theorem getD_set_self' {ops : Array Oper} {l : Array Bool} {i : Nat} (hi : i ∈ Region.ready .any ops l) : (l.setIfInBounds i true).getD i false = true := by
  have h := (mem_ready.1 hi).1
  rcases Nat.lt_or_ge i l.size with h' | h'
  · simp [h']
  · simp [Array.getElem?_eq_none h'] at h
theorem H.join (E : List Eff) (f0 : Fr) (Bw : World → Prop) (fin : Array Bool) {k m : Nat} (hm : k + E.length = m) (hE : shufB ops.toArray (E.map (·.i)) fin E.length listed = true) (h0 : ∀ e ∈ E, listed.getD e.i true = false ∧ fin.getD e.i false = true ∧ fresh e.d f0 = true)
    (hni : (E.map (·.i)).Nodup) (hnd : (E.map (·.d)).Nodup) (hs : Sub f0 f) (hb : Bw w) (hA : ∀ e ∈ E, e.A w) (hS : ∀ w, Bw w → S w)
    (step : ∀ e ∈ E, ∀ o f w, ops[e.i]? = some o → Sub f0 f → Bw w → e.A w → (∀ e' ∈ E, Region.waitsFor .any ops.toArray e.i e'.i = true → ∃ v, fget f e'.d = some v ∧ e'.G v w) → Ls P n ops [o] f w (Exit.then (effOn n E e Bw f w) (Calm Q)))
    (hfin : ∀ f w, Sub f0 f → Bw w → (∀ e ∈ E, ∃ v, fget f e.d = some v ∧ e.G v w) → H P n ops S B Q k fin f w) : H P n ops S B Q m listed f w := by
  subst hm
  have hij := inj_of_pw (f := fun e : Eff => e.i) (l := E) (List.pairwise_map.1 hni)
  have hd : ∀ e ∈ E, ∀ e' ∈ E, e'.i ≠ e.i → e'.d ≠ e.d := fun e he e' he' hne h => hne (by rw [inj_of_pw (f := fun e : Eff => e.d) (l := E) (List.pairwise_map.1 hnd) e' he' e he h])
  have main : ∀ (j : Nat) (l : Array Bool) (f : Fr) (w : World), shufB ops.toArray (E.map (·.i)) fin j l = true → Sub f0 f → Bw w → (∀ e ∈ E, l.getD e.i false = false → e.A w) → (∀ e ∈ E, l.getD e.i false = true → ∃ v, fget f e.d = some v ∧ e.G v w) → H P n ops S B Q (k + j) l f w := by
    intro j
    induction j with
    | zero =>
      intro l f w hB hs hb _ hJ
      have : l = fin := eq_of_beq hB
      subst this
      exact hfin f w hs hb fun e he => hJ e he (h0 e he).2.1
    | succ j ih =>
      intro l f w hB hs hb hA hJ a hf hc hS'
      simp only [shufB, Bool.and_eq_true, List.all_eq_true] at hB
      refine ⟨fun h0 => (by rw [h0] at hB; simp at hB), fun i hi => ?_⟩
      have hi2 := hB.2 i hi
      obtain ⟨hiE, hBi⟩ := hi2
      have hiE' : i ∈ E.map (·.i) := by simpa using hiE
      obtain ⟨e, he, rfl⟩ := List.mem_map.1 hiE'
      obtain ⟨hun, o, ho, hall⟩ := mem_ready.1 hi
      have ho' : ops[e.i]? = some o := by rw [← List.getElem?_toArray]; exact ho
      have hl := step e he o f w ho' hs hb (hA e he (getD_both hun)) (fun e' he' hw => hJ e' he' (by
        obtain ⟨oj, hoj, ed, hed, hbi, hon⟩ := Region.waitsFor_spec hw
        have : oj = o := Option.some.inj (hoj.symm.trans ho)
        subst this
        rw [← hon]; exact hall ed hed hbi))
      refine wpOp_mono (fun a' w' hk => ?_) (op_of_Ls ho' hl hf ?_)
      · obtain ⟨v, hf', hb', hg', hoth⟩ := hk
        refine ⟨fun _ => hS w' hb', ?_⟩
        refine ih _ ((e.d, v) :: f) w' hBi (hs.fresh (h0 e he).2.2) hb' ?_ ?_ a' hf' (hc.set hi) (fun _ => hS w' hb')
        · intro e' he' hl'
          by_cases hee : e'.i = e.i
          · rw [hee, getD_set_self' hi] at hl'; cases hl'
          · rw [getD_set_ne false (Ne.symm hee)] at hl'
            exact (hoth e' he' hee).1 (hA e' he' hl')
        intro e' he' hl'
        by_cases hee : e'.i = e.i
        · obtain rfl := hij e' he' e he hee
          refine ⟨v, ?_, hg'⟩
          simp only [fget]
          rw [Nat.beq_refl, cond_true]
        · rw [getD_set_ne false (Ne.symm hee)] at hl'
          obtain ⟨u, hu, hgu⟩ := hJ e' he' hl'
          refine ⟨u, ?_, (hoth e' he' hee).2 u hgu⟩
          simp only [fget]
          have : Nat.beq e.d e'.d = false := by
            cases hbq : Nat.beq e.d e'.d with
            | false => rfl
            | true => exact absurd (Nat.eq_of_beq_eq_true hbq).symm (hd e he e' he' hee)
          rw [this, cond_false]
          exact hu
      · intro e a w he hne
        cases e <;> first | exact absurd rfl hne | exact he
  refine main E.length listed f w hE hs hb (fun e he _ => hA e he) fun e he hl => ?_
  rw [getD_both (h0 e he).1] at hl
  cases hl
/-- Two new variables, in either order. -/
theorem H.allocs (LO : LayOk P L) {i j : Nat} {oi oj : Oper} {k ti tj : Nat} {fin : Array Bool} (hi : ops[i]? = some oi) (hj : ops[j]? = some oj) (hr : Region.ready .any ops.toArray listed = [i, j]) (hri : Region.ready .any ops.toArray (listed.setIfInBounds i true) = [j]) (hrj : Region.ready .any ops.toArray (listed.setIfInBounds j true) = [i])
    (hf1 : (listed.setIfInBounds i true).setIfInBounds j true = fin) (hf2 : (listed.setIfInBounds j true).setIfInBounds i true = fin) (hop : oi.op = .alloc ti) (hoq : oj.op = .alloc tj) (hgi : oi.guard = none) (hgj : oj.guard = none) {d e : Nat} (hd : oi.dst = some d) (he : oj.dst = some e) (hdn : Nat.blt d n = true) (hen : Nat.blt e n = true)
    (hde : Nat.beq d e = false) {zi zj : List Value} (hzi : lk L.zero ti = some zi) (hzj : lk L.zero tj = some zj) (hS : ∀ w', Mv (fun _ => False) w w' → S w')
    (h : ∀ u v w', u ≠ v → w.heap.size ≤ u → w.heap.size ≤ v → w'.heap[u]? = some (.cells zi.toArray ti (0, 0)) → w'.heap[v]? = some (.cells zj.toArray tj (0, 0)) → Mv (fun _ => False) w w' → H P n ops S B Q k fin ((d, .pointer (some ⟨u, 0, none⟩)) :: (e, .pointer (some ⟨v, 0, none⟩)) :: f) w') : H P n ops S B Q (k + 2) listed f w := by
  have z1 : ∀ o, (w.alloc o).heap.size = w.heap.size + 1 := fun o => Array.size_push _
  refine H.two hi hj hr ?_ ?_
  · refine Ls.alloc LO hop hgi hd hdn hzi (Ls.nil ?_)
    have b1 := heap_alloc_new w (.cells zi.toArray ti)
    have m1 : Mv (fun _ => False) w (w.alloc (.cells zi.toArray ti)) := (Mv.refl _ w).alloc _
    have s1 := z1 (.cells zi.toArray ti)
    generalize w.alloc (.cells zi.toArray ti) = w1 at b1 m1 s1
    refine N.goOn (fun _ => hS _ m1) ?_
    refine H.only hj hri ?_
    refine Ls.alloc LO hoq hgj he hen hzj (Ls.nil ?_)
    have b2 := heap_alloc_new w1 (.cells zj.toArray tj)
    have m2 : Mv (fun _ => False) w1 (w1.alloc (.cells zj.toArray tj)) := (Mv.refl _ w1).alloc _
    generalize w1.alloc (.cells zj.toArray tj) = w2 at b2 m2
    refine N.goOn (fun _ => hS _ (m1.trans m2)) ?_
    rw [hf1]
    refine (h w.heap.size w1.heap.size w2 (by omega) (Nat.le_refl _) (by omega) ((m2.block _ (by omega) fun e => e).trans b1) b2 (m1.trans m2)).sub ?_
    intro x u hx
    simp only [fget] at hx ⊢
    cases hxe : Nat.beq e x with
    | false => rw [hxe] at hx; exact hx
    | true =>
      rw [hxe] at hx
      cases hxd : Nat.beq d x with
      | false => rw [hxd] at hx; exact hx
      | true => rw [Nat.eq_of_beq_eq_true hxe, Nat.eq_of_beq_eq_true hxd, Nat.beq_refl] at hde; cases hde
  · refine Ls.alloc LO hoq hgj he hen hzj (Ls.nil ?_)
    have b1 := heap_alloc_new w (.cells zj.toArray tj)
    have m1 : Mv (fun _ => False) w (w.alloc (.cells zj.toArray tj)) := (Mv.refl _ w).alloc _
    have s1 := z1 (.cells zj.toArray tj)
    generalize w.alloc (.cells zj.toArray tj) = w1 at b1 m1 s1
    refine N.goOn (fun _ => hS _ m1) ?_
    refine H.only hi hrj ?_
    refine Ls.alloc LO hop hgi hd hdn hzi (Ls.nil ?_)
    have b2 := heap_alloc_new w1 (.cells zi.toArray ti)
    have m2 : Mv (fun _ => False) w1 (w1.alloc (.cells zi.toArray ti)) := (Mv.refl _ w1).alloc _
    generalize w1.alloc (.cells zi.toArray ti) = w2 at b2 m2
    refine N.goOn (fun _ => hS _ (m1.trans m2)) ?_
    rw [hf2]
    exact h w1.heap.size w.heap.size w2 (by omega) (by omega) (Nat.le_refl _) b2 ((m2.block _ (by omega) fun e => e).trans b1) (m1.trans m2)
end
end Go.Proofs.Ytbidgeaigiijpaa.Fw
