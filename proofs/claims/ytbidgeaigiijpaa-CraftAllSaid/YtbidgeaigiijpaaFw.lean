/- What is proved: walks over code by frames of few slots: what stands in the slots that are named, step by step. Conditions: those that stand in each theorem. -/
import Derived.Test.YtbidgeaigiijpaaMapL
import Derived.Deep.LoopGhost
import Derived.Deep.Quiet
import Derived.StillTail
import Derived.WalkKit
import Derived.Laws.Tables
import Derived.Deep.OwnRows
import Derived.KernelRfl
namespace Go.Proofs.Ytbidgeaigiijpaa.Fw
set_option linter.unusedVariables false
set_option linter.unusedSimpArgs false
set_option linter.unusedSectionVars false
open Go.RowKit
set_option linter.unusedVariables false

/-- The slots that are named, and what they hold. -/
abbrev Fr := List (Nat × Value)
def fget : Fr → Nat → Option Value
  | [], _ => none
  | (j, v) :: r, i => bif Nat.beq j i then some v else fget r i
structure Fits (f : Fr) (n : Nat) (a : Act) : Prop where
  size : a.tmps.size = n
  nodefer : a.defers = []
  holds : ∀ i v, fget f i = some v → a.tmps.getD i undef = v
def feval (f : Fr) : Operand → Option Value
  | .tmp t => fget f t
  | .const v => some v
  | .global g => some (.pointer (some ⟨g, 0, none⟩))
  | .func k => some (.func (.func k) #[] #[])
theorem Fits.eval {f : Fr} {n : Nat} {a : Act} (h : Fits f n a) {x : Operand} {v : Value} (he : feval f x = some v) : a.eval x = v := by
  cases x with
  | tmp t => exact h.holds t v he
  | const u => exact Option.some.inj he
  | global g => exact Option.some.inj he
  | func k => exact Option.some.inj he
theorem Fits.put {f : Fr} {n : Nat} {a : Act} (h : Fits f n a) {d : Nat} (hd : Nat.blt d n = true) (v : Value) : Fits ((d, v) :: f) n (a.put (some d) v) := by
  have hd' : d < a.tmps.size := by rw [h.size]; rwa [Nat.blt_eq] at hd
  refine ⟨by simp [Act.put, h.size], h.nodefer, fun i u hi => ?_⟩
  simp only [fget] at hi
  by_cases e : d = i
  · subst e
    rw [Nat.beq_refl, cond_true] at hi
    simp only [Act.put]
    rw [← Option.some.inj hi]
    simp [Array.getD, hd']
  · have e' : Nat.beq d i = false := by
      cases hb : Nat.beq d i with
      | false => rfl
      | true => exact absurd (Nat.eq_of_beq_eq_true hb) e
    rw [e', cond_false] at hi
    rw [← h.holds i u hi]
    simp only [Act.put, Array.getD_eq_getD_getElem?]
    rw [Array.getElem?_setIfInBounds_ne (by omega)]
theorem Fits.none {f : Fr} {n : Nat} {a : Act} (h : Fits f n a) (v : Value) : Fits f n (a.put Option.none v) := h
def Sub (g f : Fr) : Prop := ∀ i v, fget g i = some v → fget f i = some v
theorem Fits.sub {f g : Fr} {n : Nat} {a : Act} (h : Fits f n a) (hs : Sub g f) : Fits g n a := ⟨h.size, h.nodefer, fun i v hi => h.holds i v (hs i v hi)⟩
def pick (ks : List Nat) (f : Fr) : Fr := ks.filterMap fun k => (fget f k).map fun v => (k, v)
theorem pick_sub (ks : List Nat) (f : Fr) : Sub (pick ks f) f := by
  intro i v h
  induction ks with
  | nil => cases h
  | cons k r ih =>
    simp only [pick, List.filterMap_cons] at h
    cases hk : fget f k with
    | none => rw [hk] at h; exact ih h
    | some u =>
      rw [hk] at h
      simp only [Option.map_some, fget] at h
      cases hb : Nat.beq k i with
      | true => rw [hb] at h; rw [← Nat.eq_of_beq_eq_true hb, hk]; exact h
      | false => rw [hb] at h; exact ih h

theorem sub_keys {g f : Fr} (h : pick (g.map (·.1)) f = g) : Sub g f := by rw [← h]; exact pick_sub _ _

/-- What the walk needs to know of the types: structs (offset and size of each field), types of one cell, of more, slices (their elements' type and size), integers. -/
structure Lay where
  st : List (Nat × List (Nat × Nat))   -- 0: one cell; k + 1: k cells
  one : List Nat
  agg : List (Nat × Nat)
  sl : List (Nat × Nat × Nat)
  ar : List (Nat × Nat × Nat × Nat)   -- arrays: length, element, its size
  ik : List (Nat × IntKind)
  str : List Nat
  ptr : List Nat   -- pointers
  boo : List Nat   -- bools
  fn : List Nat   -- functions with bodies
  zero : List (Nat × List Value)
def lk {α : Type} : List (Nat × α) → Nat → Option α
  | [], _ => none
  | (j, v) :: r, i => bif Nat.beq j i then some v else lk r i
theorem lk_mem {α : Type} {l : List (Nat × α)} {i : Nat} {v : α} (h : lk l i = some v) : (i, v) ∈ l := by
  induction l with
  | nil => cases h
  | cons p r ih =>
    simp only [lk] at h
    cases hb : Nat.beq p.1 i with
    | true => rw [hb] at h; rw [← Nat.eq_of_beq_eq_true hb, ← Option.some.inj h]; exact List.mem_cons_self
    | false => rw [hb] at h; exact List.mem_cons_of_mem _ (ih h)
def has : List Nat → Nat → Bool
  | [], _ => false
  | j :: r, i => bif Nat.beq j i then true else has r i
theorem has_mem {l : List Nat} {i : Nat} (h : has l i = true) : i ∈ l := by
  induction l with
  | nil => cases h
  | cons p r ih =>
    simp only [has] at h
    cases hb : Nat.beq p i with
    | true => rw [← Nat.eq_of_beq_eq_true hb]; exact List.mem_cons_self
    | false => rw [hb] at h; exact List.mem_cons_of_mem _ (ih h)
def sizeT (P : Program) (t : Nat) : Option Nat := (P.info? t).map (·.size)
/-- A type without parts. -/
def plainT (P : Program) (t : Nat) : Bool := match P.underlying t with
  | some (.struct _) => false
  | some (.array _ _) => false
  | some _ => true
  | none => false
def aggT (P : Program) (t : Nat) : Bool := match P.underlying t with
  | some (.struct _) => true
  | some (.array _ _) => true
  | _ => false
def codeT (P : Program) (t : Nat) : Option Nat := if plainT P t = true then (if sizeT P t = some 1 then some 0 else none) else if aggT P t = true then (sizeT P t).map (· + 1) else none
def fieldsT (P : Program) (t : Nat) : Option (List (Nat × Option Nat)) := match P.underlying t with
  | some (.struct fs) => some (fs.toList.map fun f => (f.offset, codeT P f.type))
  | _ => none
def callB (P : Program) (g : Nat) : Bool := match P.funcs[g]? with | some fn => fn.body.isSome && !(fn.name == "runtime.NumGoroutine") | none => false
def zeroT (P : Program) (t : Nat) : Option Value := (P.info? t).bind (·.zero)
theorem run_zero {P : Program} {t : Nat} {z : Value} (h : zeroT P t = some z) (w : World) : (zeroValue t).run P w = .ok z w := by
  unfold zeroT at h
  obtain ⟨i, hi, hz⟩ := Option.bind_eq_some_iff.1 h
  simp [zeroValue, typeInfo, hi, hz]
structure LayOk (P : Program) (L : Lay) : Prop where
  st : ∀ t fs, (t, fs) ∈ L.st → fieldsT P t = some (fs.map fun p => (p.1, some p.2))
  one : ∀ t, t ∈ L.one → plainT P t = true ∧ sizeT P t = some 1
  agg : ∀ t k, (t, k) ∈ L.agg → aggT P t = true ∧ sizeT P t = some k ∧ 0 < k
  sl : ∀ t e k, (t, e, k) ∈ L.sl → P.underlying t = some (.slice e) ∧ sizeT P e = some k
  ar : ∀ t n e k, (t, n, e, k) ∈ L.ar → P.underlying t = some (.array n e) ∧ sizeT P e = some k
  ik : ∀ t k, (t, k) ∈ L.ik → P.underlying t = some (.int k)
  str : ∀ t, t ∈ L.str → P.underlying t = some .string
  ptr : ∀ t, t ∈ L.ptr → ∃ e, P.underlying t = some (.pointer e)
  boo : ∀ t, t ∈ L.boo → P.underlying t = some .bool
  fn : ∀ g, g ∈ L.fn → callB P g = true
  zero : ∀ t zs, (t, zs) ∈ L.zero → ∃ z, zeroT P t = some z ∧ z.cells = zs.toArray

/-- A text's byte. -/
def bt (s : ByteArray) (i : Int) : Int := ((s.data.toList.getD i.toNat 0).toNat : Int)

/-- What is known of a term: else it stands as it is. -/
inductive Kn {α : Type} : α → α → Prop
  | rfl {a} : Kn a a
theorem Kn.of {α : Type} {a b : α} (h : a = b) : Kn a b := by rw [h]; exact .rfl
theorem Kn.eq {α : Type} {a b : α} (h : Kn a b) : a = b := by cases h; rfl
theorem Kn.yes {p : Prop} [Decidable p] (h : p) : Kn (decide p) true := .of (decide_eq_true h)
theorem Kn.no {p : Prop} [Decidable p] (h : ¬ p) : Kn (decide p) false := .of (decide_eq_false h)
/-- A cell and what it holds. -/
structure Cl (w : World) (a : Addr) (v : Value) : Prop where
  h : w.cell? a = some v

/-- An operation on two values. -/
inductive Bop (L : Lay) (t : Nat) : BinOp → Value → Value → Value → Prop
  | add {k a b r} : Kn (k.wrap (a + b)) r → Bop L t .add (.int k a) (.int k b) (.int k r)
  | sub {k a b r} : Kn (k.wrap (a - b)) r → Bop L t .sub (.int k a) (.int k b) (.int k r)
  | mul {k a b r} : Kn (k.wrap (a * b)) r → Bop L t .mul (.int k a) (.int k b) (.int k r)
  | quo {k a b r} : b ≠ 0 → Kn (k.wrap (a.tdiv b)) r → Bop L t .quo (.int k a) (.int k b) (.int k r)
  | rem {k a b r} : b ≠ 0 → Kn (a.tmod b) r → Bop L t .rem (.int k a) (.int k b) (.int k r)
  | and {k a b r} : Kn (bits .and k a b) r → Bop L t .and (.int k a) (.int k b) (.int k r)
  | or {k a b r} : Kn (bits .or k a b) r → Bop L t .or (.int k a) (.int k b) (.int k r)
  | xor {k a b r} : Kn (bits .xor k a b) r → Bop L t .xor (.int k a) (.int k b) (.int k r)
  | shl {k q a b r} : 0 ≤ b → Kn (k.wrap (a * 2 ^ (min b.toNat k.bits))) r → Bop L t .shl (.int k a) (.int q b) (.int k r)
  | shr {k q a b r} : 0 ≤ b → Kn (a.fdiv (2 ^ (min b.toNat k.bits))) r → Bop L t .shr (.int k a) (.int q b) (.int k r)
  | lss {k a b c} : Kn (decide (a < b)) c → Bop L t .lss (.int k a) (.int k b) (.bool c)
  | leq {k a b c} : Kn (decide (a ≤ b)) c → Bop L t .leq (.int k a) (.int k b) (.bool c)
  | gtr {k a b c} : Kn (decide (b < a)) c → Bop L t .gtr (.int k a) (.int k b) (.bool c)
  | geq {k a b c} : Kn (decide (b ≤ a)) c → Bop L t .geq (.int k a) (.int k b) (.bool c)
  | eql {k a b c} : Kn (a == b) c → Bop L t .eql (.int k a) (.int k b) (.bool c)
  | neq {k a b c} : Kn (a != b) c → Bop L t .neq (.int k a) (.int k b) (.bool c)
  | sadd {a b : ByteArray} : a.size + b.size ≤ 9223372036854775807 → Bop L t .add (.string a) (.string b) (.string (a ++ b))
  | seql {a b : ByteArray} {c} : Kn (a.toList == b.toList) c → Bop L t .eql (.string a) (.string b) (.bool c)
  | sneq {a b : ByteArray} {c} : Kn (a.toList == b.toList) c → Bop L t .neq (.string a) (.string b) (.bool (!c))
  | beql {a b c} : has L.boo t = true → Kn (a == b) c → Bop L t .eql (.bool a) (.bool b) (.bool c)
  | bneq {a b c} : has L.boo t = true → Kn (a == b) c → Bop L t .neq (.bool a) (.bool b) (.bool (!c))
  | pnil {a} : has L.ptr t = true → Bop L t .eql (.pointer (some a)) (.pointer none) (.bool false)
  | pnot {a} : has L.ptr t = true → Bop L t .neq (.pointer (some a)) (.pointer none) (.bool true)
  | nnil : has L.ptr t = true → Bop L t .eql (.pointer none) (.pointer none) (.bool true)
  | nnot : has L.ptr t = true → Bop L t .neq (.pointer none) (.pointer none) (.bool false)

theorem Bop.run {P : Program} {L : Lay} (LO : LayOk P L) {w : World} {op : BinOp} {u v r : Value} {t : Nat} (h : Bop L t op u v r) (x y : Operand) : ((do eqGuard op t x y u v; binOp op t u v) : Sem Value).run P w = .ok r w := by
  cases h
  case beql hb e => cases e; have := LO.boo t (has_mem hb); simp [go_sem, Sem.run_bind, run_eql_bool w t _ _ this]
  case bneq hb e => cases e; have := LO.boo t (has_mem hb); simp [go_sem, Sem.run_bind, run_neq_bool w t _ _ this]
  case shl hb e => cases e; simp [go_sem, Sem.run_bind, binOp, Op.shift, show ¬ _ < (0 : Int) from Int.not_lt.2 hb]
  case shr hb e => cases e; simp [go_sem, Sem.run_bind, binOp, Op.shift, show ¬ _ < (0 : Int) from Int.not_lt.2 hb]
  case pnil hb => obtain ⟨e, he⟩ := LO.ptr t (has_mem hb); have hp : P.underlying t = some (.pointer (P.pointee t)) := by unfold Program.pointee; rw [he]
                  simp [go_sem, Sem.run_bind, run_eql_pointer_nil w t _ hp]
  case pnot hb => obtain ⟨e, he⟩ := LO.ptr t (has_mem hb); have hp : P.underlying t = some (.pointer (P.pointee t)) := by unfold Program.pointee; rw [he]
                  simp [go_sem, Sem.run_bind, run_neq_pointer_nil w t _ hp]
  case nnil hb => obtain ⟨e, he⟩ := LO.ptr t (has_mem hb); have hp : P.underlying t = some (.pointer (P.pointee t)) := by unfold Program.pointee; rw [he]
                  simp [go_sem, Sem.run_bind, run_eql_pointer_nil w t _ hp]
  case nnot hb => obtain ⟨e, he⟩ := LO.ptr t (has_mem hb); have hp : P.underlying t = some (.pointer (P.pointee t)) := by unfold Program.pointee; rw [he]
                  simp [go_sem, Sem.run_bind, run_neq_pointer_nil w t _ hp]
  all_goals
    (try (rename_i e; cases e))
    simp [go_sem, Sem.run_bind, binOp, Op.intCmp, Op.intArith, Op.intDiv, Op.stringOp, *]
    first | rfl | omega | skip

inductive Uop : UnOp → Value → Value → Prop
  | not {b} : Uop .not (.bool b) (.bool (!b))
  | neg {k a r} : Kn (k.wrap (0 - a)) r → Uop .neg (.int k a) (.int k r)
  | cpl {k a r} : Kn (bits .xor k (if k.signed then -1 else k.max) a) r → Uop .xor (.int k a) (.int k r)
theorem Uop.run {P : Program} {w : World} {op : UnOp} {u r : Value} (h : Uop op u r) : (Op.unary op u).run P w = .ok r w := by
  cases h <;> (try (rename_i e; cases e)) <;> first | (simp [Op.unary, Op.intArith]; done) | rfl | (unfold Op.unary Op.intBits; rfl) | (simp only [Op.unary, Op.intBits, bits]; rfl)

/-- The cells from an offset on. -/
inductive CellsAt (w : World) (b : Nat) : Nat → Nat → List Value → Prop
  | nil {o} : CellsAt w b o 0 []
  | cons {o k v vs} : Cl w ⟨b, o, none⟩ v → CellsAt w b (o + 1) k vs → CellsAt w b o (k + 1) (v :: vs)
theorem CellsAt.len {w : World} {b o k : Nat} {vs : List Value} (h : CellsAt w b o k vs) : vs.length = k := by
  induction h with
  | nil => rfl
  | cons _ _ ih => simp [ih]
theorem CellsAt.get {w : World} {b o k : Nat} {vs : List Value} (h : CellsAt w b o k vs) : ∀ j v, vs[j]? = some v → w.cell? ⟨b, o + j, none⟩ = some v := by
  induction h with
  | nil => intro j v hj; simp at hj
  | cons hc _ ih =>
    intro j v hj
    cases j with
    | zero => simp only [List.getElem?_cons_zero] at hj; rw [← hj]; exact hc.h
    | succ j => simp only [List.getElem?_cons_succ] at hj; rw [show ∀ o : Nat, o + (j + 1) = o + 1 + j from fun o => by omega]; exact ih j v hj

def kindT (L : Lay) (t : Nat) : Option Nat := bif has L.one t then some 0 else lk L.agg t
inductive Ld (w : World) : Addr → Nat → Value → Prop
  | one {a v} : Cl w a v → Ld w a 0 v
  | agg {b o k vs} : CellsAt w b o (k + 1) vs → Ld w ⟨b, o, none⟩ (k + 1) (.agg vs.toArray)

/-- A conversion. -/
inductive Cvt (P : Program) (L : Lay) (w : World) (s d : Nat) : Value → Value → Prop
  | int {q a k r} : lk L.ik d = some k → lk L.ik s = some q → Kn (k.wrap a) r → Cvt P L w s d (.int q a) (.int k r)
  | run {u v} : (∀ w', Same w w' → (convert s d u).run P w' = .ok v w') → Cvt P L w s d u v
inductive LenV (P : Program) (L : Lay) (w : World) (t : Nat) : Value → Value → Prop
  | str {s : ByteArray} : has L.str t = true → LenV P L w t (.string s) (.int .i64 s.size)
  | slice {a n c e} : lk L.sl t = some e → LenV P L w t (.slice a n c) (.int .i64 n)
  | run {u v} : (∀ w' ty, Same w w' → (Builtin.len_ #[t] ty #[u]).run P w' = .ok v w') → LenV P L w t u v
def pickV : Bool → Option Value → Option Value → Option Value
  | true, a, _ => a
  | false, _, b => b
def oeval (f : Fr) : Option Operand → Option (Option Value)
  | none => some none
  | some x => (feval f x).map some
/-- The bounds of a slice expression. -/
inductive Bnd : Nat → Option Value → Option Value → Nat → Nat → Prop
  | all {n : Nat} : Bnd n none none 0 n
  | lo {n : Nat} {k i} : 0 ≤ i → i ≤ (n : Int) → Bnd n (some (.int k i)) none i.toNat n
  | hi {n : Nat} {k j} : 0 ≤ j → j ≤ (n : Int) → Bnd n none (some (.int k j)) 0 j.toNat
  | both {n : Nat} {k k' i j} : 0 ≤ i → i ≤ j → j ≤ (n : Int) → Bnd n (some (.int k i)) (some (.int k' j)) i.toNat j.toNat
/-- .. of a slice: up to its capacity. -/
inductive BndC : Nat → Nat → Option Value → Option Value → Nat → Nat → Prop
  | all {n c : Nat} : BndC n c none none 0 n
  | lo {n c : Nat} {k i} : 0 ≤ i → i ≤ (n : Int) → BndC n c (some (.int k i)) none i.toNat n
  | hi {n c : Nat} {k j} : 0 ≤ j → j ≤ (c : Int) → BndC n c none (some (.int k j)) 0 j.toNat
  | both {n c : Nat} {k k' i j} : 0 ≤ i → i ≤ j → j ≤ (c : Int) → BndC n c (some (.int k i)) (some (.int k' j)) i.toNat j.toNat
inductive Slc (L : Lay) (t : Nat) : Value → Option Value → Option Value → Value → Prop
  | str {s : ByteArray} {x y l h} : has L.str t = true → Bnd s.size x y l h → Slc L t (.string s) x y (.string (s.extract l h))
  | sl {a : Option Addr} {n c : Nat} {x y l h e z} : lk L.sl t = some (e, z) → BndC n c x y l h → Slc L t (.slice a n c) x y (.slice (if c = l then a else a.map (·.add (l * z))) (h - l) (c - l))
  | arr {b o n e z : Nat} : lk L.ar t = some (n, e, z) → Slc L t (.pointer (some ⟨b, o, none⟩)) none none (.slice (some ⟨b, o, none⟩) n n)
inductive Idx (L : Lay) (t : Nat) : Value → Value → Value → Prop
  | str {s : ByteArray} {k i} : has L.str t = true → 0 ≤ i → i < (s.size : Int) → Idx L t (.string s) (.int k i) (.int .u8 (bt s i))
  | arr {cs : Array Value} {k i n e v} : lk L.ar t = some (n, e, 1) → has L.one e = true → 0 ≤ i → i < (n : Int) → cs[i.toNat]? = some v → Idx L t (.agg cs) (.int k i) v
inductive IdxA (L : Lay) (t : Nat) : Value → Int → Value → Prop
  | slice {b o n c : Nat} {j : Int} {e z : Nat} : lk L.sl t = some (e, z) → 0 ≤ j → j < (n : Int) → IdxA L t (.slice (some ⟨b, o, none⟩) n c) j (.pointer (some ⟨b, o + j.toNat * z, none⟩))
  | arr {b o : Nat} {j : Int} {n e z : Nat} : lk L.ar t = some (n, e, z) → 0 ≤ j → j < (n : Int) → IdxA L t (.pointer (some ⟨b, o, none⟩)) j (.pointer (some ⟨b, o + j.toNat * z, none⟩))
  | far {a : Addr} {n c : Nat} {j : Int} {e z : Nat} : lk L.sl t = some (e, z) → 0 ≤ j → j < (n : Int) → IdxA L t (.slice (some a) n c) j (.pointer (some (a.add (j.toNat * z))))
inductive Mm : Builtin → Value → Value → Value → Prop
  | max {k a b r} : Kn (if b > a then b else a) r → Mm .max (.int k a) (.int k b) (.int k r)
  | min {k a b r} : Kn (if b < a then b else a) r → Mm .min (.int k a) (.int k b) (.int k r)
def fevals (f : Fr) : List Operand → Option (List Value)
  | [] => some []
  | x :: r => (feval f x).bind fun v => (fevals f r).map fun vs => v :: vs

inductive Part (cs : Array Value) (k : Nat) : Nat → Value → Prop
  | one {v} : cs[k]? = some v → Part cs k 0 v
  | agg {z} : Part cs k (z + 1) (.agg (cs.extract k (k + z)))

def wr (cs : List Value) (o : Nat) (vs : List Value) : List Value := cs.take o ++ vs ++ cs.drop (o + vs.length)
/-- A struct's cells out of its parts. -/
def buildV (fs : List (Nat × Nat)) : List Value → List (Nat × Value) → Option (List Value)
  | zs, [] => some zs
  | zs, (i, v) :: r => (fs[i]?).bind fun p => bif Nat.beq v.cells.toList.length (match p.2 with | 0 => 1 | k + 1 => k) && Nat.ble (p.1 + v.cells.toList.length) zs.length then buildV fs (wr zs p.1 v.cells.toList) r else none
def pevals (f : Fr) : List (Nat × Operand) → Option (List (Nat × Value))
  | [] => some []
  | x :: r => (feval f x.2).bind fun v => (pevals f r).map fun vs => (x.1, v) :: vs

/-- An array's places. -/
def arrFs (n z : Nat) : List (Nat × Nat) := (List.range n).map fun i => (i * z, z + 1)
def bfs (L : Lay) (t : Nat) : Option (List (Nat × Nat)) := match lk L.st t with
  | some fs => some fs
  | none => (lk L.ar t).map fun p => arrFs p.1 p.2.2
def wantF (f : Fr) (ops : List Oper) : Option (Nat × Bool) → Option Bool
  | none => some true
  | some (j, b) => ((ops[j]?).bind (·.dst)).bind fun d => (fget f d).bind fun v => match v with | .bool c => some (c == b) | _ => some false

/-- A field's address. -/
inductive FldA : Value → Nat → Value → Prop
  | near {b o k} : FldA (.pointer (some ⟨b, o, none⟩)) k (.pointer (some ⟨b, o + k, none⟩))
  | far {a k} : FldA (.pointer (some a)) k (.pointer (some (a.add k)))
/-- What an operation yields, in every world that is the same but for draws. 'st': no Go function is called. -/
inductive Ev (P : Program) (L : Lay) (w : World) (st : Bool) (f : Fr) : Bool → Op → Value → Prop
  | skip {op} : Ev P L w st f false op undef
  | move {x v} : feval f x = some v → Ev P L w st f true (.move x) v
  | assign {x v} : feval f x = some v → Ev P L w st f true (.assign x) v
  | pick {c a b cb v} : feval f c = some (.bool cb) → pickV cb (feval f a) (feval f b) = some v → Ev P L w st f true (.pick c a b) v
  | nilCheck {x a} : feval f x = some (.pointer (some a)) → Ev P L w st f true (.nilCheck x) (.pointer (some a))
  | fieldAddr {s x i u v fs k z} : feval f x = some u → lk L.st s = some fs → fs[i]? = some (k, z) → Nat.beq z 1 = false → FldA u k v → Ev P L w st f true (.fieldAddr s x i) v
  | load {t x a k v} : feval f x = some (.pointer (some a)) → kindT L t = some k → Ld w a k v → Ev P L w st f true (.load t x) v
  | binOp {op t x y ty u v r} : feval f x = some u → feval f y = some v → Bop L t op u v r → Ev P L w st f true (.binOp op t x y ty) r
  | unOp {op t x u r} : feval f x = some u → Uop op u r → Ev P L w st f true (.unOp op t x) r
  | convert {s d x u v} : feval f x = some u → Cvt P L w s d u v → Ev P L w st f true (.convert s d x) v
  | build {t parts fs zs ps cs} : bfs L t = some fs → lk L.zero t = some zs → pevals f parts.toList = some ps → buildV fs zs ps = some cs → Ev P L w st f true (.build t parts) (.agg cs.toArray)
  | extract {x i vs v} : feval f x = some (.tuple vs) → vs[i]? = some v → Ev P L w st f true (.extract x i) v
  | field {s x i cs fs k z v} : feval f x = some (.agg cs) → lk L.st s = some fs → fs[i]? = some (k, z) → Part cs k z v → Ev P L w st f true (.field s x i) v
  | len {t x u v} : feval f x = some u → LenV P L w t u v → Ev P L w st f true (.call ⟨.builtin .len, #[x], #[t]⟩) v
  | mm {b t x y u v r} : feval f x = some u → feval f y = some v → Mm b u v r → Ev P L w st f true (.call ⟨.builtin b, #[x, y], t⟩) r
  | slice {t x lo hi u l h v} : feval f x = some u → oeval f lo = some l → oeval f hi = some h → Slc L t u l h v → Ev P L w st f true (.slice t x lo hi none) v
  | index {t x i u j v} : feval f x = some u → feval f i = some j → Idx L t u j v → Ev P L w st f true (.index t x i) v
  | indexAddr {t x i u k j v} : feval f x = some u → feval f i = some (.int k j) → IdxA L t u j v → Ev P L w st f true (.indexAddr t x i) v
  | makeFunc {fn a c us vs} : fevals f a.toList = some us → fevals f c.toList = some vs → Ev P L w st f true (.makeFunc fn a c) (.func fn us.toArray vs.toArray)
  | lookup {t m x c u y v} : feval f m = some u → feval f x = some y → (∀ w', Same w w' → (Instr.lookup t u y c).run P w' = .ok v w') → Ev P L w st f true (.lookup t m x c) v
  | call {g args ts vs v} : st = false → has L.fn g = true → fevals f args.toList = some vs → (∀ w', Same w w' → Calls P g vs.toArray w' fun e w'' => e = .returned v ∧ Same w w'') → Ev P L w st f true (.call ⟨.value (.func g), args, ts⟩) v

theorem run_isAgg {P : Program} {w : World} {t : Nat} (h : aggT P t = true) : (isAgg t).run P w = .ok true w := by
  unfold aggT at h
  simp only [isAgg, Sem.run_bind, underlying, run_program, Result.andThen_ok]
  cases hu : P.underlying t with
  | none => rw [hu] at h; cases h
  | some d =>
    rw [hu] at h
    cases d <;> simp_all
theorem run_isPlain {P : Program} {w : World} {t : Nat} (h : plainT P t = true) : (isAgg t).run P w = .ok false w := by
  unfold plainT at h
  simp only [isAgg, Sem.run_bind, underlying, run_program, Result.andThen_ok]
  cases hu : P.underlying t with
  | none => rw [hu] at h; cases h
  | some d =>
    rw [hu] at h
    cases d <;> simp_all
theorem run_sizeOf {P : Program} {w : World} {t k : Nat} (h : sizeT P t = some k) : (sizeOf t).run P w = .ok k w := by
  unfold sizeT at h
  simp only [sizeOf, typeInfo, Sem.run_bind, run_program, Result.andThen_ok]
  cases hu : P.info? t with
  | none => rw [hu] at h; cases h
  | some d =>
    rw [hu] at h
    simp only [Option.map_some, Option.some.injEq] at h
    simp [h]
theorem bt_get {s : ByteArray} {i : Int} (h0 : 0 ≤ i) (h1 : i < (s.size : Int)) : s[i.toNat]? = some (s.data.toList.getD i.toNat 0) := by
  have hl : i.toNat < s.size := by omega
  have hl' : i.toNat < s.data.size := hl
  rw [getElem?_pos s i.toNat hl]
  congr 1
  show s.data[i.toNat] = _
  rw [List.getD_eq_getElem?_getD, Array.getElem?_toList, getElem?_pos s.data i.toNat hl']
  rfl
theorem same_cell {w w' : World} (s : Same w w') (a : Addr) : w'.cell? a = w.cell? a := by unfold World.cell?; rw [s.heap]
theorem Fits.evals {f : Fr} {n : Nat} {a : Act} (h : Fits f n a) : ∀ {xs : List Operand} {vs : List Value}, fevals f xs = some vs → xs.map a.eval = vs
  | [], vs, he => by simp only [fevals, Option.some.injEq] at he; rw [← he]; rfl
  | x :: r, vs, he => by
    simp only [fevals] at he
    obtain ⟨v, hv, he⟩ := Option.bind_eq_some_iff.1 he
    obtain ⟨us, hu, he⟩ := Option.map_eq_some_iff.1 he
    rw [← he, List.map_cons, h.eval hv, h.evals hu]
theorem Fits.oeval {f : Fr} {n : Nat} {a : Act} (h : Fits f n a) {x : Option Operand} {v : Option Value} (he : oeval f x = some v) : x.map a.eval = v := by
  cases x with
  | none => exact Option.some.inj he
  | some y =>
    obtain ⟨u, hu, he⟩ := Option.map_eq_some_iff.1 he
    rw [← he, Option.map_some, h.eval hu]

theorem field_at {P : Program} {L : Lay} (LO : LayOk P L) {s : Nat} {fs : List (Nat × Nat)} (hl : lk L.st s = some fs) {i k z : Nat} (hi : fs[i]? = some (k, z)) :
    ∃ F fd, P.underlying s = some (.struct F) ∧ F[i]? = some fd ∧ fd.offset = k ∧ codeT P fd.type = some z := by
  have hst := LO.st s fs (lk_mem hl)
  unfold fieldsT at hst
  cases hu : P.underlying s with
  | none => rw [hu] at hst; cases hst
  | some d =>
    rw [hu] at hst
    cases d with
    | struct F =>
      simp only [Option.some.injEq] at hst
      have h1 := congrArg (·[i]?) hst
      simp only [List.getElem?_map, hi, Option.map_some, Array.getElem?_toList] at h1
      cases hF : F[i]? with
      | none => rw [hF] at h1; cases h1
      | some fd =>
        rw [hF] at h1
        simp only [Option.map_some, Option.some.injEq, Prod.mk.injEq] at h1
        exact ⟨F, fd, rfl, hF, h1.1, h1.2⟩
    | _ => cases hst
theorem run_sliceBounds {P : Program} {w : World} {n : Nat} {x y : Option Value} {l h : Nat} (hb : Bnd n x y l h) (b : Bool) : (Instr.sliceBounds b n n x y none).run P w = .ok (l, h, n) w := by
  cases hb with
  | all => rfl
  | lo h0 h1 => simp [Instr.sliceBounds, run_sliceBound, h0, h1]
  | hi h0 h1 => simp [Instr.sliceBounds, run_sliceBound, h0, h1]
  | @both k k' i j h0 h1 h2 =>
    have e : (0 : Int) ≤ j := by omega
    have e2 : i ≤ ((j.toNat : Nat) : Int) := by omega
    have r2 : (Instr.sliceBound (.int k i) j.toNat .sliceB).run P w = .ok i.toNat w := run_sliceBound w k i j.toNat .sliceB h0 e2
    have r1 := fun c => run_sliceBound (P := P) w k' j n c e h2
    simp [Instr.sliceBounds, r1, r2]
theorem run_sliceBoundsC {P : Program} {w : World} {n c : Nat} {x y : Option Value} {l h : Nat} (hb : BndC n c x y l h) : (Instr.sliceBounds true n c x y none).run P w = .ok (l, h, c) w := by
  cases hb with
  | all => rfl
  | lo h0 h1 => simp [Instr.sliceBounds, run_sliceBound, h0, h1]
  | hi h0 h1 => simp [Instr.sliceBounds, run_sliceBound, h0, h1]
  | @both k k' i j h0 h1 h2 =>
    have e : (0 : Int) ≤ j := by omega
    have e2 : i ≤ ((j.toNat : Nat) : Int) := by omega
    have r2 : (Instr.sliceBound (.int k i) j.toNat .sliceB).run P w = .ok i.toNat w := run_sliceBound w k i j.toNat .sliceB h0 e2
    have r1 := fun q => run_sliceBound (P := P) w k' j c q e h2
    simp [Instr.sliceBounds, r1, r2]
theorem code_plain {P : Program} {t : Nat} (h : codeT P t = some 0) : plainT P t = true ∧ sizeT P t = some 1 := by
  unfold codeT at h
  split at h
  · split at h
    · exact ⟨by assumption, by assumption⟩
    · cases h
  · split at h
    · cases hs : sizeT P t with
      | none => rw [hs] at h; cases h
      | some k => rw [hs] at h; cases h
    · cases h
theorem code_agg {P : Program} {t k : Nat} (h : codeT P t = some (k + 1)) : aggT P t = true ∧ sizeT P t = some k := by
  unfold codeT at h
  split at h
  · split at h <;> cases h
  · split at h
    · cases hs : sizeT P t with
      | none => rw [hs] at h; cases h
      | some j => rw [hs] at h; cases h; exact ⟨by assumption, rfl⟩
    · cases h
theorem code_size {P : Program} {t z : Nat} (h : codeT P t = some z) (hz : Nat.beq z 1 = false) : ∃ k, sizeT P t = some (k + 1) := by
  cases z with
  | zero => exact ⟨0, (code_plain h).2⟩
  | succ z =>
    cases z with
    | zero => cases hz
    | succ z => exact ⟨z, (code_agg h).2⟩
theorem vrun {P : Program} {w : World} {s : Sem Value} {v : Value} (h : s.run P w = .ok v w) : ((do pure (Next.value (← s))) : Sem Next).run P w = .ok (.value v) w := by simp [h]
theorem Fits.pevals {f : Fr} {n : Nat} {a : Act} (h : Fits f n a) : ∀ {xs : List (Nat × Operand)} {vs : List (Nat × Value)}, pevals f xs = some vs → xs.map (fun p => (p.1, a.eval p.2)) = vs
  | [], vs, he => by simp only [Fw.pevals, Option.some.injEq] at he; rw [← he]; rfl
  | x :: r, vs, he => by
    simp only [Fw.pevals] at he
    obtain ⟨v, hv, he⟩ := Option.bind_eq_some_iff.1 he
    obtain ⟨us, hu, he⟩ := Option.map_eq_some_iff.1 he
    rw [← he, List.map_cons, h.eval hv, h.pevals hu]
theorem take_set_succ {α : Type} : ∀ (l : List α) (n : Nat) (h : n < l.length) (v : α), (l.set n v).take (n + 1) = l.take n ++ [v]
  | [], _, h, _ => by simp at h
  | a :: r, 0, _, v => by simp
  | a :: r, n + 1, h, v => by
    simp only [List.set_cons_succ, List.take_succ_cons, List.cons_append, List.cons.injEq, true_and]
    exact take_set_succ r n (by simpa using h) v
theorem fold_wr (vs : List Value) : ∀ (k o : Nat) (cs : Array Value), o + k + vs.length ≤ cs.size → ((vs.zipIdx k).foldl (fun (cs : Array Value) (p : Value × Nat) => cs.setIfInBounds (o + p.2) p.1) cs).toList = wr cs.toList (o + k) vs := by
  induction vs with
  | nil => intro k o cs h; simp [wr]
  | cons v r ih =>
    intro k o cs h
    simp only [List.length_cons] at h
    rw [List.zipIdx_cons, List.foldl_cons]
    have := ih (k + 1) o (cs.setIfInBounds (o + k) v) (by simp; omega)
    rw [this]
    have hl : o + k < cs.toList.length := by simp; omega
    simp only [wr, Array.toList_setIfInBounds, List.length_cons]
    rw [show o + (k + 1) = (o + k) + 1 by omega, List.drop_set_of_lt (by omega), show (o + k) + 1 + r.length = (o + k) + (r.length + 1) by omega]
    rw [take_set_succ _ _ hl]
    simp
theorem fill_of {pl : Nat → Option (Nat × Nat)} {fs : List (Nat × Nat)} (hpl : ∀ i p, fs[i]? = some p → pl i = some (p.1, match p.2 with | 0 => 1 | k + 1 => k)) :
    ∀ {ps : List (Nat × Value)} {zs cs : List Value}, buildV fs zs ps = some cs → Instr.fill pl zs.toArray ps = some cs.toArray
  | [], zs, cs, h => by simp only [buildV, Option.some.injEq] at h; rw [← h]; rfl
  | (i, v) :: r, zs, cs, h => by
    simp only [buildV] at h
    obtain ⟨p, hp, h⟩ := Option.bind_eq_some_iff.1 h
    cases hc : (Nat.beq v.cells.toList.length (match p.2 with | 0 => 1 | k + 1 => k) && Nat.ble (p.1 + v.cells.toList.length) zs.length) with
    | false => rw [hc] at h; cases h
    | true =>
      rw [hc, cond_true] at h
      simp only [Bool.and_eq_true] at hc
      have h1 := Nat.eq_of_beq_eq_true hc.1
      have h2 := Nat.le_of_ble_eq_true hc.2
      simp only [Array.length_toList] at h1 h2
      have e := fold_wr v.cells.toList 0 p.1 zs.toArray (by simp; omega)
      rw [Nat.add_zero] at e
      have e2 : (v.cells.zipIdx.foldl (fun cs (x : Value × Nat) => cs.setIfInBounds (p.1 + x.2) x.1) zs.toArray) = (wr zs p.1 v.cells.toList).toArray := by
        apply Array.toList_inj.1
        rw [← Array.foldl_toList, Array.toList_zipIdx]
        exact e
      unfold Instr.fill
      simp only [hpl i p hp]
      rw [if_neg (by rw [h1]; simp; omega)]
      have := fill_of hpl h
      rw [← e2] at this
      exact this
theorem places_of {P : Program} : ∀ {F : List Field} {fs : List (Nat × Nat)}, F.map (fun f => (f.offset, codeT P f.type)) = fs.map (fun p => (p.1, some p.2)) →
    F.mapM (fun f => (P.info? f.type).map fun i => (f.offset, i.size)) = some (fs.map fun p => (p.1, match p.2 with | 0 => 1 | k + 1 => k))
  | [], [], _ => rfl
  | [], _ :: _, h => by cases h
  | _ :: _, [], h => by cases h
  | f :: F, p :: fs, h => by
    simp only [List.map_cons, List.cons.injEq, Prod.mk.injEq] at h
    obtain ⟨⟨h1, h2⟩, h3⟩ := h
    have hs : sizeT P f.type = some (match p.2 with | 0 => 1 | k + 1 => k) := by
      cases hq : p.2 with
      | zero => rw [hq] at h2; exact (code_plain h2).2
      | succ k => rw [hq] at h2; exact (code_agg h2).2
    unfold sizeT at hs
    obtain ⟨i, hi, hsz⟩ := Option.map_eq_some_iff.1 hs
    rw [List.mapM_cons, places_of h3, hi]
    simp [hsz, h1]
theorem built_of {P : Program} {L : Lay} (LO : LayOk P L) {t : Nat} {fs : List (Nat × Nat)} {zs cs : List Value} {ps : List (Nat × Value)} (hl : lk L.st t = some fs) (hz : lk L.zero t = some zs) (hb : buildV fs zs ps = some cs) : P.built t ps = some cs.toArray := by
  obtain ⟨z, hz0, hz1⟩ := LO.zero t zs (lk_mem hz)
  have hst := LO.st t fs (lk_mem hl)
  unfold zeroT at hz0
  obtain ⟨it, hi, hit⟩ := Option.bind_eq_some_iff.1 hz0
  unfold fieldsT at hst
  cases hu : P.underlying t with
  | none => rw [hu] at hst; cases hst
  | some d =>
    rw [hu] at hst
    cases d with
    | struct F =>
      simp only [Option.some.injEq] at hst
      have hp := places_of hst
      unfold Program.built
      simp only [hi, hu, hit, hp]
      rw [hz1]
      refine fill_of (fun i p h => ?_) hb
      simp [h]
    | _ => cases hst
theorem built_any {P : Program} {L : Lay} (LO : LayOk P L) {t : Nat} {fs : List (Nat × Nat)} {zs cs : List Value} {ps : List (Nat × Value)} (hl : bfs L t = some fs) (hz : lk L.zero t = some zs) (hb : buildV fs zs ps = some cs) : P.built t ps = some cs.toArray := by
  unfold bfs at hl
  cases hs : lk L.st t with
  | some gs =>
    rw [hs] at hl
    cases hl
    exact built_of LO hs hz hb
  | none =>
    rw [hs] at hl
    obtain ⟨⟨n, e, z⟩, ha, rfl⟩ := Option.map_eq_some_iff.1 hl
    obtain ⟨hu, he⟩ := LO.ar t n e z (lk_mem ha)
    obtain ⟨zv, hz0, hz1⟩ := LO.zero t zs (lk_mem hz)
    unfold zeroT at hz0
    obtain ⟨it, hi, hit⟩ := Option.bind_eq_some_iff.1 hz0
    unfold sizeT at he
    obtain ⟨ie, hie, hes⟩ := Option.map_eq_some_iff.1 he
    unfold Program.built
    simp only [hi, hu, hit, hie]
    rw [hz1, hes]
    refine fill_of (fun i p h => ?_) hb
    unfold arrFs at h
    rw [List.getElem?_map] at h
    obtain ⟨j, hj, rfl⟩ := Option.map_eq_some_iff.1 h
    obtain ⟨_, hj'⟩ := List.getElem?_eq_some_iff.1 hj
    rw [List.getElem_range] at hj'
    rw [hj']
theorem run_call {P : Program} {g : Nat} (hg : callB P g = true) {f : Fr} {n : Nat} {a : Act} (hf : Fits f n a) {args : Array Operand} {ts : Array Nat} {vs : List Value} (hv : fevals f args.toList = some vs) {o : Oper}
    (ho : o.op = .call ⟨.value (.func g), args, ts⟩) {w : World} : (execOp a.eval o).run P w = .ok (.enter g vs.toArray) w := by
  have e1 : args.map a.eval = vs.toArray := by
    have := hf.evals hv
    rw [← this, ← Array.toList_map]
  have ef : a.eval (.func g) = .func (.func g) #[] #[] := rfl
  unfold callB at hg
  cases hfn : P.funcs[g]? with
  | none => rw [hfn] at hg; cases hg
  | some fn =>
    rw [hfn] at hg
    simp only [Bool.and_eq_true, Bool.not_eq_true'] at hg
    obtain ⟨hb, hnm⟩ := hg
    have hb' : ¬ fn.body = none := by intro e; rw [e] at hb; cases hb
    have hnm' : ¬ fn.name = "runtime.NumGoroutine" := by simpa using hnm
    unfold execOp
    simp [ho, resolve, Deferred.ofValue, invoke, ef, callFunc, hfn, hnm', hb', e1]
/-- What an operation does in the machine. -/
theorem Ev.run {P : Program} {L : Lay} (LO : LayOk P L) {w : World} {st : Bool} {f : Fr} {op : Op} {v : Value} (h : Ev P L w st f true op v) {n : Nat} {a : Act} (hf : Fits f n a) {w' : World} (hs : Same w w') (o : Oper) (ho : o.op = op) :
    (execOp a.eval o).run P w' = .ok (.value v) w' ∨ (st = false ∧ ∃ g vs, (execOp a.eval o).run P w' = .ok (.enter g vs) w' ∧ Calls P g vs w' fun e w'' => e = .returned v ∧ Same w w'') := by
  cases h with
  | move hx => left; simp [execOp, ho, hf.eval hx]
  | assign hx => left; simp [execOp, ho, hf.eval hx]
  | @pick c x y cb v hc hp =>
    left
    cases cb
    · simp only [pickV] at hp; simp [execOp, ho, hf.eval hc, hf.eval hp, asBool]
    · simp only [pickV] at hp; simp [execOp, ho, hf.eval hc, hf.eval hp, asBool]
  | nilCheck hx => left; simp [execOp, ho, hf.eval hx]
  | @fieldAddr s x i u v fs k z hx hl hi hz1 hA =>
    left
    obtain ⟨F, fd, hu, hF, ho', hz⟩ := field_at LO hl hi
    obtain ⟨q, hq⟩ := code_size hz hz1
    cases hA with
    | @near b off =>
      have hp : (fieldPlace ⟨b, off, none⟩ fd).run P w' = .ok ⟨b, off + k, none⟩ w' := by
        simp [fieldPlace, run_sizeOf hq, Result.andThen, ho', Addr.add_lit]
      simp [execOp, ho, hf.eval hx, Instr.fieldAt, run_underlying hu, hF, Instr.sureAddr, hp, Result.andThen]
    | @far ad =>
      have hp : (fieldPlace ad fd).run P w' = .ok (ad.add k) w' := by
        simp [fieldPlace, run_sizeOf hq, Result.andThen, ho']
      simp [execOp, ho, hf.eval hx, Instr.fieldAt, run_underlying hu, hF, Instr.sureAddr, hp, Result.andThen]
  | @load t x ad k v hx hk hl =>
    left
    have hc := same_cell hs
    unfold kindT at hk
    cases hone : has L.one t with
    | true =>
      rw [hone, cond_true] at hk
      cases hk
      cases hl with
      | one hcell =>
        have h1 := LO.one t (has_mem hone)
        simp [execOp, ho, hf.eval hx, Instr.loadAt, Instr.sureAddr, loadVar, run_isPlain h1.1, Result.andThen, run_load, hc, hcell.h]
    | false =>
      rw [hone, cond_false] at hk
      have h1 := LO.agg t k (lk_mem hk)
      cases hl with
      | one hcell => exact absurd h1.2.2 (by omega)
      | @agg b o k vs hcells =>
        have hrun : (loadCells ⟨b, o, none⟩ (k + 1)).run P w' = .ok vs.toArray w' := by
          have := run_loadCells_list (P := P) w' ⟨b, o, none⟩ vs (fun j v hj => by rw [Addr.add_lit, hc]; exact hcells.get j v hj)
          rw [hcells.len] at this
          exact this
        simp [execOp, ho, hf.eval hx, Instr.loadAt, Instr.sureAddr, loadVar, run_isAgg h1.1, run_sizeOf h1.2.1, Result.andThen, hrun]
  | binOp hx hy hb =>
    left
    simp only [execOp, ho, hf.eval hx, hf.eval hy]
    exact vrun (hb.run LO _ _)
  | unOp hx hu => left; simp [execOp, ho, hf.eval hx, hu.run, Result.andThen]
  | @convert s d x u v hx hc =>
    left
    cases hc with
    | @int q z k r h1 h2 e =>
      cases e
      simp only [execOp, ho, hf.eval hx]
      refine vrun ?_
      simp [Go.convert, run_underlying (LO.ik _ _ (lk_mem h1)), run_underlying (LO.ik _ _ (lk_mem h2)), Conv.intToInt]
    | run hr => simp [execOp, ho, hf.eval hx, hr w' hs, Result.andThen]
  | @build t parts fs zs ps cs hl hz hp hb =>
    left
    have e1 : (parts.map fun p => (p.1, a.eval p.2)).toList = ps := by rw [Array.toList_map]; exact hf.pevals hp
    have hr := run_build (P := P) w' t (parts.map fun p => (p.1, a.eval p.2)) cs.toArray (by rw [e1]; exact built_any LO hl hz hb)
    simp only [execOp, ho]
    exact vrun hr
  | extract hx hi => left; simp [execOp, ho, hf.eval hx, Instr.extract, hi]
  | @field s x i cs fs k z v hx hl hi hc =>
    left
    obtain ⟨F, fd, hu, hF, ho', hz⟩ := field_at LO hl hi
    simp only [execOp, ho, hf.eval hx]
    refine vrun ?_
    cases hc with
    | one hc =>
      have h1 := code_plain hz
      simp [Instr.field, run_underlying hu, hF, part, asAgg, run_isPlain h1.1, ho', hc, Result.andThen]
    | agg =>
      have h1 := code_agg hz
      simp [Instr.field, run_underlying hu, hF, part, asAgg, run_isAgg h1.1, run_sizeOf h1.2, ho', Result.andThen]
  | @len t x u v hx hl =>
    left
    cases hl with
    | str h1 =>
      have hu := LO.str t (has_mem h1)
      simp [execOp, ho, resolve, invoke, builtin, hf.eval hx, Builtin.len_, run_underlying hu, goInt, Result.andThen]
    | @slice b n c e h1 =>
      obtain ⟨hu, hz⟩ := LO.sl t e.1 e.2 (lk_mem h1)
      simp [execOp, ho, resolve, invoke, builtin, hf.eval hx, Builtin.len_, run_underlying hu, goInt, Result.andThen]
    | run hr => simp [execOp, ho, resolve, invoke, builtin, hf.eval hx, hr w' o.type hs, Result.andThen]
  | @mm b t x y u v r hx hy hm =>
    left
    cases hm with
    | max e => cases e; simp [execOp, ho, resolve, invoke, builtin, hf.eval hx, hf.eval hy, run_max_int2, Result.andThen]
    | min e => cases e; simp [execOp, ho, resolve, invoke, builtin, hf.eval hx, hf.eval hy, run_min_int2, Result.andThen]
  | @slice t x lo hi u l h v hx hl hh hs =>
    left
    cases hs with
    | str h1 hb =>
      have hu := LO.str t (has_mem h1)
      simp only [execOp, ho, hf.eval hx, hf.oeval hl, hf.oeval hh]
      refine vrun ?_
      simp [Instr.sliceAt, Instr.slice, run_underlying hu, run_sliceBounds hb]
    | @sl a0 n0 c0 x0 y0 l0 h0 e0 z0 h1 hb =>
      obtain ⟨hu, hz⟩ := LO.sl t e0 z0 (lk_mem h1)
      simp only [execOp, ho, hf.eval hx, hf.oeval hl, hf.oeval hh]
      refine vrun ?_
      simp [Instr.sliceAt, Instr.slice, run_underlying hu, run_sizeOf hz, run_sliceBoundsC hb]
    | @arr b0 o0 n0 e0 z0 h1 =>
      obtain ⟨hu, hz⟩ := LO.ar t n0 e0 z0 (lk_mem h1)
      simp only [execOp, ho, hf.eval hx, hf.oeval hl, hf.oeval hh]
      refine vrun ?_
      simp [Instr.sliceAt, Instr.sureAddr, Instr.sliceBounds, run_underlying hu, run_sizeOf hz, Addr.add]
  | @index t x i u j v hx hi hv =>
    left
    cases hv with
    | @str s k q h2 h0 h1 =>
      have hu := LO.str t (has_mem h2)
      simp [execOp, ho, hf.eval hx, hf.eval hi, Instr.index, asIntOf, run_underlying hu, h0, bt_get h0 h1, bt, Result.andThen]
    | @arr cs q j n e z hl he h0 h1 hc =>
      obtain ⟨hu, hz⟩ := LO.ar t n e 1 (lk_mem hl)
      have h2 := LO.one e (has_mem he)
      simp [execOp, ho, hf.eval hx, hf.eval hi, Instr.index, asIntOf, run_underlying hu, run_sizeOf hz, h0, h1, part, run_isPlain h2.1, hc, Result.andThen]
  | @indexAddr t x i u k j v hx hi hix =>
    left
    cases hix with
    | @slice b o n c j e z hl h0 h1 =>
      obtain ⟨hu, hz⟩ := LO.sl t e z (lk_mem hl)
      simp [execOp, ho, hf.eval hx, hf.eval hi, Instr.indexAt, asIntOf, run_underlying hu, run_sizeOf hz, h0, h1, Result.andThen, Addr.add_lit]
    | @far x n c j e z hl h0 h1 =>
      obtain ⟨hu, hz⟩ := LO.sl t e z (lk_mem hl)
      simp [execOp, ho, hf.eval hx, hf.eval hi, Instr.indexAt, asIntOf, run_underlying hu, run_sizeOf hz, h0, h1, Result.andThen]
    | @arr b o j n e z hl h0 h1 =>
      obtain ⟨hu, hz⟩ := LO.ar t n e z (lk_mem hl)
      simp [execOp, ho, hf.eval hx, hf.eval hi, Instr.indexAt, Instr.sureAddr, asIntOf, run_underlying hu, run_sizeOf hz, h0, h1, Result.andThen, Addr.add_lit]
  | @makeFunc fn x c us vs hx hc =>
    left
    have e1 : x.map a.eval = us.toArray := by rw [← hf.evals hx, ← Array.toList_map]
    have e2 : c.map a.eval = vs.toArray := by rw [← hf.evals hc, ← Array.toList_map]
    simp [execOp, ho, Instr.makeFunc, e1, e2]
  | lookup hx hi hr => left; simp [execOp, ho, hf.eval hx, hf.eval hi, hr w' hs, Result.andThen]
  | @call g args ts vs v hst hg hv hc =>
    right
    refine ⟨hst, g, vs.toArray, ?_, hc w' hs⟩
    exact run_call (LO.fn g (has_mem hg)) hf hv ho
/-- Pieces of code walked so: each operation's value is laid in front. -/
inductive Run (P : Program) (L : Lay) (w : World) (st : Bool) (n : Nat) (ops : List Oper) : List Oper → Fr → Fr → Prop
  | nil {f} : Run P L w st n ops [] f f
  | cons {o l f f' b d v} : wantF f ops o.guard = some b → Ev P L w st f b o.op v → o.dst = some d → Nat.blt d n = true → Run P L w st n ops l ((d, v) :: f) f' → Run P L w st n ops (o :: l) f f'
def boolOf : Value → Option Bool
  | .bool b => some b
  | _ => none
theorem wanted_of {f : Fr} {n : Nat} {a : Act} (h : Fits f n a) {ops : List Oper} {o : Oper} {b : Bool} (hw : wantF f ops o.guard = some b) : Region.wanted o (yielded ops.toArray a.tmps) = b := by
  unfold Region.wanted
  cases hg : o.guard with
  | none => rw [hg] at hw; exact Option.some.inj hw
  | some p =>
    obtain ⟨j, c⟩ := p
    rw [hg] at hw
    simp only [wantF] at hw
    obtain ⟨d, hd, hw⟩ := Option.bind_eq_some_iff.1 hw
    obtain ⟨v, hv, hw⟩ := Option.bind_eq_some_iff.1 hw
    have h1 := h.holds d v hv
    have h2 : yielded ops.toArray a.tmps j = boolOf v := by
      unfold yielded
      rw [List.getElem?_toArray, hd, Option.bind_some]
      rw [Array.getD_eq_getD_getElem?] at h1
      cases ht : a.tmps[d]? with
      | none => rw [ht] at h1; rw [← h1]; rfl
      | some u => rw [ht] at h1; rw [← h1]; cases u <;> rfl
    simp only [h2]
    cases v <;> simp only [Option.some.injEq] at hw <;> rw [← hw] <;> simp [boolOf]
theorem Ev.quiet {P : Program} {L : Lay} (LO : LayOk P L) {w : World} {st : Bool} {f : Fr} {o : Oper} {v : Value} (h : Ev P L w st f true o.op v) {n : Nat} {a : Act} (hf : Fits f n a) {w' : World} (hs : Same w w') : o.quietAt P a (Same w) w' v := by
  unfold Oper.quietAt
  rcases h.run LO hf hs o rfl with h1 | ⟨_, g, vs, h1, h2⟩
  · rw [h1]; exact ⟨rfl, rfl⟩
  · rw [h1]; exact ⟨rfl, h2⟩
theorem Ev.skipv {P : Program} {L : Lay} {w : World} {st : Bool} {f : Fr} {op : Op} {v : Value} (h : Ev P L w st f false op v) : v = undef := by cases h; rfl
theorem Run.quiet {P : Program} {L : Lay} (LO : LayOk P L) {w : World} {st : Bool} {n : Nat} {ops l : List Oper} {f f' : Fr} (h : Run P L w st n ops l f f') :
    ∀ (Q : Act → Prop), (∀ a, Fits f' n a → Q a) → ∀ a, Fits f n a → wpQuiet P ops.toArray (Same w) Q l a := by
  induction h with
  | nil => intro Q hQ a hf; exact hQ a hf
  | @cons o l f f' b d v hw he hd hn _ ih =>
    intro Q hQ a hf
    unfold wpQuiet
    rw [wanted_of hf hw]
    cases b with
    | true => rw [if_pos rfl]; exact ⟨v, fun w' hs => he.quiet LO hf hs, by rw [hd]; exact ih Q hQ _ (hf.put hn v)⟩
    | false => rw [if_neg Bool.false_ne_true, hd, ← he.skipv]; exact ih Q hQ _ (hf.put hn v)
theorem Run.still {P : Program} {L : Lay} (LO : LayOk P L) {w : World} {n : Nat} {ops l : List Oper} {f f' : Fr} (h : Run P L w true n ops l f f') {W : World} (hs : Same w W) :
    ∀ (Q : Act → Prop), (∀ a, Fits f' n a → Q a) → ∀ a, Fits f n a → wpStill P ops.toArray W Q l a := by
  induction h with
  | nil => intro Q hQ a hf; exact hQ a hf
  | @cons o l f f' b d v hw he hd hn _ ih =>
    intro Q hQ a hf
    unfold wpStill
    rw [wanted_of hf hw]
    cases b with
    | true =>
      rw [if_pos rfl]
      unfold Oper.still
      rcases he.run LO hf hs o rfl with h1 | ⟨h0, _⟩
      · rw [h1]; exact ⟨rfl, by rw [hd]; exact ih Q hQ _ (hf.put hn v)⟩
      · cases h0
    | false => rw [if_neg Bool.false_ne_true, hd, ← he.skipv]; exact ih Q hQ _ (hf.put hn v)
theorem Run.list {P : Program} {L : Lay} (LO : LayOk P L) {w : World} {st : Bool} {n : Nat} {ops l rest : List Oper} {f f' : Fr} {Q : Exit → Act → World → Prop} (h : Run P L w st n ops l f f')
    (hQ : ∀ a w', Fits f' n a → Same w w' → wpList P ops.toArray Q rest a w') : ∀ a w', Fits f n a → Same w w' → wpList P ops.toArray Q (l ++ rest) a w' := by
  induction h with
  | nil => intro a w' hf hs; exact hQ a w' hf hs
  | @cons o l f f' b d v hw he hd hn _ ih =>
    intro a w' hf hs
    rw [List.cons_append]
    refine wpList_step fun K hK => ?_
    rw [wanted_of hf hw]
    cases b with
    | true =>
      rw [if_pos rfl]
      refine Oper.wp_of_quiet (C := Same w) hs (K := fun a' => Fits ((d, v) :: f) n a') (fun a' w'' hs' hf' => hK _ _ (ih hQ a' w'' hf' hs')) ⟨v, fun w'' hs' => he.quiet LO hf hs', by rw [hd]; exact hf.put hn v⟩
    | false => rw [if_neg Bool.false_ne_true, hd, ← he.skipv]; exact hK _ _ (ih hQ _ w' (hf.put hn v) hs)

/-! ### Rules for code -/
section
variable {P : Program} {L : Lay} {n : Nat} {f : Fr} {w : World} {Q : Exit → Act → World → Prop}
def W (P : Program) (n : Nat) (c : Code) (f : Fr) (w : World) (Q : Exit → Act → World → Prop) : Prop := ∀ a, Fits f n a → c.wp P Q a w
def N (n : Nat) (f : Fr) (w : World) (Q : Exit → Act → World → Prop) (e : Exit) : Prop := ∀ a, Fits f n a → Q e a w
def Ls (P : Program) (n : Nat) (ops : List Oper) (l : List Oper) (f : Fr) (w : World) (Q : Exit → Act → World → Prop) : Prop := ∀ a, Fits f n a → wpList P ops.toArray Q l a w

theorem W.seq {x y : Code} (h : W P n x f w (Exit.then (fun a w => y.wp P Q a w) Q)) : W P n (.seq x y) f w Q := fun a hf => wp_seq (h a hf)
theorem N.to {y : Code} {Q' : Exit → Act → World → Prop} (h : W P n y f w Q) : N n f w (Exit.then (fun a w => y.wp P Q a w) Q') .normal := h
theorem W.weak {c : Code} {g : Fr} (h : W P n c g w Q) (hs : Sub g f) : W P n c f w Q := fun a hf => h a (hf.sub hs)
theorem W.keep {c : Code} (ks : List Nat) (h : ∀ g, g = pick ks f → W P n c g w Q) : W P n c f w Q := (h _ rfl).weak (pick_sub ks f)
theorem Ls.keep {ops l : List Oper} (ks : List Nat) (h : ∀ g, g = pick ks f → Ls P n ops l g w Q) : Ls P n ops l f w Q := fun a hf => h _ rfl a (hf.sub (pick_sub ks f))
theorem N.keep {e : Exit} (ks : List Nat) (h : ∀ g, g = pick ks f → N n g w Q e) : N n f w Q e := fun a hf => h _ rfl a (hf.sub (pick_sub ks f))
theorem W.cond {c : Operand} {x y : Code} {b : Bool} (hc : feval f c = some (.bool b)) (ht : b = true → W P n x f w Q) (he : b = false → W P n y f w Q) : W P n (.cond c x y) f w Q := fun a hf => by
  cases b
  · exact wp_cond (hf.eval hc) (he rfl a hf)
  · exact wp_cond (hf.eval hc) (ht rfl a hf)
theorem W.block {id : Nat} {c : Code} (h : W P n c f w (Exit.inBlock id Q)) : W P n (.block id c) f w Q := fun a hf => wp_block (h a hf)
theorem W.skip (h : N n f w Q .normal) : W P n .skip f w Q := fun a hf => wp_skip (h a hf)
theorem W.exit {id : Nat} (h : N n f w Q (.exit id)) : W P n (.exit id) f w Q := fun a hf => wp_exit (h a hf)
theorem W.ret (h : N n f w Q .ret) : W P n .ret f w Q := fun a hf => wp_ret (h a hf)
theorem W.label {l : Nat} (h : N n f w Q .normal) : W P n (.label l) f w Q := fun a hf => wp_label (h a hf)
/-- A loop: an invariant with a number that falls. -/
theorem W.loop {c : Code} (I : Nat → World → Fr → Prop) (k0 : Nat) (f0 : Fr) (h0 : I k0 w f0) (hs : Sub f0 f)
    (round : ∀ k w g, I k w g → W P n c g w (Exit.then (fun a' w' => ∃ k' g', k' < k ∧ I k' w' g' ∧ Fits g' n a') Q)) : W P n (.loop c) f w Q := fun a hf => by
  refine wp_loop_ghost (fun k a w => ∃ g, I k w g ∧ Fits g n a) k0 ⟨f0, h0, hf.sub hs⟩ ?_
  rintro k a w ⟨g, hI, hg⟩
  refine wp_mono (round k w g hI a hg) ?_
  intro e a' w' hq
  cases e with
  | normal => obtain ⟨k', g', h1, h2, h3⟩ := hq; exact ⟨k', h1, g', h2, h3⟩
  | exit id => exact hq
  | goto l => exact hq
  | ret => exact hq
  | panic ch => exact hq
  | outgrown => exact hq
theorem N.round {I : Nat → World → Fr → Prop} {k : Nat} (k' : Nat) (g : Fr) (hk : k' < k) (hI : I k' w g) (hs : Sub g f) : N n f w (Exit.then (fun a' w' => ∃ k' g', k' < k ∧ I k' w' g' ∧ Fits g' n a') Q) .normal := fun a hf => ⟨k', g, hk, hI, hf.sub hs⟩

/-- A region that only reads. -/
theorem W.read (LO : LayOk P L) (hm : P.follows .mixedOrders = true) {id : Nat} {ops : List Oper} {b : Bool} {f' : Fr} (hB : (!b || Region.lexB .any ops.toArray) = true) (hr : Run P L w false n ops ops f f')
    (h : ∀ w', Same w w' → N n f' w' Q .normal) : W P n (.region id ops.toArray b) f w Q := fun a hf => by
  cases b with
  | false =>
    refine wp_region_list ?_
    have := hr.list LO (Q := Q) (rest := []) (fun a' w' hf' hs' => wpList_nil (h w' hs' a' hf')) a w hf ⟨rfl, rfl, rfl, rfl⟩
    rw [List.append_nil] at this
    exact this
  | true =>
    refine wp_region_quiet (C := Same w) hm hB ⟨rfl, rfl, rfl, rfl⟩ ?_
    exact hr.quiet LO _ (fun a' hf' w' hs' => h w' hs' a' hf') a hf
/-- .. and what follows; of the frame what is named stays. -/
theorem W.readS (LO : LayOk P L) (hm : P.follows .mixedOrders = true) (ks : List Nat) {id : Nat} {ops : List Oper} {b : Bool} {f' : Fr} {y : Code} (hB : (!b || Region.lexB .any ops.toArray) = true) (hr : Run P L w false n ops ops f f')
    (h : ∀ w' g, Same w w' → g = pick ks f' → W P n y g w' Q) : W P n (.seq (.region id ops.toArray b) y) f w Q :=
  W.seq (W.read LO hm hB hr fun w' hs => N.to ((h w' _ hs rfl).weak (pick_sub ks f')))
/-- .. at the end of a sequence. -/
theorem W.readN (LO : LayOk P L) (hm : P.follows .mixedOrders = true) (ks : List Nat) {id : Nat} {ops : List Oper} {b : Bool} {f' : Fr} (hB : (!b || Region.lexB .any ops.toArray) = true) (hr : Run P L w false n ops ops f f')
    (h : ∀ w' g, Same w w' → g = pick ks f' → N n g w' Q .normal) : W P n (.region id ops.toArray b) f w Q := W.read LO hm hB hr fun w' hs a hf => h w' _ hs rfl a (hf.sub (pick_sub ks f'))
/-- A region that draws its order and whose last operations do what they do. -/
theorem W.tail (LO : LayOk P L) (hm : P.follows .mixedOrders = true) {id : Nat} {ops : List Oper} {f' : Fr} (k : Nat) (hB : Region.lexTailB .any ops.toArray k = true) (hr : Run P L w true n ops (ops.take k) f f')
    (h : ∀ w', Same w w' → Ls P n ops (ops.drop k) f' w' Q) : W P n (.region id ops.toArray true) f w Q := fun a hf => by
  refine wp_region_still_tail k hm hB ?_
  exact hr.still LO (W := { w with drawn := w.drawn + 1 }) ⟨rfl, rfl, rfl, rfl⟩ _ (fun a' hf' => h { w with drawn := w.drawn + 1 } ⟨rfl, rfl, rfl, rfl⟩ a' hf') a hf
theorem W.tailK (LO : LayOk P L) (hm : P.follows .mixedOrders = true) (ks : List Nat) {id : Nat} {ops : List Oper} {f' : Fr} (k : Nat) (hB : Region.lexTailB .any ops.toArray k = true) (hr : Run P L w true n ops (ops.take k) f f')
    (h : ∀ w' g, Same w w' → g = pick ks f' → Ls P n ops (ops.drop k) g w' Q) : W P n (.region id ops.toArray true) f w Q := W.tail LO hm k hB hr fun w' hs a hf => h w' _ hs rfl a (hf.sub (pick_sub ks f'))
/-- A region in the text's order. -/
theorem W.list {id : Nat} {ops : List Oper} (h : Ls P n ops ops f w Q) : W P n (.region id ops.toArray false) f w Q := fun a hf => wp_region_list (h a hf)
theorem Ls.run (LO : LayOk P L) {ops l : List Oper} {f' : Fr} (k : Nat) (hr : Run P L w false n ops (l.take k) f f') (h : ∀ w', Same w w' → Ls P n ops (l.drop k) f' w' Q) : Ls P n ops l f w Q := fun a hf => by
  have := hr.list LO (Q := Q) (rest := l.drop k) (fun a' w' hf' hs' => h w' hs' a' hf') a w hf ⟨rfl, rfl, rfl, rfl⟩
  rw [List.take_append_drop] at this
  exact this
theorem Ls.runK (LO : LayOk P L) (ks : List Nat) {ops l : List Oper} {f' : Fr} (k : Nat) (hr : Run P L w false n ops (l.take k) f f') (h : ∀ w' g, Same w w' → g = pick ks f' → Ls P n ops (l.drop k) g w' Q) : Ls P n ops l f w Q :=
  Ls.run LO k hr fun w' hs a hf => h w' _ hs rfl a (hf.sub (pick_sub ks f'))
theorem Ls.nil {ops : List Oper} (h : N n f w Q .normal) : Ls P n ops [] f w Q := fun a hf => wpList_nil (h a hf)
/-- An operation by a law of its own. -/
theorem Ls.op {ops l : List Oper} {o : Oper} (h : ∀ a, Fits f n a → wpList P ops.toArray Q (o :: l) a w) : Ls P n ops (o :: l) f w Q := h
def sizeL (L : Lay) (t : Nat) : Option Nat := bif has L.one t then some 1 else lk L.agg t
theorem sizeL_ok (LO : LayOk P L) {t k : Nat} (h : sizeL L t = some k) : sizeT P t = some k := by
  unfold sizeL at h
  cases ho : has L.one t with
  | true => rw [ho, cond_true] at h; rw [← h]; exact (LO.one t (has_mem ho)).2
  | false => rw [ho, cond_false] at h; exact (LO.agg t k (lk_mem h)).2.1
theorem Ls.call (LO : LayOk P L) {ops l : List Oper} {o : Oper} {g : Nat} {args : Array Operand} {ts : Array Nat} {vs : List Value} {R : Ending → World → Prop} (hop : o.op = .call ⟨.value (.func g), args, ts⟩) (hw : wantF f ops o.guard = some true)
    (hg : has L.fn g = true) {d : Nat} (hd : o.dst = some d) (hdn : Nat.blt d n = true) (hv : fevals f args.toList = some vs)
    (hc : Calls P g vs.toArray w R) (h : ∀ e w', R e w' → ∃ v, e = .returned v ∧ Ls P n ops l ((d, v) :: f) w' Q) : Ls P n ops (o :: l) f w Q := fun a hf => by
  refine wpList_step fun K hK => ?_
  rw [wanted_of hf hw, if_pos rfl]
  unfold Oper.wp
  rw [run_call (LO.fn g (has_mem hg)) hf hv hop]
  refine hc.mono fun e w' hR => ?_
  obtain ⟨v, rfl, hl⟩ := h e w' hR
  rw [hd]
  exact hK _ _ (hl _ (hf.put hdn v))
/-- A call of a function's value. -/
theorem Ls.callF (LO : LayOk P L) {ops l : List Oper} {o : Oper} {x : Operand} {g : Nat} {args : Array Operand} {ts : Array Nat} {cap : Array Value} {vs : List Value} {R : Ending → World → Prop} (hop : o.op = .call ⟨.value x, args, ts⟩) (hw : wantF f ops o.guard = some true)
    (hx : feval f x = some (.func (.func g) #[] cap)) (hg : has L.fn g = true) {d : Nat} (hd : o.dst = some d) (hdn : Nat.blt d n = true) (hv : fevals f args.toList = some vs)
    (hc : Calls P g (vs.toArray ++ cap) w R) (h : ∀ e w', R e w' → ∃ v, e = .returned v ∧ Ls P n ops l ((d, v) :: f) w' Q) : Ls P n ops (o :: l) f w Q := fun a hf => by
  refine wpList_step fun K hK => ?_
  rw [wanted_of hf hw, if_pos rfl]
  unfold Oper.wp
  have e1 : args.map a.eval = vs.toArray := by rw [← hf.evals hv, ← Array.toList_map]
  have hrun : (execOp a.eval o).run P w = .ok (.enter g (vs.toArray ++ cap)) w := by
    have hcb := LO.fn g (has_mem hg)
    unfold callB at hcb
    cases hfn : P.funcs[g]? with
    | none => rw [hfn] at hcb; cases hcb
    | some fn =>
      rw [hfn] at hcb
      simp only [Bool.and_eq_true, Bool.not_eq_true'] at hcb
      obtain ⟨hb, hnm⟩ := hcb
      have hb' : ¬ fn.body = none := by intro e; rw [e] at hb; cases hb
      have hnm' : ¬ fn.name = "runtime.NumGoroutine" := by simpa using hnm
      unfold execOp
      simp [hop, resolve, Deferred.ofValue, invoke, hf.eval hx, callFunc, hfn, hnm', hb', e1]
  rw [hrun]
  refine hc.mono fun e w' hR => ?_
  obtain ⟨v, rfl, hl⟩ := h e w' hR
  rw [hd]
  exact hK _ _ (hl _ (hf.put hdn v))
/-- A store. -/
theorem Ls.store (LO : LayOk P L) {ops l : List Oper} {o : Oper} {t : Nat} {x y : Operand} (hop : o.op = .store t x y) (hgd : o.guard = none) (hdst : o.dst = none) {b i : Nat} (hx : feval f x = some (.pointer (some ⟨b, i, none⟩))) {v : Value} (hy : feval f y = some v)
    {vs : List Value} (hv : v.cells = vs.toArray) (hz : sizeL L t = some vs.length) (h1 : vs.all (fun u => u.oneCell') = true) {cs : List Value} {T : Nat} (hc : w.heap[b]? = some (.cells cs.toArray T (0, 0))) (hl : Nat.ble (i + vs.length) cs.length = true)
    (h : ∀ w', w'.heap[b]? = some (.cells (wr cs i vs).toArray T (0, 0)) → Mv (· = b) w w' → w'.heap.size = w.heap.size → Ls P n ops l f w' Q) : Ls P n ops (o :: l) f w Q := fun a hf => by
  refine wpList_plain hgd fun K hK => ?_
  unfold Oper.wp
  have hs := sizeL_ok LO hz
  have hrun := run_storeCells_at (P := P) b i T vs 0 cs.toArray w hc (by simpa using Nat.le_of_ble_eq_true hl) (fun u hu => List.all_eq_true.1 h1 u hu)
  have : (execOp a.eval o).run P w = .ok .skip (w.setRow b (wr cs i vs).toArray) := by
    simp [execOp, hop, hf.eval hx, hf.eval hy, Instr.storeAt, Instr.sureAddr, storeVar, run_sizeOf hs, hv, Result.andThen, hrun, wr]
  rw [this, Oper.upon_skip, hdst]
  exact hK _ _ (h _ (setRow_heap w b _ _ T _ hc) ⟨rfl, rfl, rfl, by rw [size_setRow]; exact Nat.le_refl _, fun k _ hk => setRow_other w b k _ hk⟩ (size_setRow _ _ _) a (hf.none undef))
/-- A new variable. -/
theorem Ls.alloc (LO : LayOk P L) {ops l : List Oper} {o : Oper} {t : Nat} (hop : o.op = .alloc t) (hgd : o.guard = none) {d : Nat} (hd : o.dst = some d) (hdn : Nat.blt d n = true) {zs : List Value} (hz : lk L.zero t = some zs)
    (h : Ls P n ops l ((d, .pointer (some ⟨w.heap.size, 0, none⟩)) :: f) (w.alloc (.cells zs.toArray t)) Q) : Ls P n ops (o :: l) f w Q := fun a hf => by
  refine wpList_plain hgd fun K hK => ?_
  unfold Oper.wp
  obtain ⟨z, hz0, hz2⟩ := LO.zero t zs (lk_mem hz)
  have hz1 := run_zero hz0 w
  have : (execOp a.eval o).run P w = .ok (.value (.pointer (some ⟨w.heap.size, 0, none⟩))) (w.alloc (.cells zs.toArray t)) := by
    simp [execOp, hop, Instr.alloc, hz1, newVar, newRow, hz2, Result.andThen]
  rw [this, Oper.upon_value, hd]
  exact hK _ _ (h _ (hf.put hdn _))
/-- A value in a new variable. -/
theorem Ls.box {ops l : List Oper} {o : Oper} {t : Nat} {x : Operand} (hop : o.op = .box t x) (hgd : o.guard = none) {d : Nat} (hd : o.dst = some d) (hdn : Nat.blt d n = true) {v : Value} (hx : feval f x = some v) {vs : List Value} (hv : v.cells = vs.toArray)
    (h : Ls P n ops l ((d, .pointer (some ⟨w.heap.size, 0, none⟩)) :: f) (w.alloc (.cells vs.toArray t)) Q) : Ls P n ops (o :: l) f w Q := fun a hf => by
  refine wpList_plain hgd fun K hK => ?_
  unfold Oper.wp
  have : (execOp a.eval o).run P w = .ok (.value (.pointer (some ⟨w.heap.size, 0, none⟩))) (w.alloc (.cells vs.toArray t)) := by
    simp [execOp, hop, hf.eval hx, Instr.box, newVar, newRow, hv, Result.andThen]
  rw [this, Oper.upon_value, hd]
  exact hK _ _ (h _ (hf.put hdn _))
/-- 'make([]T, n)', T of one cell. -/
theorem Ls.makeSlice {ops l : List Oper} {o : Oper} {t e : Nat} {x : Operand} (hop : o.op = .makeSlice t x x) (hgd : o.guard = none) {d : Nat} (hd : o.dst = some d) (hdn : Nat.blt d n = true) {k : IntKind} {m : Nat} (hx : feval f x = some (.int k (m : Int)))
    {z : Value} {bytes : Nat} (ht : P.underlying t = some (.slice e)) (hinfo : (P.info? e).map (fun i => (i.zero, i.size, i.bytes)) = some (some z, 1, bytes)) (hz1 : z.cells = #[z]) (hm : bytes * m ≤ 281474976710656) (hm' : m ≤ 9223372036854775807)
    (h : Ls P n ops l ((d, .slice (some ⟨w.heap.size, 0, none⟩) m m) :: f) (w.alloc (.cells (List.replicate m z).toArray e)) Q) : Ls P n ops (o :: l) f w Q := fun a hf => by
  refine wpList_plain hgd fun K hK => ?_
  unfold Oper.wp
  have h1 := run_make_row' (P := P) t e z bytes ht hinfo hz1 k k m hm hm' w
  have e1 : madeCells #[z] m = (List.replicate m z).toArray := by
    apply Array.ext_getElem?
    intro i
    unfold madeCells
    simp [Array.getElem?_range]
    by_cases hi : i < m <;> simp [hi, Nat.mod_one]
  have : (execOp a.eval o).run P w = .ok (.value (.slice (some ⟨w.heap.size, 0, none⟩) m m)) (w.alloc (.cells (List.replicate m z).toArray e)) := by
    simp [execOp, hop, hf.eval hx, h1, e1, Result.andThen]
  rw [this, Oper.upon_value, hd]
  exact hK _ _ (h _ (hf.put hdn _))
/-- 'string(b)' of a row of bytes. -/
theorem conv_bytes {s e d : Nat} (hs : P.underlying s = some (.slice e)) (he : P.underlying e = some (.int .u8)) (hd : P.underlying d = some .string) {b m c : Nat} {xs : List Int} {T : Nat} {fr : Nat × Nat} (hb : w.heap[b]? = some (.cells (xs.map (Value.int .u8)).toArray T fr)) (hm : xs.length = m) :
    ∀ w', Same w w' → (convert s d (.slice (some ⟨b, 0, none⟩) m c)).run P w' = .ok (.string (strOfNums xs)) w' := fun w' hsm => by
  refine run_convert_bytes_arg w' s e hs he b 0 m c xs hm (fun i hi => ?_) d hd
  unfold World.cell?
  rw [hsm.heap, hb]
  have : i < xs.length := by omega
  simp [List.getD, this]
/-- A function's contract by its body. -/
def argsF : List Value → Nat → Fr
  | [], _ => []
  | v :: r, i => (i, v) :: argsF r (i + 1)
theorem argsF_get {vs : List Value} {k i : Nat} {v : Value} (h : fget (argsF vs k) i = some v) : k ≤ i ∧ vs[i - k]? = some v := by
  induction vs generalizing k with
  | nil => cases h
  | cons u r ih =>
    simp only [argsF, fget] at h
    cases hb : Nat.beq k i with
    | true =>
      rw [hb, cond_true] at h
      have := Nat.eq_of_beq_eq_true hb
      subst this
      exact ⟨Nat.le_refl _, by simpa using h⟩
    | false =>
      rw [hb, cond_false] at h
      obtain ⟨h1, h2⟩ := ih h
      refine ⟨by omega, ?_⟩
      rw [show i - k = (i - (k + 1)) + 1 by omega, List.getElem?_cons_succ]
      exact h2
theorem calls_W {g : Nat} {fn : Func} {c : Code} {vs : List Value} {R : Ending → World → Prop} (hf : P.funcs[g]? = some fn) (hb : fn.body = some c) (hn : fn.ntmps = n) (ha : Nat.ble vs.length n = true)
    (h : W P n c (argsF vs 0) w (bodyPost P fn R)) : Calls P g vs.toArray w R := by
  have ha' : vs.length ≤ n := Nat.le_of_ble_eq_true ha
  refine calls_of_wp hf hb (h _ ⟨by simp [hn]; omega, rfl, fun i v hi => ?_⟩)
  obtain ⟨_, h2⟩ := argsF_get hi
  rw [Nat.sub_zero] at h2
  have hl : i < vs.length := (List.getElem?_eq_some_iff.1 h2).1
  rw [Array.getD_eq_getD_getElem?, Array.getElem?_append_left (by simpa using hl), List.getElem?_toArray, h2]
  rfl
/-- What a function hands back. -/
inductive ResL (L : Lay) (f : Fr) (w : World) : List ResultVar → List Value → Prop
  | nil : ResL L f w [] []
  | tmp {t v r vs} : fget f t = some v → ResL L f w r vs → ResL L f w (.tmp t :: r) (v :: vs)
  | cell {a t ad k v r vs} : fget f a = some (.pointer (some ad)) → kindT L t = some k → Ld w ad k v → ResL L f w r vs → ResL L f w (.cell a t :: r) (v :: vs)
theorem run_ld (LO : LayOk P L) {t k : Nat} {ad : Addr} {v : Value} (hk : kindT L t = some k) (hl : Ld w ad k v) : (loadVar t ad).run P w = .ok v w := by
  unfold kindT at hk
  cases hone : has L.one t with
  | true =>
    rw [hone, cond_true] at hk
    cases hk
    cases hl with
    | one hcell =>
      have h1 := LO.one t (has_mem hone)
      simp [loadVar, run_isPlain h1.1, Result.andThen, run_load, hcell.h]
  | false =>
    rw [hone, cond_false] at hk
    have h1 := LO.agg t k (lk_mem hk)
    cases hl with
    | one hcell => exact absurd h1.2.2 (by omega)
    | @agg b o k vs hcells =>
      have hrun : (loadCells ⟨b, o, none⟩ (k + 1)).run P w = .ok vs.toArray w := by
        have := run_loadCells_list (P := P) w ⟨b, o, none⟩ vs (fun j v hj => by rw [Addr.add_lit]; exact hcells.get j v hj)
        rw [hcells.len] at this
        exact this
      simp [loadVar, run_isAgg h1.1, run_sizeOf h1.2.1, Result.andThen, hrun]
def resOf (a : Act) : ResultVar → Sem Value
  | .tmp t => pure (a.tmps.getD t undef)
  | .cell c t => do loadVar t (← asAddr (a.tmps.getD c undef))
theorem run_resL (LO : LayOk P L) {a : Act} (hf : Fits f n a) {rs : List ResultVar} {vs : List Value} (h : ResL L f w rs vs) : (rs.mapM (resOf a)).run P w = .ok vs w := by
  induction h with
  | nil => simp
  | tmp h1 h2 ih =>
    rw [List.mapM_cons]
    simp only [Sem.run_bind, Sem.run_pure, resOf, hf.holds _ _ h1, Result.andThen_ok, ih]
  | cell h1 h2 h3 h4 ih =>
    rw [List.mapM_cons]
    simp only [Sem.run_bind, resOf, hf.holds _ _ h1, asAddr, Sem.run_pure, Result.andThen_ok, run_ld LO h2 h3, ih]
def resV (vs : List Value) : Value := match vs with | [v] => v | _ => .tuple vs.toArray
theorem post (LO : LayOk P L) {fn : Func} {R : Ending → World → Prop} {rs : List ResultVar} (hr : fn.results = rs.toArray) {vs : List Value} (hv : ResL L f w rs vs) (h : R (.returned (resV vs)) w) : N n f w (bodyPost P fn R) .ret := fun a hf => by
  refine bodyPost_ret (v := resV vs) ?_ hf.nodefer h
  have h1 := run_resL LO hf hv
  have e : results fn a.tmps = ((fn.results.mapM (resOf a)) >>= fun us => pure (if h : us.size = 1 then us[0] else .tuple us)) := by
    unfold results
    congr 2
  rw [e, hr, Array.mapM_eq_mapM_toList]
  simp only [Sem.run_bind, Sem.run_map, h1, Result.andThen_ok, Sem.run_pure]
  congr 1
  match vs with
  | [] => rfl
  | [v] => rfl
  | u :: v :: r => simp [resV]
/-- Where ways meet. -/
theorem W.cutS {x y : Code} (R : World → Fr → Prop) (h1 : W P n x f w (Exit.then (fun a' w' => ∃ g, R w' g ∧ Fits g n a') Q)) (h2 : ∀ w' g, R w' g → W P n y g w' Q) : W P n (.seq x y) f w Q := fun a hf => by
  refine wp_seq (wp_mono (h1 a hf) ?_)
  intro e a' w' hq
  cases e with
  | normal => obtain ⟨g, hR, hg⟩ := hq; exact h2 w' g hR a' hg
  | exit id => exact hq
  | goto l => exact hq
  | ret => exact hq
  | panic ch => exact hq
  | outgrown => exact hq
theorem N.cut {R : World → Fr → Prop} {g : Fr} (hR : R w g) (hs : Sub g f) : N n f w (Exit.then (fun a' w' => ∃ g, R w' g ∧ Fits g n a') Q) .normal := fun a hf => ⟨g, hR, hf.sub hs⟩
theorem N.inb {id : Nat} (h : N n f w Q .normal) : N n f w (Exit.inBlock id Q) .normal := h
theorem N.thenE {K : Act → World → Prop} {id : Nat} (h : N n f w Q (.exit id)) : N n f w (Exit.then K Q) (.exit id) := h
theorem N.thenR {K : Act → World → Prop} (h : N n f w Q .ret) : N n f w (Exit.then K Q) .ret := h
theorem N.inbR {id : Nat} (h : N n f w Q .ret) : N n f w (Exit.inBlock id Q) .ret := h
theorem N.out {id : Nat} (h : N n f w Q .normal) : N n f w (Exit.inBlock id Q) (.exit id) := fun a hf => by
  show (if id = id then _ else _)
  rw [if_pos rfl]
  exact h a hf
theorem N.pass {id i : Nat} (hi : Nat.beq i id = false) (h : N n f w Q (.exit i)) : N n f w (Exit.inBlock id Q) (.exit i) := fun a hf => by
  show (if i = id then _ else _)
  rw [if_neg (fun e => by rw [e, Nat.beq_refl] at hi; cases hi)]
  exact h a hf
theorem Sub.rfl' (f : Fr) : Sub f f := fun _ _ h => h
end
end Go.Proofs.Ytbidgeaigiijpaa.Fw
