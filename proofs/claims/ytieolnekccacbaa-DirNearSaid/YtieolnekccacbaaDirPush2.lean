/- What is proved: what 'Push' answers and leaves. Conditions: those that stand in each theorem. -/
import Derived.Test.YtieolnekccacbaaDirRel
import Derived.Test.YtieolnekccacbaaFwLay
import Derived.Test.YtieolnekccacbaaFwMap
namespace Go.Proofs.Ytieolnekccacbaa
set_option linter.unusedVariables false
set_option linter.unusedSimpArgs false
set_option linter.unusedSectionVars false
open Go.RowKit Go.Maps Go.MapKept Go.ChangeMaps Fw
/-- What came of a push. -/
structure GotV where
  kind : Int
  from_ : Int
  data : ByteArray
  fin : Bool

def gotVal (g : GotV) : Value := .agg #[.int .i64 g.kind, .int .i64 g.from_, .string g.data, .bool g.fin]

/-- New bytes are laid beside what is held. -/
def ins (l : List (Int × Int)) (off : Int) (s : List UInt8) (pl : Int) : List (Int × Int) :=
  match s with
  | [] => l
  | c :: r => ins (if l.lookup off = none ∧ pl ≤ off then l ++ [(off, (c.toNat : Int))] else l) (off + 1) r pl

/-- What is left of a segment whose end is known. -/
def DS.trim (d : DS) (off en : Int) (s : ByteArray) (fin : Bool) : Int × ByteArray × Bool :=
  if d.fin < 0 then (en, s, fin) else if en ≤ d.fin then (en, s, fin && decide (en = d.fin)) else (max d.fin off, s.extract 0 (max d.fin off - off).toNat, false)

/-- What goes in, goes on, comes out: behind the tests of its length. -/
def DS.push2 (d : DS) (off en : Int) (s : ByteArray) (fin : Bool) : DS × GotV :=
  let d1 : DS := if fin = true ∧ d.fin < 0 ∧ d.pl ≤ en ∧ far d.held en = false then { d with fin := en } else d
  let d2 : DS := { d1 with held := ins d1.held off s.data.toList d1.pl }
  let out := strOfNums (rel d2.held.length d2.pl d2.held d2.fin).2.2
  let d3 := d2.rels
  let last := decide (d3.pl = d3.fin) && !d3.done
  let d4 : DS := { d3 with done := d3.done || last }
  (d4, if out.size ≠ 0 ∨ last = true then ⟨1, d.pl, out, last⟩ else if d4.pl < en then ⟨4, 0, ⟨#[]⟩, false⟩ else if 0 ≤ off ∧ d4.pl - d4.hist ≤ off then
    ⟨2, off, d4.last.extract (off - (d4.pl - d4.last.size)).toNat (en - (d4.pl - d4.last.size)).toNat, fin && d4.done && decide (en = d4.fin)⟩ else ⟨3, 0, ⟨#[]⟩, false⟩)

def DS.push (d : DS) (n : Int) (s : ByteArray) (fin : Bool) : DS × GotV :=
  if s.size = 0 ∧ fin = false then (d, ⟨0, 0, ⟨#[]⟩, false⟩) else
  if d.pl + d.buffer < (d.trim (plc d.start n d.pl) (plc d.start n d.pl + s.size) s fin).1 then (d, ⟨5, 0, ⟨#[]⟩, false⟩) else
  d.push2 (plc d.start n d.pl) (d.trim (plc d.start n d.pl) (plc d.start n d.pl + s.size) s fin).1 (d.trim (plc d.start n d.pl) (plc d.start n d.pl + s.size) s fin).2.1 (d.trim (plc d.start n d.pl) (plc d.start n d.pl + s.size) s fin).2.2

def PushPost (p m : Nat) (r : DS × GotV) (w : World) (e : Ending) (w' : World) : Prop :=
  e = .returned (gotVal r.2) ∧ DirAt w' p m r.1 ∧ Mv (fun k => k = p ∨ k = m) w w'

theorem same_of {P : Program} {g : Nat} {args : Array Value} {v : Value} {w : World} (h : ∀ w, Calls P g args w fun e w' => e = .returned v ∧ w' = w) : ∀ w', Same w w' → Calls P g args w' fun e w'' => e = .returned v ∧ Same w w'' :=
  fun w' hs => (h w').mono fun e w'' ⟨he, hw⟩ => ⟨he, by rw [hw]; exact hs⟩

/-- The code behind the first test. -/
def sndC : Code → Code
  | .seq _ y => y
  | c => c
def bodyC (fn : Func) : Code := fn.body.getD .skip
noncomputable def cRest : Code := sndC (sndC (sndC (sndC (bodyC Try.f12))))
theorem empty_of {s : ByteArray} (h : s.size = 0) : s = ⟨#[]⟩ := by
  cases s with
  | mk a => have : a = #[] := Array.eq_empty_of_size_eq_zero h
            rw [this]
theorem isEmpty_of {s : ByteArray} (h : ¬ s.size = 0) : (s.toList == (⟨#[]⟩ : ByteArray).toList) = false := by
  rw [beq_eq_false_iff_ne]
  intro e
  rw [ByteArray.toList_eq, ByteArray.toList_eq] at e
  apply h
  show s.data.size = 0
  rw [← Array.length_toList, e]
  rfl
theorem isEmpty_em : ((⟨#[]⟩ : ByteArray).toList == (⟨#[]⟩ : ByteArray).toList) = true := beq_self_eq_true _
theorem DBlk.cls {w : World} {p m : Nat} {d : DS} (h : DBlk w p m d) :
    Cl w ⟨p, 0, none⟩ (.int .u32 d.start) ∧ Cl w ⟨p, 1, none⟩ (.int .i64 d.buffer) ∧ Cl w ⟨p, 2, none⟩ (.int .i64 d.hist) ∧ Cl w ⟨p, 3, none⟩ (.int .i64 d.pl) ∧
    Cl w ⟨p, 4, none⟩ (.map (some m)) ∧ Cl w ⟨p, 5, none⟩ (.string d.last) ∧ Cl w ⟨p, 6, none⟩ (.int .i64 d.fin) ∧ Cl w ⟨p, 7, none⟩ (.bool d.done) := by
  obtain ⟨c0, c1, c2, c3, c4, c5, c6, c7⟩ := h.cells
  exact ⟨⟨c0⟩, ⟨c1⟩, ⟨c2⟩, ⟨c3⟩, ⟨c4⟩, ⟨c5⟩, ⟨c6⟩, ⟨c7⟩⟩
/-- A result's block. -/
def GBlk (w : World) (r : Nat) (g : GotV) : Prop := w.heap[r]? = some (.cells #[.int .i64 g.kind, .int .i64 g.from_, .string g.data, .bool g.fin] 28 (0, 0))
theorem GBlk.moved {S : Nat → Prop} {w w' : World} {r : Nat} {g : GotV} (h : GBlk w r g) (m : Mv S w w') (hs : ¬ S r) : GBlk w' r g := (m.block r (Array.getElem?_eq_some_iff.1 h).1 hs).trans h
theorem GBlk.same {w w' : World} {r : Nat} {g : GotV} (h : GBlk w r g) (s : Same w w') : GBlk w' r g := by unfold GBlk; rw [s.heap]; exact h
theorem GBlk.cells {w : World} {r : Nat} {g : GotV} (h : GBlk w r g) : w.cell? ⟨r, 0, none⟩ = some (.int .i64 g.kind) ∧ w.cell? ⟨r, 1, none⟩ = some (.int .i64 g.from_) ∧ w.cell? ⟨r, 2, none⟩ = some (.string g.data) ∧ w.cell? ⟨r, 3, none⟩ = some (.bool g.fin) := by
  unfold GBlk at h
  refine ⟨?_, ?_, ?_, ?_⟩ <;> (unfold World.cell?; rw [h]; rfl)
def g0 : GotV := ⟨0, 0, ⟨#[]⟩, false⟩
/-- What stands behind a way out: the result lies in its block. -/
theorem push_ret {p m r : Nat} {x : DS × GotV} {w w' : World} {f : Fr} (hd : DirAt w' p m x.1) (hm : Mv (fun k => k = p ∨ k = m) w w') (hg : GBlk w' r x.2) (h8 : fget f 8 = some (.pointer (some ⟨r, 0, none⟩))) :
    N 252 f w' (bodyPost Try.prog Try.f12 (PushPost p m x w)) .ret := by
  obtain ⟨g0, g1, g2, g3⟩ := hg.cells
  have g0 := Cl.mk g0
  have g1 := Cl.mk g1
  have g2 := Cl.mk g2
  have g3 := Cl.mk g3
  refine post LO (rs := [.cell 8 28]) rfl (vs := [gotVal x.2]) (.cell h8 rfl (.agg (k := 3) ?_) .nil) ⟨rfl, hd, hm⟩
  exact .cons g0 (.cons g1 (.cons g2 (.cons g3 .nil)))

/-- The piece up to the segment's cut. -/
def PAt (p m r : Nat) (d : DS) (w w' : World) : Prop := DirAt w' p m d ∧ Mv (fun k => k = p ∨ k = m) w w' ∧ GBlk w' r g0 ∧ p ≠ r ∧ m ≠ r ∧ w.heap.size ≤ r
theorem PAt.same {p m r : Nat} {d : DS} {w w' w'' : World} (h : PAt p m r d w w') (s : Same w' w'') : PAt p m r d w w'' := ⟨h.1.same s, h.2.1.same s, h.2.2.1.same s, h.2.2.2⟩
theorem PAt.give {p m r : Nat} {x : DS × GotV} {w w' w'' : World} {f : Fr} (h : PAt p m r x.1 w w') (hb : w''.heap[r]? = some (.cells #[.int .i64 x.2.kind, .int .i64 x.2.from_, .string x.2.data, .bool x.2.fin] 28 (0, 0))) (hm : Mv (· = r) w' w'') (h8 : fget f 8 = some (.pointer (some ⟨r, 0, none⟩))) :
    N 252 f w'' (bodyPost Try.prog Try.f12 (PushPost p m x w)) .ret :=
  push_ret (h.1.moved hm h.2.2.2.1 h.2.2.2.2.1) (h.2.1.cut hm (fun i hi e => by have := h.2.2.2.2.2; omega)) hb h8
def sl (p r : Nat) (s : ByteArray) (fin : Bool) (off en : Int) : Fr := [(0, .pointer (some ⟨p, 0, none⟩)), (2, .string s), (3, .bool fin), (8, .pointer (some ⟨r, 0, none⟩)), (9, .int .i64 off), (10, .int .i64 en)]

/-- What bounds a stream's memory. -/
structure Room (d : DS) (n : Nat) : Prop where
  held : d.held.length + n ≤ 1000000
  h0 : 0 ≤ d.hist
  h1 : d.hist ≤ 1024
  last : (d.last.size : Int) = min d.hist d.pl
theorem Room.mono {d : DS} {n n' : Nat} (h : Room d n) (hn : n' ≤ n) : Room d n' := ⟨by have := h.held; omega, h.h0, h.h1, h.last⟩
theorem ins_len (s : List UInt8) : ∀ (l : List (Int × Int)) (off pl : Int), (ins l off s pl).length ≤ l.length + s.length := by
  induction s with
  | nil => intro l off pl; simp [ins]
  | cons c r ih =>
    intro l off pl
    simp only [ins]
    refine Nat.le_trans (ih _ _ _) ?_
    split <;> simp <;> omega
theorem PAt.set {p m r : Nat} {d d' : DS} {w w' w'' : World} (h : PAt p m r d w w') (hb : DBlk w'' p m d') (hh : d'.held = d.held) (hm : Mv (· = p) w' w'') : PAt p m r d' w w'' :=
  ⟨⟨hb, by rw [hh]; exact h.1.map.moved hm (Ne.symm h.1.ne)⟩, h.2.1.cut hm (fun i _ e => .inl e), h.2.2.1.moved hm (Ne.symm h.2.2.2.1), h.2.2.2⟩
theorem PAt.mset {p m r : Nat} {d d' : DS} {w w' w'' : World} (h : PAt p m r d w w') (hb : DBlk w' p m d → DBlk w'' p m d') (hM : HM w'' m d'.held) (hm : Mv (· = m) w' w'') : PAt p m r d' w w'' :=
  ⟨⟨hb h.1.blk, hM⟩, h.2.1.cut hm (fun i _ e => .inr e), h.2.2.1.moved hm (Ne.symm h.2.2.2.2.1), h.2.2.2⟩
theorem PAt.non {p m r : Nat} {d : DS} {w w' w'' : World} (h : PAt p m r d w w') (hm : Mv (fun _ => False) w' w'') : PAt p m r d w w'' :=
  ⟨h.1.moved hm (fun e => e) (fun e => e), h.2.1.cut hm (fun i _ e => e.elim), h.2.2.1.moved hm (fun e => e), h.2.2.2⟩
noncomputable def cRest3 : Code := sndC (sndC cRest)
noncomputable def cRest4 : Code := sndC cRest3
theorem rel_le (n : Nat) : ∀ (pl : Int) (l : List (Int × Int)) (fin : Int), pl ≤ (rel n pl l fin).1 ∧ (rel n pl l fin).1 ≤ pl + n := by
  induction n with
  | zero => intro pl l fin; simp [rel]
  | succ n ih =>
    intro pl l fin
    simp only [rel]
    split
    · simp; omega
    · split
      · simp; omega
      · have := ih (pl + 1) (l.filter (fun q => q.1 != pl)) fin
        simp only
        omega
theorem rel_len (n : Nat) : ∀ (pl : Int) (l : List (Int × Int)) (fin : Int), ((rel n pl l fin).2.2.length : Int) = (rel n pl l fin).1 - pl := by
  induction n with
  | zero => intro pl l fin; simp [rel]
  | succ n ih =>
    intro pl l fin
    simp only [rel]
    split
    · simp
    · split
      · simp
      · have := ih (pl + 1) (l.filter (fun q => q.1 != pl)) fin
        simp only [List.length_cons]
        omega
/-- The answer, once what there is has been released. -/
def ans (d d3 : DS) (off en : Int) (fin : Bool) (out : ByteArray) : GotV :=
  let last := decide (d3.pl = d3.fin) && !d3.done
  let d4 : DS := { d3 with done := d3.done || last }
  if out.size ≠ 0 ∨ last = true then ⟨1, d.pl, out, last⟩ else if d4.pl < en then ⟨4, 0, ⟨#[]⟩, false⟩ else if 0 ≤ off ∧ d4.pl - d4.hist ≤ off then
    ⟨2, off, d4.last.extract (off - (d4.pl - d4.last.size)).toNat (en - (d4.pl - d4.last.size)).toNat, fin && d4.done && decide (en = d4.fin)⟩ else ⟨3, 0, ⟨#[]⟩, false⟩
noncomputable def cRest5 : Code := sndC cRest4
noncomputable def cRest6 : Code := sndC (sndC cRest5)
noncomputable def cRest7 : Code := sndC (sndC cRest6)
def sl2 (p r : Nat) (fin : Bool) (off en pl : Int) (out : ByteArray) : Fr := [(0, .pointer (some ⟨p, 0, none⟩)), (3, .bool fin), (8, .pointer (some ⟨r, 0, none⟩)), (9, .int .i64 off), (10, .int .i64 en), (14, .int .i64 pl), (15, .string out)]
set_option maxRecDepth 100000 in
set_option maxHeartbeats 4000000 in
theorem push_w7 (p m r : Nat) (d d4 : DS) (fin : Bool) (off en : Int) (out : ByteArray) (last : Bool) (w w1 : World) (hP : PAt p m r d4 w w1) (ho0 : -2147483648 ≤ off) (ho1 : off ≤ 1101659111424) (h0 : 0 ≤ d.pl) (h1 : d.pl ≤ 1099511627776 + 1000000) (n : Nat) (hen : en = off + n)
    (hge : d.pl ≤ d4.pl) (hle : d4.pl ≤ 1099511627776 + 1000000) (hlast : (d4.last.size : Int) = min d4.hist d4.pl) (hh0 : 0 ≤ d4.hist) (hh1 : d4.hist ≤ 1024) (hn : n ≤ 1000000) :
    W Try.prog 252 cRest7 ((16, .bool last) :: sl2 p r fin off en d.pl out) w1 (bodyPost Try.prog Try.f12 (PushPost p m (d4, if out.size ≠ 0 ∨ last = true then ⟨1, d.pl, out, last⟩ else if d4.pl < en then ⟨4, 0, ⟨#[]⟩, false⟩ else if 0 ≤ off ∧ d4.pl - d4.hist ≤ off then
    ⟨2, off, d4.last.extract (off - (d4.pl - d4.last.size)).toNat (en - (d4.pl - d4.last.size)).toNat, fin && d4.done && decide (en = d4.fin)⟩ else ⟨3, 0, ⟨#[]⟩, false⟩) w)) := by
  by_cases hnew : out.size ≠ 0 ∨ last = true
  · rw [if_pos hnew]
    refine W.cutS (fun _ _ => False) ?_ (fun _ _ h => h.elim)
    refine W.block ?_
    refine W.cutS (fun w' g => PAt p m r d4 w w' ∧ g = (179, .bool true) :: (16, .bool last) :: sl2 p r fin off en d.pl out) ?_ ?_
    · by_cases ho : out.size = 0
      · have hl : last = true := by
          rcases hnew with h | h
          · exact absurd ho h
          · exact h
        subst hl
        obtain rfl := empty_of ho
        have he := Kn.of isEmpty_em
        apply W.readN LO mixed [179, 16, 0, 3, 8, 9, 10, 14, 15] (by kernel_rfl)
        · repeat' (first | rfl | with_reducible assumption | assumption | constructor)
        intro w4 f4 s4 hf4
        replace hf4 : f4 = [(179, _), (16, _), (0, _), (3, _), (8, _), (9, _), (10, _), (14, _), (15, _)] := hf4
        subst hf4
        exact N.cut ⟨hP.same s4, rfl⟩ (sub_keys rfl)
      · have he := Kn.of (isEmpty_of ho)
        apply W.readN LO mixed [179, 16, 0, 3, 8, 9, 10, 14, 15] (by kernel_rfl)
        · repeat' (first | rfl | with_reducible assumption | assumption | constructor)
        intro w4 f4 s4 hf4
        replace hf4 : f4 = [(179, _), (16, _), (0, _), (3, _), (8, _), (9, _), (10, _), (14, _), (15, _)] := hf4
        subst hf4
        exact N.cut ⟨hP.same s4, rfl⟩ (sub_keys rfl)
    · rintro w2 _ ⟨hP, rfl⟩
      refine W.cond (b := true) rfl (fun _ => ?_) (fun h => by cases h)
      refine W.seq (W.list ?_)
      apply Ls.runK LO [8, 188] 4
      · repeat' (first | rfl | with_reducible assumption | assumption | constructor)
      intro w5 f5 s5 hf5
      replace hf5 : f5 = [(8, _), (188, _)] := hf5
      subst hf5
      have hP := hP.same s5
      refine Ls.store LO rfl rfl rfl rfl rfl (vs := [.int .i64 1, .int .i64 d.pl, .string out, .bool last]) rfl rfl rfl hP.2.2.1 rfl ?_
      intro w6 hb hm _
      refine Ls.nil (N.to (W.ret ?_))
      exact N.inbR (N.thenR (PAt.give (x := (d4, ⟨1, d.pl, out, last⟩)) hP hb hm rfl))
  · rw [if_neg hnew]
    have ho : out.size = 0 := by
      apply Classical.byContradiction
      intro h
      exact hnew (.inl h)
    have hl : last = false := by
      cases last with
      | true => exact absurd (.inr rfl) hnew
      | false => rfl
    subst hl
    obtain rfl := empty_of ho
    have he := Kn.of isEmpty_em
    obtain ⟨c0, c1, c2, c3, c4, c5, c6, c7⟩ := hP.1.blk.cls
    have hne : ((off + (n : Int)) == d4.fin) = decide (off + (n : Int) = d4.fin) := rfl
    by_cases hheld : d4.pl < en
    · rw [if_pos hheld]
      have k1 : Kn (decide (d4.pl < en)) true := .yes hheld
      refine W.cutS (fun _ _ => False) ?_ (fun _ _ h => h.elim)
      refine W.block ?_
      apply W.readS LO mixed [179, 0, 3, 8, 9, 10] (by kernel_rfl)
      · repeat' (first | rfl | with_reducible assumption | assumption | constructor)
      intro w4 f4 s4 hf4
      replace hf4 : f4 = [(179, _), (0, _), (3, _), (8, _), (9, _), (10, _)] := hf4
      subst hf4
      have hP := hP.same s4
      obtain ⟨c0, c1, c2, c3, c4, c5, c6, c7⟩ := hP.1.blk.cls
      refine W.cond (b := false) rfl (fun h => by cases h) (fun _ => ?_)
      apply W.readS LO mixed [189, 8] (by kernel_rfl)
      · repeat' (first | rfl | with_reducible assumption | assumption | constructor)
      intro w5 f5 s5 hf5
      replace hf5 : f5 = [(189, _), (8, _)] := hf5
      subst hf5
      have hP := hP.same s5
      refine W.cond (b := true) rfl (fun _ => ?_) (fun h => by cases h)
      refine W.seq (W.list ?_)
      apply Ls.runK LO [8, 196] 1
      · repeat' (first | rfl | with_reducible assumption | assumption | constructor)
      intro w6 f6 s6 hf6
      replace hf6 : f6 = [(8, _), (196, _)] := hf6
      subst hf6
      have hP := hP.same s6
      refine Ls.store LO rfl rfl rfl rfl rfl (vs := [.int .i64 4, .int .i64 0, .string ⟨#[]⟩, .bool false]) rfl rfl rfl hP.2.2.1 rfl ?_
      intro w7 hb hm _
      refine Ls.nil (N.to (W.ret ?_))
      exact N.inbR (N.thenR (PAt.give (x := (d4, ⟨4, 0, ⟨#[]⟩, false⟩)) hP hb hm rfl))
    · rw [if_neg hheld]
      have k1 : Kn (decide (d4.pl < en)) false := .no hheld
      have k2 : Kn (IntKind.i64.wrap (d4.pl - d4.hist)) (d4.pl - d4.hist) := .of (IntWalk.i64_in _ (by omega))
      by_cases hold : 0 ≤ off ∧ d4.pl - d4.hist ≤ off
      · rw [if_pos hold]
        have k3 : Kn (decide (0 ≤ off)) true := .yes hold.1
        have k4 : Kn (decide (d4.pl - d4.hist ≤ off)) true := .yes hold.2
        refine W.cutS (fun _ _ => False) ?_ (fun _ _ h => h.elim)
        refine W.block ?_
        apply W.readS LO mixed [179, 0, 3, 8, 9, 10] (by kernel_rfl)
        · repeat' (first | rfl | with_reducible assumption | assumption | constructor)
        intro w4 f4 s4 hf4
        replace hf4 : f4 = [(179, _), (0, _), (3, _), (8, _), (9, _), (10, _)] := hf4
        subst hf4
        have hP := hP.same s4
        obtain ⟨c0, c1, c2, c3, c4, c5, c6, c7⟩ := hP.1.blk.cls
        refine W.cond (b := false) rfl (fun h => by cases h) (fun _ => ?_)
        apply W.readS LO mixed [189, 0, 3, 8, 9, 10] (by kernel_rfl)
        · repeat' (first | rfl | with_reducible assumption | assumption | constructor)
        intro w5 f5 s5 hf5
        replace hf5 : f5 = [(189, _), (0, _), (3, _), (8, _), (9, _), (10, _)] := hf5
        subst hf5
        have hP := hP.same s5
        obtain ⟨c0, c1, c2, c3, c4, c5, c6, c7⟩ := hP.1.blk.cls
        refine W.cond (b := false) rfl (fun h => by cases h) (fun _ => ?_)
        apply W.readS LO mixed [197, 0, 3, 8, 9, 10] (by kernel_rfl)
        · repeat' (first | rfl | with_reducible assumption | assumption | constructor)
        intro w6 f6 s6 hf6
        replace hf6 : f6 = [(197, _), (0, _), (3, _), (8, _), (9, _), (10, _)] := hf6
        subst hf6
        have hP := hP.same s6
        obtain ⟨c0, c1, c2, c3, c4, c5, c6, c7⟩ := hP.1.blk.cls
        refine W.cond (b := true) rfl (fun _ => ?_) (fun h => by cases h)
        obtain ⟨base, hbase⟩ : ∃ base, base = d4.pl - (d4.last.size : Int) := ⟨_, rfl⟩
        have k5 : Kn (IntKind.i64.wrap (d4.pl - (d4.last.size : Int))) base := .of (by rw [IntWalk.i64_in _ (by omega), hbase])
        apply W.readS LO mixed [0, 3, 8, 9, 10, 17] (by kernel_rfl)
        · repeat' (first | rfl | with_reducible assumption | assumption | constructor)
        intro w7 f7 s7 hf7
        replace hf7 : f7 = [(0, _), (3, _), (8, _), (9, _), (10, _), (17, _)] := hf7
        subst hf7
        have hP := hP.same s7
        obtain ⟨c0, c1, c2, c3, c4, c5, c6, c7⟩ := hP.1.blk.cls
        have k6 : Kn (IntKind.i64.wrap (off - base)) (off - base) := .of (IntWalk.i64_in _ (by omega))
        have k7 : Kn (IntKind.i64.wrap (en - base)) (en - base) := .of (IntWalk.i64_in _ (by omega))
        have l1 : 0 ≤ off - base := by omega
        have l2 : off - base ≤ en - base := by omega
        have l3 : en - base ≤ (d4.last.size : Int) := by omega
        rw [← hbase]
        have hft : fin = true ∨ fin = false := by cases fin <;> simp
        have hdt : d4.done = true ∨ d4.done = false := by cases d4.done <;> simp
        refine W.seq ?_
        rcases hft with rfl | rfl
        · rcases hdt with hdt | hdt
          · rw [hdt] at c7
            apply W.tailK LO mixed [8, 250] 28 (by kernel_rfl)
            · repeat' (first | rfl | with_reducible assumption | assumption | constructor)
            intro w8 f8 s8 hf8
            replace hf8 : f8 = [(8, _), (250, _)] := hf8
            subst hf8
            have hP := hP.same s8
            refine Ls.store LO rfl rfl rfl rfl rfl (vs := [.int .i64 2, .int .i64 off, .string (d4.last.extract (off - base).toNat (en - base).toNat), .bool (en == d4.fin)]) rfl rfl rfl hP.2.2.1 rfl ?_
            intro w9 hb hm _
            refine Ls.nil (N.to (W.ret ?_))
            rw [hdt]
            exact N.inbR (N.thenR (PAt.give (x := (d4, ⟨2, off, _, _⟩)) hP hb hm rfl))
          · rw [hdt] at c7
            apply W.tailK LO mixed [8, 250] 28 (by kernel_rfl)
            · repeat' (first | rfl | with_reducible assumption | assumption | constructor)
            intro w8 f8 s8 hf8
            replace hf8 : f8 = [(8, _), (250, _)] := hf8
            subst hf8
            have hP := hP.same s8
            refine Ls.store LO rfl rfl rfl rfl rfl (vs := [.int .i64 2, .int .i64 off, .string (d4.last.extract (off - base).toNat (en - base).toNat), .bool false]) rfl rfl rfl hP.2.2.1 rfl ?_
            intro w9 hb hm _
            refine Ls.nil (N.to (W.ret ?_))
            rw [hdt]
            exact N.inbR (N.thenR (PAt.give (x := (d4, ⟨2, off, _, _⟩)) hP hb hm rfl))
        ·
          apply W.tailK LO mixed [8, 250] 28 (by kernel_rfl)
          · repeat' (first | rfl | with_reducible assumption | assumption | constructor)
          intro w8 f8 s8 hf8
          replace hf8 : f8 = [(8, _), (250, _)] := hf8
          subst hf8
          have hP := hP.same s8
          refine Ls.store LO rfl rfl rfl rfl rfl (vs := [.int .i64 2, .int .i64 off, .string (d4.last.extract (off - base).toNat (en - base).toNat), .bool false]) rfl rfl rfl hP.2.2.1 rfl ?_
          intro w9 hb hm _
          refine Ls.nil (N.to (W.ret ?_))
          exact N.inbR (N.thenR (PAt.give (x := (d4, ⟨2, off, _, _⟩)) hP hb hm rfl))
      · rw [if_neg hold]
        refine W.cutS (fun w' g => PAt p m r d4 w w' ∧ g = [(8, .pointer (some ⟨r, 0, none⟩))]) ?_ ?_
        · refine W.block ?_
          apply W.readS LO mixed [179, 0, 3, 8, 9, 10] (by kernel_rfl)
          · repeat' (first | rfl | with_reducible assumption | assumption | constructor)
          intro w4 f4 s4 hf4
          replace hf4 : f4 = [(179, _), (0, _), (3, _), (8, _), (9, _), (10, _)] := hf4
          subst hf4
          have hP := hP.same s4
          obtain ⟨c0, c1, c2, c3, c4, c5, c6, c7⟩ := hP.1.blk.cls
          refine W.cond (b := false) rfl (fun h => by cases h) (fun _ => ?_)
          apply W.readS LO mixed [189, 0, 3, 8, 9, 10] (by kernel_rfl)
          · repeat' (first | rfl | with_reducible assumption | assumption | constructor)
          intro w5 f5 s5 hf5
          replace hf5 : f5 = [(189, _), (0, _), (3, _), (8, _), (9, _), (10, _)] := hf5
          subst hf5
          have hP := hP.same s5
          obtain ⟨c0, c1, c2, c3, c4, c5, c6, c7⟩ := hP.1.blk.cls
          refine W.cond (b := false) rfl (fun h => by cases h) (fun _ => ?_)
          by_cases h00 : 0 ≤ off
          · have k3 : Kn (decide (0 ≤ off)) true := .yes h00
            have k4 : Kn (decide (d4.pl - d4.hist ≤ off)) false := .no (fun h => hold ⟨h00, h⟩)
            apply W.readS LO mixed [197, 0, 3, 8, 9, 10] (by kernel_rfl)
            · repeat' (first | rfl | with_reducible assumption | assumption | constructor)
            intro w6 f6 s6 hf6
            replace hf6 : f6 = [(197, _), (0, _), (3, _), (8, _), (9, _), (10, _)] := hf6
            subst hf6
            refine W.cond (b := false) rfl (fun h => by cases h) (fun _ => W.skip ?_)
            exact N.inb (N.cut ⟨hP.same s6, rfl⟩ (sub_keys rfl))
          · have k3 : Kn (decide (0 ≤ off)) false := .no h00
            apply W.readS LO mixed [197, 0, 3, 8, 9, 10] (by kernel_rfl)
            · repeat' (first | rfl | with_reducible assumption | assumption | constructor)
            intro w6 f6 s6 hf6
            replace hf6 : f6 = [(197, _), (0, _), (3, _), (8, _), (9, _), (10, _)] := hf6
            subst hf6
            refine W.cond (b := false) rfl (fun h => by cases h) (fun _ => W.skip ?_)
            exact N.inb (N.cut ⟨hP.same s6, rfl⟩ (sub_keys rfl))
        · rintro w4 _ ⟨hP, rfl⟩
          refine W.seq (W.list ?_)
          apply Ls.runK LO [8, 251] 1
          · repeat' (first | rfl | with_reducible assumption | assumption | constructor)
          intro w6 f6 s6 hf6
          replace hf6 : f6 = [(8, _), (251, _)] := hf6
          subst hf6
          have hP := hP.same s6
          refine Ls.store LO rfl rfl rfl rfl rfl (vs := [.int .i64 3, .int .i64 0, .string ⟨#[]⟩, .bool false]) rfl rfl rfl hP.2.2.1 rfl ?_
          intro w7 hb hm _
          refine Ls.nil (N.to (W.ret ?_))
          exact PAt.give (x := (d4, ⟨3, 0, ⟨#[]⟩, false⟩)) hP hb hm rfl
set_option maxRecDepth 100000 in
set_option maxHeartbeats 4000000 in
theorem push_w6 (p m r : Nat) (d d3 : DS) (fin : Bool) (off en : Int) (out : ByteArray) (w w1 : World) (s : ByteArray) (hP : PAt p m r d3 w w1) (ho0 : -2147483648 ≤ off) (ho1 : off ≤ 1101659111424) (h0 : 0 ≤ d.pl) (h1 : d.pl ≤ 1099511627776 + 1000000) (hen : en = off + s.size)
    (hge : d.pl ≤ d3.pl) (hle : d3.pl ≤ 1099511627776 + 1000000) (hlast : (d3.last.size : Int) = min d3.hist d3.pl) (hh0 : 0 ≤ d3.hist) (hh1 : d3.hist ≤ 1024) (hn : s.size ≤ 1000000) :
    W Try.prog 252 cRest6 ((2, .string s) :: sl2 p r fin off en d.pl out) w1 (bodyPost Try.prog Try.f12 (PushPost p m ({ d3 with done := d3.done || (decide (d3.pl = d3.fin) && !d3.done) }, ans d d3 off en fin out) w)) := by
  refine W.cutS (fun w' g => PAt p m r d3 w w' ∧ g = (16, .bool (decide (d3.pl = d3.fin) && !d3.done)) :: sl2 p r fin off en d.pl out) ?_ ?_
  · obtain ⟨c0, c1, c2, c3, c4, c5, c6, c7⟩ := hP.1.blk.cls
    by_cases hp : d3.pl = d3.fin
    · have k1 : Kn (d3.pl == d3.fin) true := .of (by rw [hp]; exact beq_self_eq_true _)
      apply W.readN LO mixed [16, 0, 3, 8, 9, 10, 14, 15] (by kernel_rfl)
      · repeat' (first | rfl | with_reducible assumption | assumption | constructor)
      intro w4 f4 s4 hf4
      replace hf4 : f4 = [(16, _), (0, _), (3, _), (8, _), (9, _), (10, _), (14, _), (15, _)] := hf4
      subst hf4
      exact N.cut ⟨hP.same s4, rfl⟩ (sub_keys (by simp [hp]; rfl))
    · have k1 : Kn (d3.pl == d3.fin) false := .of (beq_eq_false_iff_ne.2 hp)
      apply W.readN LO mixed [16, 0, 3, 8, 9, 10, 14, 15] (by kernel_rfl)
      · repeat' (first | rfl | with_reducible assumption | assumption | constructor)
      intro w4 f4 s4 hf4
      replace hf4 : f4 = [(16, _), (0, _), (3, _), (8, _), (9, _), (10, _), (14, _), (15, _)] := hf4
      subst hf4
      exact N.cut ⟨hP.same s4, rfl⟩ (sub_keys (by simp [hp]; rfl))
  · rintro w2 _ ⟨hP, rfl⟩
    obtain ⟨last, hl⟩ : ∃ last, last = (decide (d3.pl = d3.fin) && !d3.done) := ⟨_, rfl⟩
    unfold ans
    simp only
    rw [← hl]
    refine W.cutS (fun w' g => PAt p m r { d3 with done := d3.done || last } w w' ∧ g = (16, .bool last) :: sl2 p r fin off en d.pl out) ?_ ?_
    · obtain ⟨c0, c1, c2, c3, c4, c5, c6, c7⟩ := hP.1.blk.cls
      have hdn : d3.done = true ∨ d3.done = false := by cases d3.done <;> simp
      rcases hdn with hdn | hdn
      · rw [hdn] at c7
        refine W.list ?_
        apply Ls.runK LO [16, 0, 3, 8, 9, 10, 14, 15, 176, 178] 10
        · repeat' (first | rfl | with_reducible assumption | assumption | constructor)
        intro w4 f4 s4 hf4
        replace hf4 : f4 = [(16, _), (0, _), (3, _), (8, _), (9, _), (10, _), (14, _), (15, _), (176, _), (178, _)] := hf4
        subst hf4
        have hP := hP.same s4
        refine Ls.store LO rfl rfl rfl rfl rfl (vs := [.bool true]) rfl rfl rfl hP.1.blk rfl ?_
        intro w5 hb5 hm5 _
        refine Ls.nil (N.cut ⟨?_, rfl⟩ (sub_keys rfl))
        rw [hdn, Bool.true_or]
        exact hP.set hb5 rfl hm5
      · rw [hdn] at c7
        refine W.list ?_
        apply Ls.runK LO [16, 0, 3, 8, 9, 10, 14, 15, 176, 178] 10
        · repeat' (first | rfl | with_reducible assumption | assumption | constructor)
        intro w4 f4 s4 hf4
        replace hf4 : f4 = [(16, _), (0, _), (3, _), (8, _), (9, _), (10, _), (14, _), (15, _), (176, _), (178, _)] := hf4
        subst hf4
        have hP := hP.same s4
        refine Ls.store LO rfl rfl rfl rfl rfl (vs := [.bool last]) rfl rfl rfl hP.1.blk rfl ?_
        intro w5 hb5 hm5 _
        refine Ls.nil (N.cut ⟨?_, rfl⟩ (sub_keys rfl))
        rw [hdn, Bool.false_or]
        exact hP.set hb5 rfl hm5
    · rintro w3 _ ⟨hP, rfl⟩
      exact push_w7 p m r d _ fin off en out last w w3 hP ho0 ho1 h0 h1 s.size hen hge hle hlast hh0 hh1 hn
set_option maxRecDepth 100000 in
set_option maxHeartbeats 4000000 in
theorem push_w5 (p m r : Nat) (d d1 d2 : DS) (s : ByteArray) (fin : Bool) (off en : Int) (w w1 : World) (hP : PAt p m r d2 w w1) (hd1 : d1 = if fin = true ∧ d.fin < 0 ∧ d.pl ≤ en ∧ far d.held en = false then { d with fin := en } else d) (hd2 : d2 = { d1 with held := ins d1.held off s.data.toList d1.pl }) (ho0 : -2147483648 ≤ off) (ho1 : off ≤ 1101659111424)
    (h0 : 0 ≤ d.pl) (h1 : d.pl ≤ 1099511627776) (hf : -1 ≤ d.fin) (hf1 : d.fin ≤ 1099511627776) (hss : s.size ≤ 1000000) (hen : en = off + s.size) (hov : en ≤ d.pl + d.buffer) (hbu : 0 ≤ d.buffer) (hbu1 : d.buffer ≤ 1024) (hk : Room d s.size) :
    W Try.prog 252 cRest5 (sl p r s fin off en) w1 (bodyPost Try.prog Try.f12 (PushPost p m (d.push2 off en s fin) w)) := by
  have e0 : d1.pl = d.pl ∧ d1.held = d.held ∧ d1.buffer = d.buffer ∧ d1.hist = d.hist ∧ d1.start = d.start ∧ d1.last = d.last ∧ d1.done = d.done := by rw [hd1]; split <;> exact ⟨rfl, rfl, rfl, rfl, rfl, rfl, rfl⟩
  obtain ⟨p1, p2, p3, p4, p5, p6, p7⟩ := e0
  have hpush : d.push2 off en s fin = ({ d2.rels with done := d2.rels.done || (decide (d2.rels.pl = d2.rels.fin) && !d2.rels.done) }, (d.push2 off en s fin).2) := by
    subst hd2
    subst hd1
    rfl
  have q0 : d2.pl = d.pl := by rw [hd2]; exact p1
  have hlen : d2.held.length ≤ 1000000 := by
    have := ins_len s.data.toList d1.held off d1.pl
    have h3 := hk.held
    have h4 : s.data.toList.length = s.size := by rw [Array.length_toList]; rfl
    rw [hd2]
    simp only
    rw [p2] at this ⊢
    omega
  obtain ⟨c0, c1, c2, c3, c4, c5, c6, c7⟩ := hP.1.blk.cls
  rw [q0] at c3
  apply W.readS LO mixed [0, 2, 3, 8, 9, 10, 14] (by kernel_rfl)
  · repeat' (first | rfl | with_reducible assumption | assumption | constructor)
  intro w2 f2 s2 hf2
  replace hf2 : f2 = [(0, _), (2, _), (3, _), (8, _), (9, _), (10, _), (14, _)] := hf2
  subst hf2
  have hP := hP.same s2
  refine W.seq (W.list ?_)
  apply Ls.runK LO [0, 2, 3, 8, 9, 10, 14, 151] 1
  · repeat' (first | rfl | with_reducible assumption | assumption | constructor)
  intro w3 f3 s3 hf3
  replace hf3 : f3 = [(0, _), (2, _), (3, _), (8, _), (9, _), (10, _), (14, _), (151, _)] := hf3
  subst hf3
  have hP := hP.same s3
  refine Ls.call LO rfl rfl rfl rfl rfl rfl (release_any p m d2 w3 hP.1 hlen (by omega) (by omega) (by rw [hd2]; simp only; rw [p4]; exact hk.h0) (by rw [hd2]; simp only; rw [p4]; exact hk.h1) (by have h5 := hk.last; have h6 := hk.h0; have h7 := hk.h1; rw [hd2]; simp only; rw [p6]; omega)) ?_
  rintro e w4 ⟨rfl, hD4, hm4⟩
  refine ⟨_, rfl, ?_⟩
  have hP4 : PAt p m r d2.rels w w4 := ⟨hD4, hP.2.1.trans' hm4, hP.2.2.1.moved hm4 (fun e => e.elim (Ne.symm hP.2.2.2.1) (Ne.symm hP.2.2.2.2.1)), hP.2.2.2⟩
  apply Ls.runK LO [2, 0, 3, 8, 9, 10, 14, 15] 1
  · repeat' (first | rfl | with_reducible assumption | assumption | constructor)
  intro w5 f5 s5 hf5
  replace hf5 : f5 = [(2, _), (0, _), (3, _), (8, _), (9, _), (10, _), (14, _), (15, _)] := hf5
  subst hf5
  have hP5 := hP4.same s5
  refine Ls.nil (N.to ?_)
  rw [hpush]
  obtain ⟨out, hout⟩ : ∃ out, out = strOfNums (rel d2.held.length d2.pl d2.held d2.fin).2.2 := ⟨_, rfl⟩
  have h2 : (d.push2 off en s fin).2 = ans d d2.rels off en fin out := by
    rw [hout]
    subst hd2
    subst hd1
    rfl
  rw [h2, ← hout]
  have hr : rel d2.held.length d2.pl d2.held d2.fin = rel d2.held.length d2.pl d2.held d2.fin := rfl
  have hge : d.pl ≤ d2.rels.pl ∧ d2.rels.pl ≤ d.pl + d2.held.length := by
    have := rel_le d2.held.length d2.pl d2.held d2.fin
    unfold DS.rels
    simp only
    omega
  have hlast : (d2.rels.last.size : Int) = min d2.rels.hist d2.rels.pl := by
    have := rel_len d2.held.length d2.pl d2.held d2.fin
    have h5 := hk.last
    have h6 := hk.h0
    unfold DS.rels
    simp only
    rw [size_keep, ByteArray.size_append, size_nums]
    have e1 : d2.last = d.last := by rw [hd2]; exact p6
    have e2 : d2.hist = d.hist := by rw [hd2]; exact p4
    rw [e1, e2]
    omega
  have hhist : d2.rels.hist = d.hist := by rw [hd2]; unfold DS.rels; exact p4
  exact push_w6 p m r d d2.rels fin off en out w w5 s hP5 ho0 ho1 h0 (by omega) hen hge.1 (by omega) hlast (by rw [hhist]; exact hk.h0) (by rw [hhist]; exact hk.h1) hss
set_option maxRecDepth 100000 in
set_option maxHeartbeats 4000000 in
theorem push_w4 (p m r : Nat) (d d1 : DS) (s : ByteArray) (fin : Bool) (off en : Int) (w w1 : World) (hP : PAt p m r d1 w w1) (hd1 : d1 = if fin = true ∧ d.fin < 0 ∧ d.pl ≤ en ∧ far d.held en = false then { d with fin := en } else d) (ho0 : -2147483648 ≤ off) (ho1 : off ≤ 1101659111424)
    (h0 : 0 ≤ d.pl) (h1 : d.pl ≤ 1099511627776) (hf : -1 ≤ d.fin) (hf1 : d.fin ≤ 1099511627776) (hss : s.size ≤ 1000000) (hen : en = off + s.size) (hov : en ≤ d.pl + d.buffer) (hbu : 0 ≤ d.buffer) (hbu1 : d.buffer ≤ 1024) (hk : Room d s.size) :
    W Try.prog 252 cRest4 (sl p r s fin off en) w1 (bodyPost Try.prog Try.f12 (PushPost p m (d.push2 off en s fin) w)) := by
  have e0 : d1.pl = d.pl ∧ d1.held = d.held ∧ d1.buffer = d.buffer ∧ d1.hist = d.hist ∧ d1.start = d.start ∧ d1.last = d.last ∧ d1.done = d.done := by rw [hd1]; split <;> exact ⟨rfl, rfl, rfl, rfl, rfl, rfl, rfl⟩
  refine W.cutS (fun w' g => PAt p m r { d1 with held := ins d1.held off s.data.toList d1.pl } w w' ∧ g = sl p r s fin off en) ?_ ?_
  ·
    apply W.readS LO mixed [109, 110, 0, 2, 3, 8, 9, 10] (by kernel_rfl)
    · repeat' (first | rfl | with_reducible assumption | assumption | constructor)
    intro w4 f4 s4 hf4
    replace hf4 : f4 = [(109, _), (110, _), (0, _), (2, _), (3, _), (8, _), (9, _), (10, _)] := hf4
    subst hf4
    have hP := hP.same s4
    refine W.block (W.loop (fun k w' g => ∃ (j : Nat) (l : List (Int × Int)), k + j = s.size ∧ PAt p m r { d1 with held := l } w w' ∧ ins l (off + j) (s.data.toList.drop j) d1.pl = ins d1.held off s.data.toList d1.pl ∧ g = (109, .int .i64 s.size) :: (110, .int .i64 j) :: sl p r s fin off en) s.size _ ⟨0, d1.held, rfl, hP, by simp, rfl⟩ (sub_keys rfl) ?_)
    rintro k w3 _ ⟨j, l, hj, hP, hins, rfl⟩
    obtain ⟨c0, c1, c2, c3, c4, c5, c6, c7⟩ := hP.1.blk.cls
    by_cases hlt : j < s.size
    · have k1 : Kn (decide ((j : Int) < (s.size : Int))) true := .yes (by omega)
      have k2 : Kn (IntKind.i64.wrap (off + (j : Int))) (off + j) := .of (IntWalk.i64_in _ (by omega))
      apply W.readS LO mixed [109, 110, 0, 2, 3, 8, 9, 10, 111] (by kernel_rfl)
      · repeat' (first | rfl | with_reducible assumption | assumption | constructor)
      intro w4 f4 s4 hf4
      replace hf4 : f4 = [(109, _), (110, _), (0, _), (2, _), (3, _), (8, _), (9, _), (10, _), (111, _)] := hf4
      subst hf4
      have hP := hP.same s4
      refine W.seq (W.cond (b := true) rfl (fun _ => W.skip (N.to ?_)) (fun h => by cases h))
      obtain ⟨c, hc⟩ : ∃ c, s.data.toList[j]? = some c := ⟨s.data.toList[j]'(by show j < s.data.toList.length; rw [Array.length_toList]; exact hlt), List.getElem?_eq_getElem _⟩
      have hdrop : s.data.toList.drop j = c :: s.data.toList.drop (j + 1) := by
        obtain ⟨hl, he⟩ := List.getElem?_eq_some_iff.1 hc
        rw [List.drop_eq_getElem_cons hl, he]
      have hbt : bt s (j : Int) = (c.toNat : Int) := by
        unfold bt
        rw [Int.toNat_natCast, List.getD_eq_getElem?_getD, hc]
        rfl
      rw [hdrop] at hins
      simp only [ins] at hins
      rw [show off + (j : Int) + 1 = off + ((j + 1 : Nat) : Int) by omega] at hins
      refine W.cutS (fun w' g => PAt p m r { d1 with held := (if l.lookup (off + j) = none ∧ d1.pl ≤ off + j then l ++ [(off + (j : Int), (c.toNat : Int))] else l) } w w' ∧ g = (109, .int .i64 s.size) :: (110, .int .i64 j) :: sl p r s fin off en) ?_ ?_
      · refine W.block ?_
        obtain ⟨c0, c1, c2, c3, c4, c5, c6, c7⟩ := hP.1.blk.cls
        apply W.readS LO mixed [109, 110, 0, 2, 3, 8, 9, 10, 11] (by kernel_rfl)
        · repeat' (first | rfl | with_reducible assumption | assumption | constructor)
        intro w5 f5 s5 hf5
        replace hf5 : f5 = [(109, _), (110, _), (0, _), (2, _), (3, _), (8, _), (9, _), (10, _), (11, _)] := hf5
        subst hf5
        have hP := hP.same s5
        obtain ⟨c0, c1, c2, c3, c4, c5, c6, c7⟩ := hP.1.blk.cls
        have hlk := look_same (P := Try.prog) hP.1.map KMd Try.underlying51 zero_u8 (off + j) (okK_mk (by omega) (by omega)) _ rfl
        cases hv : l.lookup (off + (j : Int)) with
        | some v =>
          rw [hv] at hlk
          simp only [Option.map_some, Option.getD_some, Option.isSome_some] at hlk
          apply W.readS LO mixed [109, 110, 0, 2, 3, 8, 9, 10, 11, 13] (by kernel_rfl)
          · repeat' (first | rfl | with_reducible assumption | assumption | constructor)
          intro w6 f6 s6 hf6
          replace hf6 : f6 = [(109, _), (110, _), (0, _), (2, _), (3, _), (8, _), (9, _), (10, _), (11, _), (13, _)] := hf6
          subst hf6
          apply W.readS LO mixed [109, 110, 0, 2, 3, 8, 9, 10, 135] (by kernel_rfl)
          · repeat' (first | rfl | with_reducible assumption | assumption | constructor)
          intro w7 f7 s7 hf7
          replace hf7 : f7 = [(109, _), (110, _), (0, _), (2, _), (3, _), (8, _), (9, _), (10, _), (135, _)] := hf7
          subst hf7
          refine W.cond (b := false) rfl (fun h => by cases h) (fun _ => W.skip ?_)
          exact N.inb (N.cut ⟨by rw [if_neg (by simp)]; exact (hP.same s6).same s7, rfl⟩ (sub_keys rfl))
        | none =>
          rw [hv] at hlk
          simp only [Option.map_none, Option.getD_none, Option.isSome_none] at hlk
          apply W.readS LO mixed [109, 110, 0, 2, 3, 8, 9, 10, 11, 13] (by kernel_rfl)
          · repeat' (first | rfl | with_reducible assumption | assumption | constructor)
          intro w6 f6 s6 hf6
          replace hf6 : f6 = [(109, _), (110, _), (0, _), (2, _), (3, _), (8, _), (9, _), (10, _), (11, _), (13, _)] := hf6
          subst hf6
          have hP := hP.same s6
          obtain ⟨c0, c1, c2, c3, c4, c5, c6, c7⟩ := hP.1.blk.cls
          by_cases hge : d1.pl ≤ off + (j : Int)
          · have k4 : Kn (decide (d1.pl ≤ off + (j : Int))) true := .yes hge
            apply W.readS LO mixed [109, 110, 0, 2, 3, 8, 9, 10, 11, 135] (by kernel_rfl)
            · repeat' (first | rfl | with_reducible assumption | assumption | constructor)
            intro w7 f7 s7 hf7
            replace hf7 : f7 = [(109, _), (110, _), (0, _), (2, _), (3, _), (8, _), (9, _), (10, _), (11, _), (135, _)] := hf7
            subst hf7
            have hP := hP.same s7
            obtain ⟨c0, c1, c2, c3, c4, c5, c6, c7⟩ := hP.1.blk.cls
            refine W.cond (b := true) rfl (fun _ => ?_) (fun h => by cases h)
            have i0 : (0 : Int) ≤ (j : Int) := by omega
            have i1 : (j : Int) < (s.size : Int) := by omega
            apply W.tailK LO mixed [109, 110, 0, 2, 3, 8, 9, 10, 139, 142, 145] 10 (by kernel_rfl)
            · repeat' (first | rfl | with_reducible assumption | assumption | constructor)
            intro w8 f8 s8 hf8
            replace hf8 : f8 = [(109, _), (110, _), (0, _), (2, _), (3, _), (8, _), (9, _), (10, _), (139, _), (142, _), (145, _)] := hf8
            rw [hbt] at hf8
            subst hf8
            have hP := hP.same s8
            refine Ls.mstore rfl rfl rfl KMd Try.underlying51 hP.1.map rfl (off + j) rfl (okK_mk (by omega) (by omega)) (c.toNat : Int) rfl hv ?_
            intro w9 hM hm9
            refine Ls.nil ?_
            refine N.inb (N.cut ⟨?_, rfl⟩ (sub_keys rfl))
            rw [if_pos ⟨rfl, hge⟩]
            exact hP.mset (fun hb => hb.moved hm9 hP.1.ne) hM hm9
          · have k4 : Kn (decide (d1.pl ≤ off + (j : Int))) false := .no hge
            apply W.readS LO mixed [109, 110, 0, 2, 3, 8, 9, 10, 11, 135] (by kernel_rfl)
            · repeat' (first | rfl | with_reducible assumption | assumption | constructor)
            intro w7 f7 s7 hf7
            replace hf7 : f7 = [(109, _), (110, _), (0, _), (2, _), (3, _), (8, _), (9, _), (10, _), (11, _), (135, _)] := hf7
            subst hf7
            refine W.cond (b := false) rfl (fun h => by cases h) (fun _ => W.skip ?_)
            exact N.inb (N.cut ⟨by rw [if_neg (by simp; omega)]; exact hP.same s7, rfl⟩ (sub_keys rfl))
      · rintro w5 _ ⟨hP, rfl⟩
        have k5 : Kn (IntKind.i64.wrap ((j : Int) + 1)) ((j + 1 : Nat) : Int) := .of (IntWalk.i64_in _ (by omega))
        apply W.readN LO mixed [109, 110, 0, 2, 3, 8, 9, 10] (by kernel_rfl)
        · repeat' (first | rfl | with_reducible assumption | assumption | constructor)
        intro w6 f6 s6 hf6
        replace hf6 : f6 = [(109, _), (110, _), (0, _), (2, _), (3, _), (8, _), (9, _), (10, _)] := hf6
        subst hf6
        exact N.round (k - 1) _ (by omega) ⟨j + 1, _, by omega, hP.same s6, hins, rfl⟩ (sub_keys rfl)
    · have k1 : Kn (decide ((j : Int) < (s.size : Int))) false := .no (by omega)
      apply W.readS LO mixed [109, 110, 0, 2, 3, 8, 9, 10, 111] (by kernel_rfl)
      · repeat' (first | rfl | with_reducible assumption | assumption | constructor)
      intro w4 f4 s4 hf4
      replace hf4 : f4 = [(109, _), (110, _), (0, _), (2, _), (3, _), (8, _), (9, _), (10, _), (111, _)] := hf4
      subst hf4
      refine W.seq (W.cond (b := false) rfl (fun h => by cases h) (fun _ => W.exit ?_))
      have hd : s.data.toList.drop j = [] := List.drop_eq_nil_iff.2 (by have : s.data.size = s.size := rfl; simp; omega)
      rw [hd] at hins
      refine N.thenE (N.thenE (N.out (N.cut ⟨?_, rfl⟩ (sub_keys rfl))))
      rw [← hins]
      exact hP.same s4
  rintro w2 _ ⟨hP, rfl⟩
  exact push_w5 p m r d d1 _ s fin off en w w2 hP hd1 rfl ho0 ho1 h0 h1 hf hf1 hss hen hov hbu hbu1 hk
set_option maxRecDepth 100000 in
set_option maxHeartbeats 4000000 in
theorem push_w3 (p m r : Nat) (d : DS) (s : ByteArray) (fin : Bool) (off en : Int) (w w1 : World) (hP : PAt p m r d w w1) (ho0 : -2147483648 ≤ off) (ho1 : off ≤ 1101659111424)
    (h0 : 0 ≤ d.pl) (h1 : d.pl ≤ 1099511627776) (hf : -1 ≤ d.fin) (hf1 : d.fin ≤ 1099511627776) (hss : s.size ≤ 1000000) (hen : en = off + s.size) (hov : en ≤ d.pl + d.buffer) (hbu : 0 ≤ d.buffer) (hbu1 : d.buffer ≤ 1024) (hk : Room d s.size) :
    W Try.prog 252 cRest3 (sl p r s fin off en) w1 (bodyPost Try.prog Try.f12 (PushPost p m (d.push2 off en s fin) w)) := by
  refine W.cutS (fun w' g => PAt p m r (if fin = true ∧ d.fin < 0 ∧ d.pl ≤ en ∧ far d.held en = false then { d with fin := en } else d) w w' ∧ g = sl p r s fin off en) ?_ ?_
  · refine W.cutS (fun w' g => PAt p m r d w w' ∧ g = (103, .bool (decide (fin = true ∧ d.fin < 0 ∧ d.pl ≤ en ∧ far d.held en = false))) :: sl p r s fin off en) ?_ ?_
    · obtain ⟨c0, c1, c2, c3, c4, c5, c6, c7⟩ := hP.1.blk.cls
      by_cases b1 : fin = true
      · subst b1
        by_cases b2 : d.fin < 0
        · have k1 : Kn (decide (d.fin < 0)) true := .yes b2
          by_cases b3 : d.pl ≤ en
          · have k2 : Kn (decide (d.pl ≤ en)) true := .yes b3
            refine W.list ?_
            apply Ls.runK LO [0, 2, 3, 8, 9, 10, 98, 99, 100] 19
            · repeat' (first | rfl | with_reducible assumption | assumption | constructor)
            intro w4 f4 s4 hf4
            replace hf4 : f4 = [(0, _), (2, _), (3, _), (8, _), (9, _), (10, _), (98, _), (99, _), (100, _)] := hf4
            subst hf4
            have hP := hP.same s4
            refine Ls.call LO rfl rfl rfl rfl rfl rfl (behind_any p m d en w4 hP.1) ?_
            rintro e w5 ⟨rfl, hm⟩
            refine ⟨_, rfl, ?_⟩
            have hP5 := hP.non hm
            apply Ls.runK LO [103, 0, 2, 3, 8, 9, 10] 2
            · repeat' (first | rfl | assumption | constructor)
            intro w6 f6 s6 hf6
            refine Ls.nil ?_
            replace hf6 : f6 = [(103, _), (0, _), (2, _), (3, _), (8, _), (9, _), (10, _)] := hf6
            subst hf6
            exact N.cut ⟨hP5.same s6, rfl⟩ (sub_keys (by simp [b2, b3]; rfl))
          · have k2 : Kn (decide (d.pl ≤ en)) false := .no b3
            apply W.readN LO mixed [103, 0, 2, 3, 8, 9, 10] (by kernel_rfl)
            · repeat' (first | rfl | with_reducible assumption | assumption | constructor)
            intro w4 f4 s4 hf4
            replace hf4 : f4 = [(103, _), (0, _), (2, _), (3, _), (8, _), (9, _), (10, _)] := hf4
            subst hf4
            exact N.cut ⟨hP.same s4, rfl⟩ (sub_keys (by simp [b3]; rfl))
        · have k1 : Kn (decide (d.fin < 0)) false := .no b2
          apply W.readN LO mixed [103, 0, 2, 3, 8, 9, 10] (by kernel_rfl)
          · repeat' (first | rfl | with_reducible assumption | assumption | constructor)
          intro w4 f4 s4 hf4
          replace hf4 : f4 = [(103, _), (0, _), (2, _), (3, _), (8, _), (9, _), (10, _)] := hf4
          subst hf4
          exact N.cut ⟨hP.same s4, rfl⟩ (sub_keys (by simp [b2]; rfl))
      · have b1 : fin = false := by simpa using b1
        subst b1
        apply W.readN LO mixed [103, 0, 2, 3, 8, 9, 10] (by kernel_rfl)
        · repeat' (first | rfl | with_reducible assumption | assumption | constructor)
        intro w4 f4 s4 hf4
        replace hf4 : f4 = [(103, _), (0, _), (2, _), (3, _), (8, _), (9, _), (10, _)] := hf4
        subst hf4
        exact N.cut ⟨hP.same s4, rfl⟩ (sub_keys rfl)
    · rintro w2 _ ⟨hP, rfl⟩
      refine W.cond (b := decide _) rfl (fun hb => ?_) (fun hb => W.skip ?_)
      · have hb := of_decide_eq_true hb
        rw [if_pos hb]
        refine W.list ?_
        apply Ls.runK LO [0, 2, 3, 8, 9, 10, 105, 107] 4
        · repeat' (first | rfl | with_reducible assumption | assumption | constructor)
        intro w4 f4 s4 hf4
        replace hf4 : f4 = [(0, _), (2, _), (3, _), (8, _), (9, _), (10, _), (105, _), (107, _)] := hf4
        subst hf4
        have hP := hP.same s4
        refine Ls.store LO rfl rfl rfl rfl rfl (vs := [.int .i64 en]) rfl rfl rfl hP.1.blk rfl ?_
        intro w5 hb5 hm5 _
        refine Ls.nil ?_
        exact N.cut ⟨hP.set hb5 rfl hm5, rfl⟩ (sub_keys rfl)
      · have hb := of_decide_eq_false hb
        rw [if_neg hb]
        exact N.cut ⟨hP, rfl⟩ (sub_keys rfl)
  · rintro w2 _ ⟨hP, rfl⟩
    exact push_w4 p m r d _ s fin off en w w2 hP rfl ho0 ho1 h0 h1 hf hf1 hss hen hov hbu hbu1 hk
set_option maxRecDepth 100000 in
set_option maxHeartbeats 4000000 in
theorem push_w2 (p m r : Nat) (d : DS) (n : Int) (s : ByteArray) (fin : Bool) (off : Int) (w w1 : World) (hP : PAt p m r d w w1) (hoff : off = plc d.start n d.pl) (hpure : ¬ (s.size = 0 ∧ fin = false)) (ho0 : -2147483648 ≤ off) (ho1 : off ≤ 1101659111424)
    (h0 : 0 ≤ d.pl) (h1 : d.pl ≤ 1099511627776) (hf : -1 ≤ d.fin) (hf1 : d.fin ≤ 1099511627776) (hss : s.size ≤ 1000000) (hbu : 0 ≤ d.buffer) (hbu1 : d.buffer ≤ 1024) (hk : Room d s.size) :
    W Try.prog 252 cRest (sl p r s fin off (off + s.size)) w1 (bodyPost Try.prog Try.f12 (PushPost p m (d.push n s fin) w)) := by
  have hpush : d.push n s fin = if d.pl + d.buffer < (d.trim off (off + s.size) s fin).1 then (d, ⟨5, 0, ⟨#[]⟩, false⟩) else
      d.push2 off (d.trim off (off + s.size) s fin).1 (d.trim off (off + s.size) s fin).2.1 (d.trim off (off + s.size) s fin).2.2 := by
    rw [hoff]
    unfold DS.push
    rw [if_neg hpure]
  rw [hpush]
  obtain ⟨T1, T2, T3, hT⟩ : ∃ T1 T2 T3, d.trim off (off + s.size) s fin = (T1, T2, T3) := ⟨_, _, _, rfl⟩
  rw [hT]
  refine W.cutS (fun w' g => PAt p m r d w w' ∧ g = sl p r T2 T3 off T1) ?_ ?_
  · obtain ⟨c0, c1, c2, c3, c4, c5, c6, c7⟩ := hP.1.blk.cls
    unfold DS.trim at hT
    by_cases hfin : d.fin < 0
    · rw [if_pos hfin] at hT
      obtain ⟨rfl, rfl, rfl⟩ : off + (s.size : Int) = T1 ∧ s = T2 ∧ fin = T3 := by simpa using hT
      have k1 : Kn (decide (0 ≤ d.fin)) false := .no (by omega)
      apply W.readS LO mixed [0, 2, 3, 8, 9, 10, 43] (by kernel_rfl)
      · repeat' (first | rfl | with_reducible assumption | assumption | constructor)
      intro w4 f4 s4 hf4
      replace hf4 : f4 = [(0, _), (2, _), (3, _), (8, _), (9, _), (10, _), (43, _)] := hf4
      subst hf4
      refine W.cond (b := false) rfl (fun h => by cases h) (fun _ => W.skip ?_)
      exact N.cut ⟨hP.same s4, rfl⟩ (sub_keys rfl)
    · rw [if_neg hfin] at hT
      have k1 : Kn (decide (0 ≤ d.fin)) true := .yes (by omega)
      apply W.readS LO mixed [0, 2, 3, 8, 9, 10, 43] (by kernel_rfl)
      · repeat' (first | rfl | with_reducible assumption | assumption | constructor)
      intro w4 f4 s4 hf4
      replace hf4 : f4 = [(0, _), (2, _), (3, _), (8, _), (9, _), (10, _), (43, _)] := hf4
      subst hf4
      refine W.cond (b := true) rfl (fun _ => ?_) (fun h => by cases h)
      have hP4 := hP.same s4
      obtain ⟨c0, c1, c2, c3, c4, c5, c6, c7⟩ := hP4.1.blk.cls
      have k3 : fin = true ∨ fin = false := by cases fin <;> simp
      refine W.cutS (fun w' g => PAt p m r d w w' ∧ g = sl p r s (fin && (off + (s.size : Int) == d.fin)) off (off + s.size)) ?_ ?_
      · rcases k3 with rfl | rfl
        ·
          apply W.readN LO mixed [0, 2, 3, 8, 9, 10] (by kernel_rfl)
          · repeat' (first | rfl | with_reducible assumption | assumption | constructor)
          intro w5 f5 s5 hf5
          replace hf5 : f5 = [(0, _), (2, _), (3, _), (8, _), (9, _), (10, _)] := hf5
          subst hf5
          exact N.cut ⟨hP4.same s5, rfl⟩ (sub_keys rfl)
        ·
          apply W.readN LO mixed [0, 2, 3, 8, 9, 10] (by kernel_rfl)
          · repeat' (first | rfl | with_reducible assumption | assumption | constructor)
          intro w5 f5 s5 hf5
          replace hf5 : f5 = [(0, _), (2, _), (3, _), (8, _), (9, _), (10, _)] := hf5
          subst hf5
          exact N.cut ⟨hP4.same s5, rfl⟩ (sub_keys rfl)
      · rintro w5 _ ⟨hP5, rfl⟩
        obtain ⟨c0, c1, c2, c3, c4, c5, c6, c7⟩ := hP5.1.blk.cls
        by_cases hle : off + (s.size : Int) ≤ d.fin
        · rw [if_pos hle] at hT
          obtain ⟨rfl, rfl, rfl⟩ : off + (s.size : Int) = T1 ∧ s = T2 ∧ (fin && decide (off + (s.size : Int) = d.fin)) = T3 := by simpa using hT
          have k2 : Kn (decide (d.fin < off + (s.size : Int))) false := .no (by omega)
          apply W.readS LO mixed [0, 2, 3, 8, 9, 10, 58] (by kernel_rfl)
          · repeat' (first | rfl | with_reducible assumption | assumption | constructor)
          intro w6 f6 s6 hf6
          replace hf6 : f6 = [(0, _), (2, _), (3, _), (8, _), (9, _), (10, _), (58, _)] := hf6
          subst hf6
          refine W.cond (b := false) rfl (fun h => by cases h) (fun _ => W.skip ?_)
          exact N.cut ⟨hP5.same s6, rfl⟩ (sub_keys rfl)
        · rw [if_neg hle] at hT
          obtain ⟨rfl, rfl, rfl⟩ : max d.fin off = T1 ∧ s.extract 0 (max d.fin off - off).toNat = T2 ∧ false = T3 := by simpa using hT
          have k2 : Kn (decide (d.fin < off + (s.size : Int))) true := .yes (by omega)
          have k4 : (off + (s.size : Int) == d.fin) = false := by rw [beq_eq_false_iff_ne]; omega
          have k5 : Kn (if off > d.fin then off else d.fin) (max d.fin off) := .of (by split <;> omega)
          have k6 : Kn (IntKind.i64.wrap (max d.fin off - off)) (max d.fin off - off) := .of (IntWalk.i64_in _ (by omega))
          have k7 : 0 ≤ max d.fin off - off := by omega
          have k8 : max d.fin off - off ≤ (s.size : Int) := by omega
          rw [k4, Bool.and_false]
          apply W.readS LO mixed [0, 2, 3, 8, 9, 10, 58] (by kernel_rfl)
          · repeat' (first | rfl | with_reducible assumption | assumption | constructor)
          intro w6 f6 s6 hf6
          replace hf6 : f6 = [(0, _), (2, _), (3, _), (8, _), (9, _), (10, _), (58, _)] := hf6
          subst hf6
          have hP6 := hP5.same s6
          obtain ⟨c0, c1, c2, c3, c4, c5, c6, c7⟩ := hP6.1.blk.cls
          refine W.cond (b := true) rfl (fun _ => ?_) (fun h => by cases h)
          apply W.readS LO mixed [0, 2, 3, 8, 9, 10] (by kernel_rfl)
          · repeat' (first | rfl | with_reducible assumption | assumption | constructor)
          intro w7 f7 s7 hf7
          replace hf7 : f7 = [(0, _), (2, _), (3, _), (8, _), (9, _), (10, _)] := hf7
          subst hf7
          apply W.readN LO mixed [0, 2, 3, 8, 9, 10] (by kernel_rfl)
          · repeat' (first | rfl | with_reducible assumption | assumption | constructor)
          intro w8 f8 s8 hf8
          replace hf8 : f8 = [(0, _), (2, _), (3, _), (8, _), (9, _), (10, _)] := hf8
          subst hf8
          exact N.cut ⟨(hP6.same s7).same s8, rfl⟩ (sub_keys rfl)
  · rintro w2 _ ⟨hP, rfl⟩
    obtain ⟨c0, c1, c2, c3, c4, c5, c6, c7⟩ := hP.1.blk.cls
    have k0 : Kn (IntKind.i64.wrap (d.pl + d.buffer)) (d.pl + d.buffer) := .of (IntWalk.i64_in _ (by omega))
    have hT1 : -2147483648 ≤ T1 := by
      unfold DS.trim at hT
      split at hT
      · cases hT; omega
      · split at hT <;> cases hT <;> omega
    have hT2 : T2.size ≤ 1000000 := by
      unfold DS.trim at hT
      split at hT
      · cases hT; omega
      · split at hT <;> cases hT
        · omega
        · rw [ByteArray.size_extract]; omega
    have hT4 : T2.size ≤ s.size := by
      unfold DS.trim at hT
      split at hT
      · cases hT; omega
      · split at hT <;> cases hT
        · omega
        · rw [ByteArray.size_extract]; omega
    have hT3 : T1 ≥ off ∧ T1 = off + T2.size := by
      unfold DS.trim at hT
      split at hT
      · cases hT; omega
      · split at hT <;> cases hT
        · omega
        · rw [ByteArray.size_extract]; omega
    by_cases hov : d.pl + d.buffer < T1
    · have k1 : Kn (decide (d.pl + d.buffer < T1)) true := .yes hov
      refine W.cutS (fun _ _ => False) ?_ (fun _ _ h => h.elim)
      apply W.readS LO mixed [8, 80] (by kernel_rfl)
      · repeat' (first | rfl | with_reducible assumption | assumption | constructor)
      intro w4 f4 s4 hf4
      replace hf4 : f4 = [(8, _), (80, _)] := hf4
      subst hf4
      refine W.cond (b := true) rfl (fun _ => ?_) (fun h => by cases h)
      refine W.seq (W.list ?_)
      apply Ls.runK LO [8, 81] 1
      · repeat' (first | rfl | with_reducible assumption | assumption | constructor)
      intro w5 f5 s5 hf5
      replace hf5 : f5 = [(8, _), (81, _)] := hf5
      subst hf5
      have hP := (hP.same s4).same s5
      refine Ls.store LO rfl rfl rfl rfl rfl (vs := [.int .i64 5, .int .i64 0, .string ⟨#[]⟩, .bool false]) rfl rfl rfl hP.2.2.1 rfl ?_
      intro w6 hb hm _
      refine Ls.nil (N.to (W.ret ?_))
      rw [if_pos hov]
      exact PAt.give (x := (d, ⟨5, 0, ⟨#[]⟩, false⟩)) hP hb hm rfl
    · have k1 : Kn (decide (d.pl + d.buffer < T1)) false := .no hov
      refine W.cutS (fun w' g => PAt p m r d w w' ∧ g = sl p r T2 T3 off T1) ?_ ?_
      ·
        apply W.readS LO mixed [0, 2, 3, 8, 9, 10, 80] (by kernel_rfl)
        · repeat' (first | rfl | with_reducible assumption | assumption | constructor)
        intro w4 f4 s4 hf4
        replace hf4 : f4 = [(0, _), (2, _), (3, _), (8, _), (9, _), (10, _), (80, _)] := hf4
        subst hf4
        refine W.cond (b := false) rfl (fun h => by cases h) (fun _ => W.skip ?_)
        exact N.cut ⟨hP.same s4, rfl⟩ (sub_keys rfl)
      · rintro w3 _ ⟨hP, rfl⟩
        rw [if_neg hov]
        exact push_w3 p m r d T2 T3 off T1 w w3 hP ho0 ho1 h0 h1 hf hf1 hT2 hT3.2 (by omega) hbu hbu1 (hk.mono hT4)
set_option maxRecDepth 100000 in
set_option maxHeartbeats 4000000 in
theorem push_walk (p m : Nat) (d : DS) (n : Int) (s : ByteArray) (fin : Bool) (w : World) (h : DirAt w p m d) (h0 : 0 ≤ d.pl) (h1 : d.pl ≤ 1099511627776) (hf : -1 ≤ d.fin) (hf1 : d.fin ≤ 1099511627776) (hss : s.size ≤ 1000000) (hbu : 0 ≤ d.buffer) (hbu1 : d.buffer ≤ 1024) (hk : Room d s.size) :
    Calls Try.prog 12 #[.pointer (some ⟨p, 0, none⟩), .int .u32 n, .string s, .bool fin] w (PushPost p m (d.push n s fin) w) := by
  refine calls_W (n := 252) (vs := [.pointer (some ⟨p, 0, none⟩), .int .u32 n, .string s, .bool fin]) Try.func12 rfl rfl rfl ?_
  refine W.seq (W.list (Ls.alloc LO rfl rfl rfl rfl rfl (Ls.nil (N.to ?_))))
  have hP : PAt p m w.heap.size d w (w.alloc (.cells #[.int .i64 0, .int .i64 0, .string ⟨#[]⟩, .bool false] 28)) :=
    ⟨h.moved ((Mv.refl (fun _ => False) w).alloc _) (fun e => e) (fun e => e), (Mv.refl _ w).alloc _, heap_alloc_new w _, Nat.ne_of_lt h.blk.lt, Nat.ne_of_lt h.map.lt, Nat.le_refl _⟩
  generalize w.alloc (.cells [.int .i64 0, .int .i64 0, .string ⟨#[]⟩, .bool false].toArray 28) = w1 at hP
  generalize w.heap.size = r at hP
  obtain ⟨off, hoff⟩ : ∃ off, off = plc d.start n d.pl := ⟨_, rfl⟩
  have ho : -2147483648 ≤ off ∧ off ≤ 1101659111424 := by
    have := sd_range n ((d.start + d.pl) % 4294967296)
    rw [hoff]; unfold plc; omega
  have q1 : ∀ w', Same w1 w' → Calls Try.prog 24 #[.int .u32 d.start, .int .u32 n, .int .i64 d.pl] w' fun e w'' => e = .returned (.int .i64 off) ∧ Same w1 w'' := same_of fun w => by rw [hoff]; exact place_any _ _ _ w h0 h1
  obtain ⟨c0, c1, c2, c3, c4, c5, c6, c7⟩ := hP.1.blk.cls
  apply W.readS LO mixed [0, 2, 3, 8, 9] (by kernel_rfl)
  · repeat' (first | rfl | with_reducible assumption | assumption | constructor)
  intro w2 f2 s2 hf2
  replace hf2 : f2 = [(0, _), (2, _), (3, _), (8, _), (9, _)] := hf2
  subst hf2
  have k0 : Kn (IntKind.i64.wrap (off + (s.size : Int))) (off + s.size) := .of (IntWalk.i64_in _ (by omega))
  apply W.readS LO mixed [0, 2, 3, 8, 9, 10] (by kernel_rfl)
  · repeat' (first | rfl | with_reducible assumption | assumption | constructor)
  intro w3 f3 s3 hf3
  replace hf3 : f3 = [(0, _), (2, _), (3, _), (8, _), (9, _), (10, _)] := hf3
  subst hf3
  have hP := (hP.same s2).same s3
  clear c0 c1 c2 c3 c4 c5 c6 c7 q1 s2 s3 
  -- nothing to push
  refine W.cutS (fun w' g => (PAt p m r d w w' ∧ g = sl p r s fin off (off + s.size)) ∧ ¬ (s.size = 0 ∧ fin = false)) ?_ ?_
  · by_cases hpure : s.size = 0 ∧ fin = false
    · obtain ⟨hs0, rfl⟩ := hpure
      have e : d.push n s false = (d, g0) := by unfold DS.push; rw [if_pos ⟨hs0, rfl⟩]; rfl
      obtain rfl := empty_of hs0
      have he := Kn.of isEmpty_em
      apply W.readS LO mixed [8, 37] (by kernel_rfl)
      · repeat' (first | rfl | with_reducible assumption | assumption | constructor)
      intro w4 f4 s4 hf4
      replace hf4 : f4 = [(8, _), (37, _)] := hf4
      subst hf4
      refine W.cond (b := true) rfl (fun _ => ?_) (fun h => by cases h)
      refine W.seq (W.list ?_)
      apply Ls.runK LO [8, 38] 1
      · repeat' (first | rfl | with_reducible assumption | assumption | constructor)
      intro w5 f5 s5 hf5
      replace hf5 : f5 = [(8, _), (38, _)] := hf5
      subst hf5
      have hP := (hP.same s4).same s5
      refine Ls.store LO rfl rfl rfl rfl rfl (vs := [.int .i64 0, .int .i64 0, .string ⟨#[]⟩, .bool false]) rfl rfl rfl hP.2.2.1 rfl ?_
      intro w6 hb hm _
      refine Ls.nil (N.to (W.ret ?_))
      rw [e]
      exact PAt.give (x := (d, g0)) hP hb hm rfl
    · have hpush : d.push n s fin = if d.pl + d.buffer < (d.trim off (off + s.size) s fin).1 then (d, ⟨5, 0, ⟨#[]⟩, false⟩) else
          d.push2 off (d.trim off (off + s.size) s fin).1 (d.trim off (off + s.size) s fin).2.1 (d.trim off (off + s.size) s fin).2.2 := by
        rw [hoff]
        unfold DS.push
        rw [if_neg hpure]
      by_cases hs0 : s.size = 0
      · have hft : fin = true := by
          cases fin with
          | true => rfl
          | false => exact absurd ⟨hs0, rfl⟩ hpure
        subst hft
        obtain rfl := empty_of hs0
        have he := Kn.of isEmpty_em
        apply W.readS LO mixed [0, 2, 3, 8, 9, 10, 37] (by kernel_rfl)
        · repeat' (first | rfl | with_reducible assumption | assumption | constructor)
        intro w4 f4 s4 hf4
        replace hf4 : f4 = [(0, _), (2, _), (3, _), (8, _), (9, _), (10, _), (37, _)] := hf4
        subst hf4
        refine W.cond (b := false) rfl (fun h => by cases h) (fun _ => W.skip ?_)
        exact N.cut ⟨⟨hP.same s4, rfl⟩, hpure⟩ (sub_keys rfl)
      · have he := Kn.of (isEmpty_of hs0)
        apply W.readS LO mixed [0, 2, 3, 8, 9, 10, 37] (by kernel_rfl)
        · repeat' (first | rfl | with_reducible assumption | assumption | constructor)
        intro w4 f4 s4 hf4
        replace hf4 : f4 = [(0, _), (2, _), (3, _), (8, _), (9, _), (10, _), (37, _)] := hf4
        subst hf4
        refine W.cond (b := false) rfl (fun h => by cases h) (fun _ => W.skip ?_)
        exact N.cut ⟨⟨hP.same s4, rfl⟩, hpure⟩ (sub_keys rfl)
  · rintro w4 _ ⟨⟨hP, rfl⟩, hpure⟩
    exact push_w2 p m r d n s fin off w w4 hP hoff hpure ho.1 ho.2 h0 h1 hf hf1 hss hbu hbu1 hk
end Go.Proofs.Ytieolnekccacbaa
