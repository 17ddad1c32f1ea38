/- What is proved: the reference's 'Push'. Conditions: those that stand in each theorem. -/
import Derived.Test.YtieolnekccacbaaDirRef2
namespace Go.Proofs.Ytieolnekccacbaa
set_option linter.unusedVariables false
set_option linter.unusedSimpArgs false
set_option linter.unusedSectionVars false
open Go.RowKit Go.Maps Go.MapKept Go.ChangeMaps Fw
/-- What is held, put back. -/
def RS.put (D : RS) (Z : List (Int × Int)) : RS := { D with places := Z.map (·.1), bytes := Z.map (·.2) }
theorem zip_unzip (Z : List (Int × Int)) : (Z.map (·.1)).zip (Z.map (·.2)) = Z := by
  induction Z with
  | nil => rfl
  | cons p r ih => rw [List.map_cons, List.map_cons, List.zip_cons_cons, ih]
theorem RS.put_zip (D : RS) (Z : List (Int × Int)) : (D.put Z).zip = Z := zip_unzip Z
def RS.trim (D : RS) (off en : Int) (s : ByteArray) (fin : Bool) : Int × ByteArray × Bool :=
  if D.fin < 0 then (en, s, fin) else if en ≤ D.fin then (en, s, fin && decide (en = D.fin)) else (max D.fin off, s.extract 0 (max D.fin off - off).toNat, false)
def RS.push2 (D : RS) (off en : Int) (s : ByteArray) (fin : Bool) : RS × GotV :=
  let D1 : RS := if fin = true ∧ D.fin < 0 ∧ (D.told.size : Int) ≤ en ∧ (D.places.any fun y => decide (en ≤ y)) = false then { D with fin := en } else D
  let D2 : RS := D1.put (ins D1.zip off s.data.toList D.told.size)
  let out := strOfNums (rel D2.places.length D2.told.size D2.zip (-1)).2.2
  let D4 : RS := { D2.rels with told := D.told ++ out }
  let now := !D.over && decide (D4.fin = D4.told.size)
  let D5 : RS := { D4 with over := D.over || now }
  (D5, if out.size ≠ 0 ∨ now = true then ⟨1, D.told.size, out, now⟩ else if (D.told.size : Int) < en then ⟨4, 0, ⟨#[]⟩, false⟩ else if 0 ≤ off ∧ (D.told.size : Int) - D.hist ≤ off then
    ⟨2, off, D4.told.extract off.toNat en.toNat, fin && D5.over && decide (en = D5.fin)⟩ else ⟨3, 0, ⟨#[]⟩, false⟩)
def RS.push (D : RS) (n : Int) (s : ByteArray) (fin : Bool) : RS × GotV :=
  if s.size = 0 ∧ fin = false then (D, ⟨0, 0, ⟨#[]⟩, false⟩) else
  if (D.told.size : Int) + D.buffer < (D.trim (plc D.begin_ n D.told.size) (plc D.begin_ n D.told.size + s.size) s fin).1 then (D, ⟨5, 0, ⟨#[]⟩, false⟩) else
  D.push2 (plc D.begin_ n D.told.size) (D.trim (plc D.begin_ n D.told.size) (plc D.begin_ n D.told.size + s.size) s fin).1 (D.trim (plc D.begin_ n D.told.size) (plc D.begin_ n D.told.size + s.size) s fin).2.1 (D.trim (plc D.begin_ n D.told.size) (plc D.begin_ n D.told.size + s.size) s fin).2.2
def RPushPost (q : Nat) (vp vb : Value) (r : RS × GotV) (w : World) (e : Ending) (w' : World) : Prop :=
  e = .returned (gotVal r.2) ∧ ∃ vp' vb', RAt w' q vp' vb' r.1 ∧ Mv (RB q vp vb) w w' ∧ ∀ k, RB q vp' vb' k → RB q vp vb k ∨ w.heap.size ≤ k
/-- The reference's state under way: the result's block stands beside it. -/
def RG (w : World) (r : Nat) (g : GotV) : Prop := w.heap[r]? = some (.cells #[.int .i64 g.kind, .int .i64 g.from_, .string g.data, .bool g.fin] 40 (0, 0))
theorem RG.cells {w : World} {r : Nat} {g : GotV} (h : RG w r g) : CellsAt w r 0 4 [.int .i64 g.kind, .int .i64 g.from_, .string g.data, .bool g.fin] := by
  unfold RG at h
  refine .cons ⟨?_⟩ (.cons ⟨?_⟩ (.cons ⟨?_⟩ (.cons ⟨?_⟩ .nil))) <;> (unfold World.cell?; rw [h]; rfl)
structure RP (q r : Nat) (vp vb : Value) (D : RS) (w w' : World) (vp' vb' : Value) : Prop where
  at_ : RAt w' q vp' vb' D
  mv : Mv (RB q vp vb) w w'
  own : ∀ k, RB q vp' vb' k → RB q vp vb k ∨ w.heap.size ≤ k
  res : RG w' r g0
  nr : ∀ k, RB q vp' vb' k → k ≠ r
  fresh : w.heap.size ≤ r
theorem RP.same {q r : Nat} {vp vb vp' vb' : Value} {D : RS} {w w' w'' : World} (h : RP q r vp vb D w w' vp' vb') (s : Same w' w'') : RP q r vp vb D w w'' vp' vb' :=
  ⟨h.at_.same s, h.mv.same s, h.own, by unfold RG; rw [s.heap]; exact h.res, h.nr, h.fresh⟩
/-- A way out. -/
theorem RP.give {q r : Nat} {vp vb vp' vb' : Value} {x : RS × GotV} {w w' w'' : World} {f : Fr} (h : RP q r vp vb x.1 w w' vp' vb') (hb : w''.heap[r]? = some (.cells #[.int .i64 x.2.kind, .int .i64 x.2.from_, .string x.2.data, .bool x.2.fin] 40 (0, 0))) (hm : Mv (· = r) w' w'') (h8 : fget f 8 = some (.pointer (some ⟨r, 0, none⟩))) :
    N 233 f w'' (bodyPost Try.prog Try.f17 (RPushPost q vp vb x w)) .ret := by
  refine post LO (rs := [.cell 8 40]) rfl (vs := [gotVal x.2]) (.cell h8 rfl (.agg (RG.cells hb)) .nil) ⟨rfl, vp', vb', h.at_.moved hm fun k hk e => h.nr k hk e, h.mv.cut hm fun k hk e => by have := h.fresh; omega, h.own⟩
theorem RAt.put {w w' : World} {q : Nat} {vp vb : Value} {D D' : RS} (h : RAt w q vp vb D) (hb : w'.heap[q]? = some (.cells (D'.vs vp vb).toArray 59 (0, 0))) (hp : D'.places = D.places) (hy : D'.bytes = D.bytes) (m : Mv (· = q) w w') : RAt w' q vp vb D' :=
  ⟨hb, by rw [hp]; exact h.op.moved m fun k hk e => h.nq.1 (e ▸ hk), by rw [hy]; exact h.ob.moved m fun k hk e => h.nq.2 (e ▸ hk), h.nq, h.npb⟩
theorem RP.put {q r : Nat} {vp vb vp' vb' : Value} {D D' : RS} {w w' w'' : World} (h : RP q r vp vb D w w' vp' vb') (hb : w''.heap[q]? = some (.cells (D'.vs vp' vb').toArray 59 (0, 0))) (hp : D'.places = D.places) (hy : D'.bytes = D.bytes) (m : Mv (· = q) w' w'') : RP q r vp vb D' w w'' vp' vb' :=
  ⟨h.at_.put hb hp hy m, h.mv.cut m fun _ _ e => .inl e, h.own, (m.block r (Array.getElem?_eq_some_iff.1 h.res).1 (fun e => h.nr q (.inl rfl) e.symm)).trans h.res, h.nr, h.fresh⟩
theorem idx_none {ps bs : List Int} (hl : ps.length = bs.length) (x : Int) : (ps.zip bs).lookup x = none ↔ idxOf ps x < 0 := by
  rw [lookup_none]
  unfold idxOf
  cases hf : ps.findIdx? (· == x) with
  | none =>
    refine ⟨fun _ => by decide, fun _ p hp => ?_⟩
    have := List.findIdx?_eq_none_iff.1 hf p.1 (List.of_mem_zip (a := p.1) (b := p.2) hp).1
    simpa using this
  | some i =>
    obtain ⟨hlt, hpi, _⟩ := List.findIdx?_eq_some_iff_getElem.1 hf
    refine ⟨fun h => ?_, fun h => by simp only at h; omega⟩
    exfalso
    refine h (ps[i], bs[i]'(by omega)) ?_ (by simpa using hpi)
    exact List.mem_of_getElem? (i := i) (by rw [List.getElem?_zip_eq_some]; exact ⟨List.getElem?_eq_getElem hlt, List.getElem?_eq_getElem (by omega)⟩)
def rsl (q r : Nat) (s : ByteArray) (fin : Bool) (at_ off en : Int) : Fr := [(0, .pointer (some ⟨q, 0, none⟩)), (2, .string s), (3, .bool fin), (8, .pointer (some ⟨r, 0, none⟩)), (9, .int .i64 at_), (10, .int .i64 off), (11, .int .i64 en)]
/-- Rows of unlike elements lie apart. -/
theorem own_ne {w : World} {e e' : TypeId} {v v' : Value} {xs xs' : List Value} (h : Own w e v xs) (h' : Own w e' v' xs') (he : e ≠ e') (k : Nat) (hk : v.ownBlock = some k) : v'.ownBlock ≠ some k := by
  intro hk'
  rcases h.2 with ⟨rfl, _⟩ | ⟨g, cap, cur, rfl, _, hg, _⟩
  · cases hk
  · rcases h'.2 with ⟨rfl, _⟩ | ⟨g', cap', cur', rfl, _, hg', _⟩
    · cases hk'
    · have e1 : g = k := Option.some.inj hk
      have e2 : g' = k := Option.some.inj hk'
      rw [e1] at hg
      rw [e2] at hg'
      rw [hg] at hg'
      injection hg' with h1
      injection h1 with h2 h3
      exact he h3
theorem reads_one (w : World) (e : TypeId) (u : Value) : Reads (w.alloc (.cells [u].toArray e)) (.slice (some ⟨w.heap.size, 0, none⟩) 1 1) [u] := by
  refine ⟨_, _, _, rfl, rfl, fun h => (by cases h), fun j v hj => ?_⟩
  cases j with
  | zero =>
    obtain rfl : u = v := by simpa using hj
    refine ⟨_, rfl, ?_⟩
    rw [Addr.add_lit]
    unfold World.cell?
    have := heap_alloc_new w (.cells [u].toArray e)
    simp only [this]
    rfl
  | succ j => simp at hj
/-- What a new row of one, what a row grown shows. -/
def GOne (z : Nat) (u : Value) : Value → World → Prop := fun v w => Reads w v [u] ∧ ∀ k, v.ownBlock = some k → z ≤ k
def GRow (z : Nat) (e : TypeId) (old : Value) (xs : List Value) : Value → World → Prop := fun v w => Own w e v xs ∧ ∀ k, v.ownBlock = some k → old.ownBlock = some k ∨ z ≤ k
theorem GOne.moved {z : Nat} {u v : Value} {S : Nat → Prop} {w w' : World} (h : GOne z u v w) (m : Mv S w w') (hs : ∀ k, S k → k < z) : GOne z u v w' := ⟨h.1.moved m fun k hk hS => by have := h.2 k hk; have := hs k hS; omega, h.2⟩
theorem GRow.moved {z : Nat} {e : TypeId} {old v : Value} {xs : List Value} {S : Nat → Prop} {w w' : World} (h : GRow z e old xs v w) (m : Mv S w w') (hs : ∀ k, S k → k < z ∧ old.ownBlock ≠ some k) : GRow z e old xs v w' := ⟨h.1.moved m fun k hk hS => by
  have := hs k hS
  rcases h.2 k hk with h1 | h1
  · exact this.2 h1
  · omega, h.2⟩
theorem RP.rel {q r : Nat} {vp vb vp' vb' v2 b2 : Value} {D D' : RS} {w w' w'' : World} (h : RP q r vp vb D w w' vp' vb') (hA : RAt w'' q v2 b2 D') (hM : Mv (RB q vp' vb') w' w'') (hO : ∀ k, RB q v2 b2 k → RB q vp' vb' k ∨ w'.heap.size ≤ k) : RP q r vp vb D' w w'' v2 b2 := by
  have hr : r < w'.heap.size := (Array.getElem?_eq_some_iff.1 h.res).1
  refine ⟨hA, h.mv.cut hM fun k hk hS => ?_, fun k hk => ?_, (hM.block r hr fun e => h.nr r e rfl).trans h.res, fun k hk e => ?_, h.fresh⟩
  · rcases h.own k hS with h1 | h1
    · exact h1
    · omega
  · rcases hO k hk with h1 | h1
    · exact h.own k h1
    · right; have := h.mv.size; omega
  · rcases hO k hk with h1 | h1
    · exact h.nr k h1 e
    · omega
theorem set_one (a : Array Value) (h : a.size = 1) (u : Value) : a.setIfInBounds 0 u = #[u] := by
  obtain ⟨l⟩ := a
  match l, h with
  | [x], _ => rfl
theorem fill_one (z u : Value) (hz : z.cells = #[z]) (hu : u.cells = #[u]) : Instr.fill (fun i => some (i * 1, 1)) ((Array.range (1 * 1)).map (z.cells[· % z.cells.size]!)) [(0, u)] = some [u].toArray := by
  rw [hz]
  simp only [Instr.fill, hu]
  simp [Array.range, set_one]
/-- What a push of the reference needs. -/
structure RCan (D : RS) (n : Nat) : Prop where
  ok : ROk D
  bg : 0 ≤ D.begin_ ∧ D.begin_ < 4294967296
  bu : 0 ≤ D.buffer ∧ D.buffer ≤ 1024
  hi : 0 ≤ D.hist ∧ D.hist ≤ 1024
  fi : -1 ≤ D.fin ∧ D.fin ≤ 1099511627776
  sz : n ≤ 100000
  few : D.places.length + n ≤ 1000000
set_option maxRecDepth 100000 in
set_option maxHeartbeats 4000000 in
theorem rpush_walk (q : Nat) (vp vb : Value) (D : RS) (n : Int) (s : ByteArray) (fin : Bool) (w : World) (h : RAt w q vp vb D) (hn : 0 ≤ n ∧ n < 4294967296) (can : RCan D s.size) :
    Calls Try.prog 17 #[.pointer (some ⟨q, 0, none⟩), .int .u32 n, .string s, .bool fin] w (RPushPost q vp vb (D.push n s fin) w) := by
  obtain ⟨iI, hiI, hzI, hsI, hbI⟩ := info_int
  obtain ⟨iB, hiB, hzB, hsB, hbB⟩ := info_parts info_u8
  refine calls_W (n := 233) (vs := [.pointer (some ⟨q, 0, none⟩), .int .u32 n, .string s, .bool fin]) Try.func17 rfl rfl rfl ?_
  obtain ⟨hok, hbg, hbu, hhi, hfi, hsn, hfew⟩ := can
  have htold := hok.told
  refine W.seq (W.list (Ls.alloc LO rfl rfl rfl rfl rfl (Ls.nil (N.to ?_))))
  have hP : RP q w.heap.size vp vb D w (w.alloc (.cells #[.int .i64 0, .int .i64 0, .string ⟨#[]⟩, .bool false] 40)) vp vb :=
    ⟨h.moved ((Mv.refl (fun _ => False) w).alloc _) (fun _ _ e => e), (Mv.refl _ w).alloc _, fun k hk => .inl hk, heap_alloc_new w _, fun k hk => Nat.ne_of_lt (h.lt k hk), Nat.le_refl _⟩
  generalize w.alloc (.cells [.int .i64 0, .int .i64 0, .string ⟨#[]⟩, .bool false].toArray 40) = w1 at hP
  generalize w.heap.size = r at hP
  refine W.cutS (fun w' g => (RP q r vp vb D w w' vp vb ∧ g = [(0, .pointer (some ⟨q, 0, none⟩)), (1, .int .u32 n), (2, .string s), (3, .bool fin), (8, .pointer (some ⟨r, 0, none⟩))]) ∧ ¬ (s.size = 0 ∧ fin = false)) ?_ ?_
  · by_cases hpure : s.size = 0 ∧ fin = false
    · obtain ⟨hs0, rfl⟩ := hpure
      have e : D.push n s false = (D, g0) := by unfold RS.push; rw [if_pos ⟨hs0, rfl⟩]; rfl
      have k1 : Kn ((s.size : Int) == 0) true := .of (by rw [hs0]; rfl)
      apply W.readS LO mixed [8, 21] (by kernel_rfl)
      · repeat' (first | rfl | with_reducible assumption | assumption | constructor)
      intro w2 f2 s2 hf2
      replace hf2 : f2 = [(8, _), (21, _)] := hf2
      subst hf2
      refine W.cond (b := true) rfl (fun _ => ?_) (fun h => by cases h)
      refine W.seq (W.list ?_)
      apply Ls.runK LO [8, 22] 1
      · repeat' (first | rfl | with_reducible assumption | assumption | constructor)
      intro w3 f3 s3 hf3
      replace hf3 : f3 = [(8, _), (22, _)] := hf3
      subst hf3
      have hP := (hP.same s2).same s3
      refine Ls.store LO rfl rfl rfl rfl rfl (vs := [.int .i64 0, .int .i64 0, .string ⟨#[]⟩, .bool false]) rfl rfl rfl hP.res rfl ?_
      intro w4 hb hm _
      refine Ls.nil (N.to (W.ret ?_))
      rw [e]
      exact RP.give (x := (D, g0)) hP hb hm rfl
    · by_cases hs0 : s.size = 0
      · have hft : fin = true := by
          cases fin with
          | true => rfl
          | false => exact absurd ⟨hs0, rfl⟩ hpure
        subst hft
        have k1 : Kn ((s.size : Int) == 0) true := .of (by rw [hs0]; rfl)
        apply W.readS LO mixed [0, 1, 2, 3, 8, 21] (by kernel_rfl)
        · repeat' (first | rfl | with_reducible assumption | assumption | constructor)
        intro w2 f2 s2 hf2
        replace hf2 : f2 = [(0, _), (1, _), (2, _), (3, _), (8, _), (21, _)] := hf2
        subst hf2
        refine W.cond (b := false) rfl (fun h => by cases h) (fun _ => W.skip ?_)
        exact N.cut ⟨⟨hP.same s2, rfl⟩, hpure⟩ (sub_keys rfl)
      · have k1 : Kn ((s.size : Int) == 0) false := .of (by rw [beq_eq_false_iff_ne]; omega)
        apply W.readS LO mixed [0, 1, 2, 3, 8, 21] (by kernel_rfl)
        · repeat' (first | rfl | with_reducible assumption | assumption | constructor)
        intro w2 f2 s2 hf2
        replace hf2 : f2 = [(0, _), (1, _), (2, _), (3, _), (8, _), (21, _)] := hf2
        subst hf2
        refine W.cond (b := false) rfl (fun h => by cases h) (fun _ => W.skip ?_)
        exact N.cut ⟨⟨hP.same s2, rfl⟩, hpure⟩ (sub_keys rfl)
  rintro w2 _ ⟨⟨hP, rfl⟩, hpure⟩
  obtain ⟨off, hoff⟩ : ∃ off, off = plc D.begin_ n D.told.size := ⟨_, rfl⟩
  have ho : -2147483648 ≤ off ∧ off ≤ 1101659111424 := by
    have := sd_range n ((D.begin_ + D.told.size) % 4294967296)
    rw [hoff]; unfold plc; omega
  have hpush : D.push n s fin = if (D.told.size : Int) + D.buffer < (D.trim off (off + s.size) s fin).1 then (D, ⟨5, 0, ⟨#[]⟩, false⟩) else
      D.push2 off (D.trim off (off + s.size) s fin).1 (D.trim off (off + s.size) s fin).2.1 (D.trim off (off + s.size) s fin).2.2 := by
    rw [hoff]
    unfold RS.push
    rw [if_neg hpure]
  rw [hpush]
  obtain ⟨T1, T2, T3, hT⟩ : ∃ T1 T2 T3, D.trim off (off + s.size) s fin = (T1, T2, T3) := ⟨_, _, _, rfl⟩
  rw [hT]
  have q1 := quiet_of (w := w2) fun w' s' => rat_says q vp vb D w' (hP.at_.same s')
  apply W.readS LO mixed [0, 1, 2, 3, 8, 9] (by kernel_rfl)
  · repeat' (first | rfl | with_reducible assumption | assumption | constructor)
  intro w3 f3 s3 hf3
  replace hf3 : f3 = [(0, _), (1, _), (2, _), (3, _), (8, _), (9, _)] := hf3
  subst hf3
  have hP := hP.same s3
  clear q1 s3
  obtain ⟨c0, c1, c2, c3, c4, c5, c6, c7⟩ := hP.at_.cls
  have q1 : ∀ w', Same w3 w' → Calls Try.prog 27 #[.int .u32 D.begin_, .int .u32 n, .int .i64 D.told.size] w' fun e w'' => e = .returned (.int .i64 off) ∧ Same w3 w'' := by
    rw [hoff]
    exact quiet_of (w := w3) fun w' _ => rplace_says D.begin_ n D.told.size hbg hn (by omega) (by omega) w'
  apply W.readS LO mixed [0, 2, 3, 8, 9, 10] (by kernel_rfl)
  · repeat' (first | rfl | with_reducible assumption | assumption | constructor)
  intro w4 f4 s4 hf4
  replace hf4 : f4 = [(0, _), (2, _), (3, _), (8, _), (9, _), (10, _)] := hf4
  subst hf4
  have k0 : Kn (IntKind.i64.wrap (off + (s.size : Int))) (off + s.size) := .of (IntWalk.i64_in _ (by omega))
  apply W.readS LO mixed [0, 2, 3, 8, 9, 10, 11] (by kernel_rfl)
  · repeat' (first | rfl | with_reducible assumption | assumption | constructor)
  intro w5 f5 s5 hf5
  replace hf5 : f5 = [(0, _), (2, _), (3, _), (8, _), (9, _), (10, _), (11, _)] := hf5
  subst hf5
  have hP := (hP.same s4).same s5
  clear c0 c1 c2 c3 c4 c5 c6 c7 q1 s4 s5 k0 hpush
  refine W.cutS (fun w' g => RP q r vp vb D w w' vp vb ∧ g = rsl q r T2 T3 D.told.size off T1) ?_ ?_
  · obtain ⟨c0, c1, c2, c3, c4, c5, c6, c7⟩ := hP.at_.cls
    unfold RS.trim at hT
    by_cases hfin : D.fin < 0
    · rw [if_pos hfin] at hT
      obtain ⟨rfl, rfl, rfl⟩ : off + (s.size : Int) = T1 ∧ s = T2 ∧ fin = T3 := by simpa using hT
      have k1 : Kn (decide (0 ≤ D.fin)) false := .no (by omega)
      apply W.readS LO mixed [0, 2, 3, 8, 9, 10, 11, 40] (by kernel_rfl)
      · repeat' (first | rfl | with_reducible assumption | assumption | constructor)
      intro w6 f6 s6 hf6
      replace hf6 : f6 = [(0, _), (2, _), (3, _), (8, _), (9, _), (10, _), (11, _), (40, _)] := hf6
      subst hf6
      refine W.cond (b := false) rfl (fun h => by cases h) (fun _ => W.skip ?_)
      exact N.cut ⟨hP.same s6, rfl⟩ (sub_keys rfl)
    · rw [if_neg hfin] at hT
      have k1 : Kn (decide (0 ≤ D.fin)) true := .yes (by omega)
      apply W.readS LO mixed [0, 2, 3, 8, 9, 10, 11, 40] (by kernel_rfl)
      · repeat' (first | rfl | with_reducible assumption | assumption | constructor)
      intro w6 f6 s6 hf6
      replace hf6 : f6 = [(0, _), (2, _), (3, _), (8, _), (9, _), (10, _), (11, _), (40, _)] := hf6
      subst hf6
      refine W.cond (b := true) rfl (fun _ => ?_) (fun h => by cases h)
      have hP6 := hP.same s6
      clear c0 c1 c2 c3 c4 c5 c6 c7
      obtain ⟨c0, c1, c2, c3, c4, c5, c6, c7⟩ := hP6.at_.cls
      refine W.cutS (fun w' g => RP q r vp vb D w w' vp vb ∧ g = rsl q r s (fin && (off + (s.size : Int) == D.fin)) D.told.size off (off + s.size)) ?_ ?_
      · have k3 : fin = true ∨ fin = false := by cases fin <;> simp
        rcases k3 with rfl | rfl
        ·
          apply W.readN LO mixed [0, 2, 3, 8, 9, 10, 11] (by kernel_rfl)
          · repeat' (first | rfl | with_reducible assumption | assumption | constructor)
          intro w7 f7 s7 hf7
          replace hf7 : f7 = [(0, _), (2, _), (3, _), (8, _), (9, _), (10, _), (11, _)] := hf7
          subst hf7
          exact N.cut ⟨hP6.same s7, rfl⟩ (sub_keys rfl)
        ·
          apply W.readN LO mixed [0, 2, 3, 8, 9, 10, 11] (by kernel_rfl)
          · repeat' (first | rfl | with_reducible assumption | assumption | constructor)
          intro w7 f7 s7 hf7
          replace hf7 : f7 = [(0, _), (2, _), (3, _), (8, _), (9, _), (10, _), (11, _)] := hf7
          subst hf7
          exact N.cut ⟨hP6.same s7, rfl⟩ (sub_keys rfl)
      rintro w7 _ ⟨hP7, rfl⟩
      clear c0 c1 c2 c3 c4 c5 c6 c7
      obtain ⟨c0, c1, c2, c3, c4, c5, c6, c7⟩ := hP7.at_.cls
      by_cases hle : off + (s.size : Int) ≤ D.fin
      · rw [if_pos hle] at hT
        obtain ⟨rfl, rfl, rfl⟩ : off + (s.size : Int) = T1 ∧ s = T2 ∧ (fin && decide (off + (s.size : Int) = D.fin)) = T3 := by simpa using hT
        have k2 : Kn (decide (D.fin < off + (s.size : Int))) false := .no (by omega)
        apply W.readS LO mixed [0, 2, 3, 8, 9, 10, 11, 55] (by kernel_rfl)
        · repeat' (first | rfl | with_reducible assumption | assumption | constructor)
        intro w8 f8 s8 hf8
        replace hf8 : f8 = [(0, _), (2, _), (3, _), (8, _), (9, _), (10, _), (11, _), (55, _)] := hf8
        subst hf8
        refine W.cond (b := false) rfl (fun h => by cases h) (fun _ => W.skip ?_)
        exact N.cut ⟨hP7.same s8, rfl⟩ (sub_keys rfl)
      · rw [if_neg hle] at hT
        obtain ⟨rfl, rfl, rfl⟩ : max D.fin off = T1 ∧ s.extract 0 (max D.fin off - off).toNat = T2 ∧ false = T3 := by simpa using hT
        have k2 : Kn (decide (D.fin < off + (s.size : Int))) true := .yes (by omega)
        have k4 : (off + (s.size : Int) == D.fin) = false := by rw [beq_eq_false_iff_ne]; omega
        rw [k4, Bool.and_false]
        apply W.readS LO mixed [0, 2, 3, 8, 9, 10, 11, 55] (by kernel_rfl)
        · repeat' (first | rfl | with_reducible assumption | assumption | constructor)
        intro w8 f8 s8 hf8
        replace hf8 : f8 = [(0, _), (2, _), (3, _), (8, _), (9, _), (10, _), (11, _), (55, _)] := hf8
        subst hf8
        have hP8 := hP7.same s8
        clear c0 c1 c2 c3 c4 c5 c6 c7
        obtain ⟨c0, c1, c2, c3, c4, c5, c6, c7⟩ := hP8.at_.cls
        refine W.cond (b := true) rfl (fun _ => ?_) (fun h => by cases h)
        have k5 : Kn (IntKind.i64.wrap (D.fin - off)) (D.fin - off) := .of (IntWalk.i64_in _ (by omega))
        have k6 : Kn (if 0 > D.fin - off then 0 else D.fin - off) (max D.fin off - off) := .of (by split <;> omega)
        have k7 : 0 ≤ max D.fin off - off := by omega
        have k8 : max D.fin off - off ≤ (s.size : Int) := by omega
        apply W.readS LO mixed [0, 2, 3, 8, 9, 10, 11] (by kernel_rfl)
        · repeat' (first | rfl | with_reducible assumption | assumption | constructor)
        intro w9 f9 s9 hf9
        replace hf9 : f9 = [(0, _), (2, _), (3, _), (8, _), (9, _), (10, _), (11, _)] := hf9
        subst hf9
        have esz : off + ((s.extract 0 (max D.fin off - off).toNat).size : Int) = max D.fin off := by rw [ByteArray.size_extract]; omega
        have k9 : Kn (IntKind.i64.wrap (off + ((s.extract 0 (max D.fin off - off).toNat).size : Int))) (max D.fin off) := .of (by rw [esz]; exact IntWalk.i64_in _ (by omega))
        apply W.readN LO mixed [0, 2, 3, 8, 9, 10, 11] (by kernel_rfl)
        · repeat' (first | rfl | with_reducible assumption | assumption | constructor)
        intro w10 f10 s10 hf10
        replace hf10 : f10 = [(0, _), (2, _), (3, _), (8, _), (9, _), (10, _), (11, _)] := hf10
        subst hf10
        exact N.cut ⟨(hP8.same s9).same s10, rfl⟩ (sub_keys rfl)
  rintro w6 _ ⟨hP, rfl⟩
  have hT1 : -2147483648 ≤ T1 ∧ T1 ≤ 1201659111424 := by
    unfold RS.trim at hT
    split at hT
    · cases hT; omega
    · split at hT <;> cases hT <;> omega
  have hT2 : T2.size ≤ s.size := by
    unfold RS.trim at hT
    split at hT
    · cases hT; omega
    · split at hT <;> cases hT
      · omega
      · rw [ByteArray.size_extract]; omega
  have hT3 : T1 = off + T2.size := by
    unfold RS.trim at hT
    split at hT
    · cases hT; omega
    · split at hT <;> cases hT
      · omega
      · rw [ByteArray.size_extract]; omega
  obtain ⟨c0, c1, c2, c3, c4, c5, c6, c7⟩ := hP.at_.cls
  have k0 : Kn (IntKind.i64.wrap ((D.told.size : Int) + D.buffer)) ((D.told.size : Int) + D.buffer) := .of (IntWalk.i64_in _ (by omega))
  by_cases hov : (D.told.size : Int) + D.buffer < T1
  · have k1 : Kn (decide ((D.told.size : Int) + D.buffer < T1)) true := .yes hov
    refine W.cutS (fun _ _ => False) ?_ (fun _ _ h => h.elim)
    apply W.readS LO mixed [8, 76] (by kernel_rfl)
    · repeat' (first | rfl | with_reducible assumption | assumption | constructor)
    intro w7 f7 s7 hf7
    replace hf7 : f7 = [(8, _), (76, _)] := hf7
    subst hf7
    refine W.cond (b := true) rfl (fun _ => ?_) (fun h => by cases h)
    refine W.seq (W.list ?_)
    apply Ls.runK LO [8, 77] 1
    · repeat' (first | rfl | with_reducible assumption | assumption | constructor)
    intro w8 f8 s8 hf8
    replace hf8 : f8 = [(8, _), (77, _)] := hf8
    subst hf8
    have hP := (hP.same s7).same s8
    refine Ls.store LO rfl rfl rfl rfl rfl (vs := [.int .i64 5, .int .i64 0, .string ⟨#[]⟩, .bool false]) rfl rfl rfl hP.res rfl ?_
    intro w9 hb hm _
    refine Ls.nil (N.to (W.ret ?_))
    rw [if_pos hov]
    exact RP.give (x := (D, ⟨5, 0, ⟨#[]⟩, false⟩)) hP hb hm rfl
  have k1 : Kn (decide ((D.told.size : Int) + D.buffer < T1)) false := .no hov
  refine W.cutS (fun w' g => RP q r vp vb D w w' vp vb ∧ g = rsl q r T2 T3 D.told.size off T1) ?_ ?_
  ·
    apply W.readS LO mixed [0, 2, 3, 8, 9, 10, 11, 76] (by kernel_rfl)
    · repeat' (first | rfl | with_reducible assumption | assumption | constructor)
    intro w7 f7 s7 hf7
    replace hf7 : f7 = [(0, _), (2, _), (3, _), (8, _), (9, _), (10, _), (11, _), (76, _)] := hf7
    subst hf7
    refine W.cond (b := false) rfl (fun h => by cases h) (fun _ => W.skip ?_)
    exact N.cut ⟨hP.same s7, rfl⟩ (sub_keys rfl)
  rw [if_neg hov]
  rintro w7 _ ⟨hP, rfl⟩
  clear c0 c1 c2 c3 c4 c5 c6 c7 k0 k1 hT hpure
  obtain ⟨D1, hD1⟩ : ∃ D1, D1 = if T3 = true ∧ D.fin < 0 ∧ (D.told.size : Int) ≤ T1 ∧ (D.places.any fun y => decide (T1 ≤ y)) = false then { D with fin := T1 } else D := ⟨_, rfl⟩
  refine W.cutS (fun w' g => RP q r vp vb D1 w w' vp vb ∧ g = rsl q r T2 T3 D.told.size off T1) ?_ ?_
  · obtain ⟨c0, c1, c2, c3, c4, c5, c6, c7⟩ := hP.at_.cls
    have q1 := quiet_of (w := w7) fun w' s' => beyond_says q vp vb D T1 w' (hP.at_.same s') hok.few
    by_cases hc : T3 = true ∧ D.fin < 0 ∧ (D.told.size : Int) ≤ T1 ∧ (D.places.any fun y => decide (T1 ≤ y)) = false
    · rw [if_pos hc] at hD1
      subst hD1
      obtain ⟨rfl, h1, h2, h3⟩ := hc
      rw [h3] at q1
      have k1 : Kn (decide (D.fin < 0)) true := .yes h1
      have k2 : Kn (decide ((D.told.size : Int) ≤ T1)) true := .yes h2
      apply W.readS LO mixed [0, 2, 3, 8, 9, 10, 11, 96] (by kernel_rfl)
      · repeat' (first | rfl | with_reducible assumption | assumption | constructor)
      intro w8 f8 s8 hf8
      replace hf8 : f8 = [(0, _), (2, _), (3, _), (8, _), (9, _), (10, _), (11, _), (96, _)] := hf8
      subst hf8
      refine W.cond (b := true) rfl (fun _ => ?_) (fun h => by cases h)
      refine W.list ?_
      apply Ls.runK LO [0, 2, 3, 8, 9, 10, 11, 98, 100] 4
      · repeat' (first | rfl | with_reducible assumption | assumption | constructor)
      intro w9 f9 s9 hf9
      replace hf9 : f9 = [(0, _), (2, _), (3, _), (8, _), (9, _), (10, _), (11, _), (98, _), (100, _)] := hf9
      subst hf9
      have hP := (hP.same s8).same s9
      refine Ls.store LO rfl rfl rfl rfl rfl (vs := [.int .i64 T1]) rfl rfl rfl hP.at_.blk rfl ?_
      intro w10 hb hm _
      exact Ls.nil (N.cut ⟨hP.put (D' := { D with fin := T1 }) hb rfl rfl hm, rfl⟩ (sub_keys rfl))
    · rw [if_neg hc] at hD1
      rw [hD1]
      clear hD1 D1
      refine W.cutS (fun w' g => Same w7 w' ∧ g = (96, .bool false) :: rsl q r T2 T3 D.told.size off T1) ?_ ?_
      · cases T3 with
        | false =>
          apply W.readN LO mixed [96, 0, 2, 3, 8, 9, 10, 11] (by kernel_rfl)
          · repeat' (first | rfl | with_reducible assumption | assumption | constructor)
          intro w8 f8 s8 hf8
          replace hf8 : f8 = [(96, _), (0, _), (2, _), (3, _), (8, _), (9, _), (10, _), (11, _)] := hf8
          subst hf8
          exact N.cut ⟨s8, rfl⟩ (sub_keys rfl)
        | true =>
          by_cases h1 : D.fin < 0
          · have k1 : Kn (decide (D.fin < 0)) true := .yes h1
            by_cases h2 : (D.told.size : Int) ≤ T1
            · have k2 : Kn (decide ((D.told.size : Int) ≤ T1)) true := .yes h2
              have h3 : (D.places.any fun y => decide (T1 ≤ y)) = true := by
                cases h3 : (D.places.any fun y => decide (T1 ≤ y)) with
                | true => rfl
                | false => exact absurd ⟨rfl, h1, h2, h3⟩ hc
              rw [h3] at q1
              apply W.readN LO mixed [96, 0, 2, 3, 8, 9, 10, 11] (by kernel_rfl)
              · repeat' (first | rfl | with_reducible assumption | assumption | constructor)
              intro w8 f8 s8 hf8
              replace hf8 : f8 = [(96, _), (0, _), (2, _), (3, _), (8, _), (9, _), (10, _), (11, _)] := hf8
              subst hf8
              exact N.cut ⟨s8, rfl⟩ (sub_keys rfl)
            · have k2 : Kn (decide ((D.told.size : Int) ≤ T1)) false := .no h2
              apply W.readN LO mixed [96, 0, 2, 3, 8, 9, 10, 11] (by kernel_rfl)
              · repeat' (first | rfl | with_reducible assumption | assumption | constructor)
              intro w8 f8 s8 hf8
              replace hf8 : f8 = [(96, _), (0, _), (2, _), (3, _), (8, _), (9, _), (10, _), (11, _)] := hf8
              subst hf8
              exact N.cut ⟨s8, rfl⟩ (sub_keys rfl)
          · have k1 : Kn (decide (D.fin < 0)) false := .no h1
            apply W.readN LO mixed [96, 0, 2, 3, 8, 9, 10, 11] (by kernel_rfl)
            · repeat' (first | rfl | with_reducible assumption | assumption | constructor)
            intro w8 f8 s8 hf8
            replace hf8 : f8 = [(96, _), (0, _), (2, _), (3, _), (8, _), (9, _), (10, _), (11, _)] := hf8
            subst hf8
            exact N.cut ⟨s8, rfl⟩ (sub_keys rfl)
      rintro w8 _ ⟨s8, rfl⟩
      refine W.cond (b := false) rfl (fun h => by cases h) (fun _ => W.skip ?_)
      exact N.cut ⟨hP.same s8, rfl⟩ (sub_keys rfl)
  rintro w8 _ ⟨hP, rfl⟩
  have e1 : D1.places = D.places ∧ D1.bytes = D.bytes ∧ D1.told = D.told := by rw [hD1]; split <;> exact ⟨rfl, rfl, rfl⟩
  -- the bytes
  refine W.cutS (fun w' g => (∃ vp' vb', RP q r vp vb (D1.put (ins D1.zip off T2.data.toList D.told.size)) w w' vp' vb' ∧ ROk (D1.put (ins D1.zip off T2.data.toList D.told.size))) ∧ g = rsl q r T2 T3 D.told.size off T1) ?_ ?_
  ·
    apply W.readS LO mixed [0, 2, 3, 8, 9, 10, 11, 12] (by kernel_rfl)
    · repeat' (first | rfl | with_reducible assumption | assumption | constructor)
    intro w9 f9 s9 hf9
    replace hf9 : f9 = [(0, _), (2, _), (3, _), (8, _), (9, _), (10, _), (11, _), (12, _)] := hf9
    subst hf9
    have hP := hP.same s9
    refine W.block (W.loop (fun k w' g => ∃ (j : Nat) (ps bs : List Int) (vp' vb' : Value), k + j = T2.size ∧ ps.length = bs.length ∧ ps.Nodup ∧ ps.length ≤ D.places.length + j ∧ RP q r vp vb { D1 with places := ps, bytes := bs } w w' vp' vb' ∧ ins (ps.zip bs) (off + j) (T2.data.toList.drop j) D.told.size = ins D1.zip off T2.data.toList D.told.size ∧
      g = (12, .int .i64 j) :: rsl q r T2 T3 D.told.size off T1) T2.size _ ⟨0, D1.places, D1.bytes, vp, vb, rfl, by rw [e1.1, e1.2.1]; exact hok.len, by rw [e1.1]; exact hok.nd, by rw [e1.1]; omega, hP, by simp [RS.zip], rfl⟩ (sub_keys rfl) ?_)
    clear hP s9
    rintro k w10 _ ⟨j, ps, bs, vp', vb', hkj, hlen, hnd, hfewj, hP, hins, rfl⟩
    by_cases hlt : j < T2.size
    · have k1 : Kn (decide ((j : Int) < (T2.size : Int))) true := .yes (by omega)
      refine W.seq ?_
      apply W.readS LO mixed [0, 2, 3, 8, 9, 10, 11, 12, 104] (by kernel_rfl)
      · repeat' (first | rfl | with_reducible assumption | assumption | constructor)
      intro w11 f11 s11 hf11
      replace hf11 : f11 = [(0, _), (2, _), (3, _), (8, _), (9, _), (10, _), (11, _), (12, _), (104, _)] := hf11
      subst hf11
      have hP := hP.same s11
      refine W.cond (b := true) rfl (fun _ => W.skip (N.to ?_)) (fun h => by cases h)
      obtain ⟨c, hc⟩ : ∃ c, T2.data.toList[j]? = some c := ⟨T2.data.toList[j]'(by rw [bytes_len]; exact hlt), List.getElem?_eq_getElem _⟩
      have hdrop : T2.data.toList.drop j = c :: T2.data.toList.drop (j + 1) := by
        obtain ⟨hl, he⟩ := List.getElem?_eq_some_iff.1 hc
        rw [List.drop_eq_getElem_cons hl, he]
      have hbt : bt T2 (j : Int) = (c.toNat : Int) := by
        unfold bt
        rw [Int.toNat_natCast, List.getD_eq_getElem?_getD, hc]
        rfl
      rw [hdrop] at hins
      simp only [ins] at hins
      rw [show off + (j : Int) + 1 = off + ((j + 1 : Nat) : Int) by omega] at hins
      refine W.cutS (fun w' g => (∃ (ps' bs' : List Int) (vp' vb' : Value), ps'.length = bs'.length ∧ ps'.Nodup ∧ ps'.length ≤ D.places.length + (j + 1) ∧ RP q r vp vb { D1 with places := ps', bytes := bs' } w w' vp' vb' ∧ ps'.zip bs' = (if (ps.zip bs).lookup (off + j) = none ∧ (D.told.size : Int) ≤ off + j then ps.zip bs ++ [(off + (j : Int), (c.toNat : Int))] else ps.zip bs)) ∧ g = (12, .int .i64 j) :: rsl q r T2 T3 D.told.size off T1) ?_ ?_
      · refine W.block ?_
        have k2 : Kn (IntKind.i64.wrap (off + (j : Int))) (off + j) := .of (IntWalk.i64_in _ (by omega))
        obtain ⟨ix, hix⟩ : ∃ ix, ix = idxOf ps (off + j) := ⟨_, rfl⟩
        have q1 : ∀ w', Same w11 w' → Calls Try.prog 29 #[.pointer (some ⟨q, 0, none⟩), .int .i64 (off + j)] w' fun e w'' => e = .returned (.int .i64 ix) ∧ Same w11 w'' := by
          rw [hix]
          exact quiet_of (w := w11) fun w' s' => held_says q vp' vb' _ (off + j) w' (hP.at_.same s') (by show ps.length ≤ _; omega)
        by_cases hge : (D.told.size : Int) ≤ off + j
        · have k3 : Kn (decide ((D.told.size : Int) ≤ off + j)) true := .yes hge
          by_cases hno : (ps.zip bs).lookup (off + j) = none
          · have k4 : Kn (decide (ix < 0)) true := .yes (by rw [hix]; exact (idx_none hlen _).1 hno)
            apply W.readS LO mixed [0, 2, 3, 8, 9, 10, 11, 12, 119] (by kernel_rfl)
            · repeat' (first | rfl | with_reducible assumption | assumption | constructor)
            intro w12 f12 s12 hf12
            replace hf12 : f12 = [(0, _), (2, _), (3, _), (8, _), (9, _), (10, _), (11, _), (12, _), (119, _)] := hf12
            subst hf12
            have hP := hP.same s12
            refine W.cond (b := true) rfl (fun _ => ?_) (fun h => by cases h)
            rw [if_pos ⟨hno, hge⟩]
            have nq := hP.at_.nq
            refine W.held mixed (fun w' => Mv (fun k => vp'.ownBlock = some k ∨ vb'.ownBlock = some k) w12 w') [22, 25] 26 rfl (fun w' s => (Mv.refl _ w12).same s) ?_
            intro w13 s13
            have F4 : ∀ w', Mv (fun k => vp'.ownBlock = some k ∨ vb'.ownBlock = some k) w12 w' → Cl w' ⟨q, 4, none⟩ vp' := fun w' m => ⟨m.cell hP.at_.cls.2.2.2.2.1.h (fun e => by rcases e with e | e; exact nq.1 e; exact nq.2 e)⟩
            have F5 : ∀ w', Mv (fun k => vp'.ownBlock = some k ∨ vb'.ownBlock = some k) w12 w' → Cl w' ⟨q, 5, none⟩ vb' := fun w' m => ⟨m.cell hP.at_.cls.2.2.2.2.2.1.h (fun e => by rcases e with e | e; exact nq.1 e; exact nq.2 e)⟩
            have i0 : (0 : Int) ≤ (j : Int) := by omega
            have i1 : (j : Int) < (T2.size : Int) := by omega
            apply H.takesK LO false [0, 2, 3, 8, 9, 10, 11, 12, 120, 121, 124, 133, 128, 137] [0, 1, 2, 3, 4, 6, 7, 8, 11, 12, 13, 15, 16, 17] (k := 12) rfl (by kernel_rfl)
            · repeat' (first | rfl | with_reducible assumption | assumption | (intro w' hw'; replace hw' := True.intro) | constructor)
            intro g_ hg_
            replace hg_ : g_ = [(0, _), (2, _), (3, _), (8, _), (9, _), (10, _), (11, _), (12, _), (120, _), (121, _), (124, _), (133, _), (128, _), (137, _)] := hg_
            subst hg_
            rw [hbt]
            apply H.takesK LO true [0, 2, 3, 8, 9, 10, 11, 12, 120, 121, 125, 134, 128, 137] [5, 14] (k := 10) rfl (by kernel_rfl)
            · repeat' (first | rfl | with_reducible assumption | assumption | (intro w' hw'; replace hw' := hw' rfl; have h0' := F4 w' hw'; have h1' := F5 w' hw') | constructor)
            intro g_ hg_
            replace hg_ : g_ = [(0, _), (2, _), (3, _), (8, _), (9, _), (10, _), (11, _), (12, _), (120, _), (121, _), (125, _), (134, _), (128, _), (137, _)] := hg_
            subst hg_
            obtain ⟨z, hz⟩ : ∃ z, z = w12.heap.size := ⟨_, rfl⟩
            have z13 : w13.heap.size = z := by rw [hz, s13.heap]
            have hp13 := hP.at_.op.same s13
            have hb13 := hP.at_.ob.same s13
            have hpz : ∀ k, vp'.ownBlock = some k → k < z := fun k hk => by rw [hz]; exact hP.at_.op.lt k hk
            have hbz : ∀ k, vb'.ownBlock = some k → k < z := fun k hk => by rw [hz]; exact hP.at_.ob.lt k hk
            have npb := hP.at_.npb
            have nbp : ∀ k, vb'.ownBlock = some k → vp'.ownBlock ≠ some k := fun k h1 h2 => npb k h2 h1
            have hlp : ps.length ≤ 999999 := by omega
            have hlb : bs.length ≤ 999999 := by omega
            obtain ⟨E, hE⟩ : ∃ E : List Eff, E = [⟨9, 129, GOne z (.int .i64 (off + j)), fun _ => True⟩, ⟨10, 130, GRow z 3 vp' (ps.map (.int .i64) ++ [.int .i64 (off + j)]), fun w => Own w 3 vp' (ps.map (.int .i64))⟩,
              ⟨18, 138, GOne z (.int .u8 (c.toNat : Int)), fun _ => True⟩, ⟨19, 139, GRow z 5 vb' (bs.map (.int .u8) ++ [.int .u8 (c.toNat : Int)]), fun w => Own w 5 vb' (bs.map (.int .u8))⟩] := ⟨_, rfl⟩
            have hstab : ∀ (S : Nat → Prop) (i : Nat) (w' w'' : World), Mv S w' w'' → (∀ k, S k → k < z) → (i ≠ 10 → ∀ k, S k → vp'.ownBlock ≠ some k) → (i ≠ 19 → ∀ k, S k → vb'.ownBlock ≠ some k) → ∀ e' ∈ E, e'.i ≠ i → (e'.A w' → e'.A w'') ∧ ∀ u, e'.G u w' → e'.G u w'' := by
              intro S i w' w'' m h1 h2 h3 e' he' hne
              rw [hE] at he'
              simp only [List.mem_cons, List.not_mem_nil, or_false] at he'
              rcases he' with rfl | rfl | rfl | rfl
              · exact ⟨fun h => h, fun u h => h.moved m h1⟩
              · exact ⟨fun h => h.moved m fun k hk hS => h2 (Ne.symm hne) k hS hk, fun u h => h.moved m fun k hS => ⟨h1 k hS, h2 (Ne.symm hne) k hS⟩⟩
              · exact ⟨fun h => h, fun u h => h.moved m h1⟩
              · exact ⟨fun h => h.moved m fun k hk hS => h3 (Ne.symm hne) k hS hk, fun u h => h.moved m fun k hS => ⟨h1 k hS, h3 (Ne.symm hne) k hS⟩⟩
            have hE4 : E.length = 4 := by rw [hE]; rfl
            refine H.join E _ (fun w' => Mv (fun k => vp'.ownBlock = some k ∨ vb'.ownBlock = some k) w13 w') #[true, true, true, true, true, true, true, true, true, true, true, true, true, true, true, true, true, true, true, true, false, false, false, false, false, false] (k := 6) (by rw [hE]; rfl) (by rw [hE]; kernel_rfl) ?_ (by rw [hE]; show [9, 10, 18, 19].Nodup; decide) (by rw [hE]; show [129, 130, 138, 139].Nodup; decide) (Sub.rfl' _) (Mv.refl _ _) ?_ ?_ ?_ ?_
            · rw [hE]
              intro e he
              simp only [List.mem_cons, List.not_mem_nil, or_false] at he
              rcases he with rfl | rfl | rfl | rfl <;> exact ⟨by kernel_rfl, by kernel_rfl, by rfl⟩
            · rw [hE]
              intro e he
              simp only [List.mem_cons, List.not_mem_nil, or_false] at he
              rcases he with rfl | rfl | rfl | rfl
              · trivial
              · exact hp13
              · trivial
              · exact hb13
            · intro w' m
              exact ((Mv.refl _ w12).same s13).trans m
            · intro e he o f w' ho hsub m hA hpre
              have mz : z ≤ w'.heap.size := by rw [← z13]; exact m.size
              have he2 := he
              rw [hE] at he2
              simp only [List.mem_cons, List.not_mem_nil, or_false] at he2
              rcases he2 with rfl | rfl | rfl | rfl
              · obtain rfl := Option.some.inj ho
                refine Ls.buildSlice rfl rfl rfl rfl und_ints hiI hzI hsI rfl (ps := [(0, .int .i64 (off + j))]) ?_ rfl rfl (cells := [.int .i64 (off + j)]) (by rw [hsI]; exact fill_one _ _ rfl rfl) ?_
                · show (feval f (.tmp 128)).bind _ = _
                  rw [hsub.feval (v := .int .i64 (off + j)) rfl]; rfl
                · refine Ls.nil (N.eff (E := E) (e := ⟨9, 129, GOne z (.int .i64 (off + j)), fun _ => True⟩) (m.alloc _) ⟨reads_one w' _ _, fun k hk => ?_⟩ (hstab (fun _ => False) 9 _ _ ((Mv.refl _ w').alloc _) (fun k e => e.elim) (fun _ k e => e.elim) (fun _ k e => e.elim)))
                  have : w'.heap.size = k := Option.some.inj hk
                  omega
              · obtain rfl := Option.some.inj ho
                obtain ⟨v9, hv9, hg9⟩ := hpre ⟨9, 129, GOne z (.int .i64 (off + j)), fun _ => True⟩ (by rw [hE]; exact List.mem_cons_self) (by kernel_rfl)
                refine Ls.append rfl rfl rfl rfl und_ints hiI hzI hsI hbI rfl (hsub.feval (v := vp') rfl) hv9 hA hg9.1 (fun u hu => by obtain rfl := List.mem_singleton.1 hu; rfl) (by simp only [List.length_map, List.length_singleton, maxLen]; omega) (by simp only [List.length_map, List.length_singleton]; omega) ?_
                intro v' w'' ho2 m2 hb2
                refine Ls.nil (N.eff (E := E) (e := ⟨10, 130, GRow z 3 vp' (ps.map (.int .i64) ++ [.int .i64 (off + j)]), fun w => Own w 3 vp' (ps.map (.int .i64))⟩) (m.cut m2 fun k hk e => .inl e) ⟨ho2, fun k hk => ?_⟩ (hstab (fun k => vp'.ownBlock = some k) 10 _ _ m2 hpz (fun h => absurd rfl h) (fun _ k hk => npb k hk)))
                rcases hb2 with e | e
                · left; rw [← e]; exact hk
                · right; rw [e] at hk; have := Option.some.inj hk; omega
              · obtain rfl := Option.some.inj ho
                refine Ls.buildSlice rfl rfl rfl rfl info_sl8 hiB hzB hsB rfl (ps := [(0, .int .u8 (c.toNat : Int))]) ?_ rfl rfl (cells := [.int .u8 (c.toNat : Int)]) (by rw [hsB]; exact fill_one _ _ rfl rfl) ?_
                · show (feval f (.tmp 137)).bind _ = _
                  rw [hsub.feval (v := .int .u8 (c.toNat : Int)) rfl]; rfl
                · refine Ls.nil (N.eff (E := E) (e := ⟨18, 138, GOne z (.int .u8 (c.toNat : Int)), fun _ => True⟩) (m.alloc _) ⟨reads_one w' _ _, fun k hk => ?_⟩ (hstab (fun _ => False) 18 _ _ ((Mv.refl _ w').alloc _) (fun k e => e.elim) (fun _ k e => e.elim) (fun _ k e => e.elim)))
                  have : w'.heap.size = k := Option.some.inj hk
                  omega
              · obtain rfl := Option.some.inj ho
                obtain ⟨v9, hv9, hg9⟩ := hpre ⟨18, 138, GOne z (.int .u8 (c.toNat : Int)), fun _ => True⟩ (by rw [hE]; simp) (by kernel_rfl)
                refine Ls.append rfl rfl rfl rfl info_sl8 hiB hzB hsB hbB rfl (hsub.feval (v := vb') rfl) hv9 hA hg9.1 (fun u hu => by obtain rfl := List.mem_singleton.1 hu; rfl) (by simp only [List.length_map, List.length_singleton, maxLen]; omega) (by simp only [List.length_map, List.length_singleton]; omega) ?_
                intro v' w'' ho2 m2 hb2
                refine Ls.nil (N.eff (E := E) (e := ⟨19, 139, GRow z 5 vb' (bs.map (.int .u8) ++ [.int .u8 (c.toNat : Int)]), fun w => Own w 5 vb' (bs.map (.int .u8))⟩) (m.cut m2 fun k hk e => .inr e) ⟨ho2, fun k hk => ?_⟩ (hstab (fun k => vb'.ownBlock = some k) 19 _ _ m2 hbz (fun _ k hk => nbp k hk) (fun h => absurd rfl h)))
                rcases hb2 with e | e
                · left; rw [← e]; exact hk
                · right; rw [e] at hk; have := Option.some.inj hk; omega
            · intro f w14 hsub m14 hall
              obtain ⟨v10, hv10, ho10, hf10⟩ := hall ⟨10, 130, GRow z 3 vp' (ps.map (.int .i64) ++ [.int .i64 (off + j)]), fun w => Own w 3 vp' (ps.map (.int .i64))⟩ (by rw [hE]; simp)
              obtain ⟨v19, hv19, ho19, hf19⟩ := hall ⟨19, 139, GRow z 5 vb' (bs.map (.int .u8) ++ [.int .u8 (c.toNat : Int)]), fun w => Own w 5 vb' (bs.map (.int .u8))⟩ (by rw [hE]; simp)
              refine H.sub ?_ (Sub.cons (Sub.cons hsub hv10) hv19)
              clear hall hstab hE hsub
              have m12 : Mv (fun k => vp'.ownBlock = some k ∨ vb'.ownBlock = some k) w12 w14 := ((Mv.refl _ w12).same s13).trans m14
              have hq : q < w12.heap.size := (Array.getElem?_eq_some_iff.1 hP.at_.blk).1
              have hblk : w14.heap[q]? = some (.cells (RS.vs { D1 with places := ps, bytes := bs } vp' vb').toArray 59 (0, 0)) := (m12.block q hq (fun e => by rcases e with e | e; exact nq.1 e; exact nq.2 e)).trans hP.at_.blk
              have nq10 : v10.ownBlock ≠ some q := fun e => by
                rcases hf10 q e with h1 | h1
                · exact nq.1 h1
                · omega
              have nq19 : v19.ownBlock ≠ some q := fun e => by
                rcases hf19 q e with h1 | h1
                · exact nq.2 h1
                · omega
              obtain ⟨a10, c10, e10, _, _, _⟩ := own_slice ho10
              obtain ⟨a19, c19, e19, _, _, _⟩ := own_slice ho19
              apply H.takesK LO false [0, 2, 3, 8, 9, 10, 11, 12, 121, 141, 130, 139] [20, 21] (k := 4) rfl (by kernel_rfl)
              · repeat' (first | rfl | with_reducible assumption | assumption | (intro w' hw'; replace hw' := True.intro) | constructor)
              intro g_ hg_
              replace hg_ : g_ = [(0, _), (2, _), (3, _), (8, _), (9, _), (10, _), (11, _), (12, _), (121, _), (141, _), (130, _), (139, _)] := hg_
              subst hg_
              refine H.only (i := 22) rfl (by kernel_rfl) ?_
              refine Ls.store LO rfl rfl rfl rfl rfl (vs := [v10]) (by rw [e10]; rfl) rfl (by rw [e10]; rfl) hblk rfl ?_
              intro w15 hbk15 m15 _
              refine Ls.nil (N.goOn (fun hint => absurd (show true = false from hint 22 List.mem_cons_self) (by decide)) ?_)
              apply H.takesK LO false [0, 2, 3, 8, 9, 10, 11, 12, 143, 139] [23, 24] (k := 1) rfl (by kernel_rfl)
              · repeat' (first | rfl | with_reducible assumption | assumption | (intro w' hw'; replace hw' := True.intro) | constructor)
              intro g_ hg_
              replace hg_ : g_ = [(0, _), (2, _), (3, _), (8, _), (9, _), (10, _), (11, _), (12, _), (143, _), (139, _)] := hg_
              subst hg_
              refine H.only (i := 25) rfl (by kernel_rfl) ?_
              refine Ls.store LO rfl rfl rfl rfl rfl (vs := [v19]) (by rw [e19]; rfl) rfl (by rw [e19]; rfl) hbk15 rfl ?_
              intro w16 hbk16 m16 _
              refine Ls.nil (N.goOn (fun hint => absurd (show true = false from hint 22 List.mem_cons_self) (by decide)) ?_)
              have ho10' : Own w16 3 v10 (List.map (Value.int .i64) (ps ++ [off + (j : Int)])) := by
                rw [List.map_append]
                exact (ho10.moved m15 (fun k hk e => nq10 (e ▸ hk))).moved m16 (fun k hk e => nq10 (e ▸ hk))
              have ho19' : Own w16 5 v19 (List.map (Value.int .u8) (bs ++ [(c.toNat : Int)])) := by
                rw [List.map_append]
                exact (ho19.moved m15 (fun k hk e => nq19 (e ▸ hk))).moved m16 (fun k hk e => nq19 (e ▸ hk))
              have hA16 : RAt w16 q v10 v19 { D1 with places := ps ++ [off + (j : Int)], bytes := bs ++ [(c.toNat : Int)] } :=
                ⟨hbk16, ho10', ho19', ⟨nq10, nq19⟩, own_ne ho10' ho19' (by decide)⟩
              have hM16 : Mv (RB q vp' vb') w12 w16 := ((m12.mono fun k h => .inr h).cut m15 fun k _ e => .inl e).cut m16 fun k _ e => .inl e
              have hP16 := hP.rel hA16 hM16 fun k hk => by
                rcases hk with e | e | e
                · exact .inl (.inl e)
                · rcases hf10 k e with h1 | h1
                  · exact .inl (.inr (.inl h1))
                  · right; omega
                · rcases hf19 k e with h1 | h1
                  · exact .inl (.inr (.inr h1))
                  · right; omega
              refine H.done (by kernel_rfl) (N.inb (N.cut ⟨⟨ps ++ [off + (j : Int)], bs ++ [(c.toNat : Int)], v10, v19, by simp [hlen], ?_, by simp only [List.length_append, List.length_singleton]; omega, hP16, ?_⟩, rfl⟩ (sub_keys rfl)))
              · rw [List.nodup_append]
                refine ⟨hnd, by simp, ?_⟩
                intro a ha b hb
                obtain rfl := List.mem_singleton.1 hb
                intro e
                have hlk := (idx_none hlen (off + (j : Int))).1 hno
                unfold idxOf at hlk
                cases hf : ps.findIdx? (· == off + (j : Int)) with
                | none =>
                  have := List.findIdx?_eq_none_iff.1 hf a ha
                  simp [e] at this
                | some i => rw [hf] at hlk; simp only at hlk; omega
              · rw [List.zip_append hlen]; rfl
          · have k4 : Kn (decide (ix < 0)) false := .no (by rw [hix]; exact fun h => hno ((idx_none hlen _).2 h))
            apply W.readS LO mixed [0, 2, 3, 8, 9, 10, 11, 12, 119] (by kernel_rfl)
            · repeat' (first | rfl | with_reducible assumption | assumption | constructor)
            intro w12 f12 s12 hf12
            replace hf12 : f12 = [(0, _), (2, _), (3, _), (8, _), (9, _), (10, _), (11, _), (12, _), (119, _)] := hf12
            subst hf12
            refine W.cond (b := false) rfl (fun h => by cases h) (fun _ => W.skip ?_)
            exact N.inb (N.cut ⟨⟨ps, bs, vp', vb', hlen, hnd, by omega, hP.same s12, by rw [if_neg (fun h => hno h.1)]⟩, rfl⟩ (sub_keys rfl))
        · have k3 : Kn (decide ((D.told.size : Int) ≤ off + j)) false := .no hge
          apply W.readS LO mixed [0, 2, 3, 8, 9, 10, 11, 12, 119] (by kernel_rfl)
          · repeat' (first | rfl | with_reducible assumption | assumption | constructor)
          intro w12 f12 s12 hf12
          replace hf12 : f12 = [(0, _), (2, _), (3, _), (8, _), (9, _), (10, _), (11, _), (12, _), (119, _)] := hf12
          subst hf12
          refine W.cond (b := false) rfl (fun h => by cases h) (fun _ => W.skip ?_)
          exact N.inb (N.cut ⟨⟨ps, bs, vp', vb', hlen, hnd, by omega, hP.same s12, by rw [if_neg (fun h => hge h.2)]⟩, rfl⟩ (sub_keys rfl))
      · rintro w12 _ ⟨⟨ps', bs', vp2, vb2, hlen', hnd', hfew', hP', hz⟩, rfl⟩
        have k5 : Kn (IntKind.i64.wrap ((j : Int) + 1)) ((j + 1 : Nat) : Int) := .of (IntWalk.i64_in _ (by omega))
        apply W.readN LO mixed [12, 0, 2, 3, 8, 9, 10, 11] (by kernel_rfl)
        · repeat' (first | rfl | with_reducible assumption | assumption | constructor)
        intro w13 f13 s13 hf13
        replace hf13 : f13 = [(12, _), (0, _), (2, _), (3, _), (8, _), (9, _), (10, _), (11, _)] := hf13
        subst hf13
        exact N.round (k - 1) _ (by omega) ⟨j + 1, ps', bs', vp2, vb2, by omega, hlen', hnd', by omega, hP'.same s13, by rw [hz]; exact hins, rfl⟩ (sub_keys rfl)
    · have k1 : Kn (decide ((j : Int) < (T2.size : Int))) false := .no (by omega)
      refine W.seq ?_
      apply W.readS LO mixed [0, 2, 3, 8, 9, 10, 11, 104] (by kernel_rfl)
      · repeat' (first | rfl | with_reducible assumption | assumption | constructor)
      intro w11 f11 s11 hf11
      replace hf11 : f11 = [(0, _), (2, _), (3, _), (8, _), (9, _), (10, _), (11, _), (104, _)] := hf11
      subst hf11
      refine W.cond (b := false) rfl (fun h => by cases h) (fun _ => W.exit ?_)
      have hd : T2.data.toList.drop j = [] := List.drop_eq_nil_iff.2 (by rw [bytes_len]; omega)
      rw [hd] at hins
      simp only [ins] at hins
      refine N.thenE (N.thenE (N.out (N.cut ⟨⟨vp', vb', ?_⟩, rfl⟩ (sub_keys rfl))))
      rw [← hins]
      have e2 : D1.put (ps.zip bs) = { D1 with places := ps, bytes := bs } := by
        unfold RS.put
        rw [List.map_fst_zip (Nat.le_of_eq hlen), List.map_snd_zip (Nat.le_of_eq hlen.symm)]
      rw [e2]
      exact ⟨hP.same s11, hlen, hnd, by show ps.length ≤ _; omega, by show D1.told.size ≤ _; rw [e1.2.2]; exact htold⟩
  rintro w9 _ ⟨⟨vp', vb', hP, hok2⟩, rfl⟩
  obtain ⟨D2, hD2⟩ : ∃ D2, D2 = D1.put (ins D1.zip off T2.data.toList D.told.size) := ⟨_, rfl⟩
  rw [← hD2] at hP hok2
  obtain ⟨out, hout⟩ : ∃ out, out = strOfNums (rel D2.places.length D2.told.size D2.zip (-1)).2.2 := ⟨_, rfl⟩
  obtain ⟨D4, hD4⟩ : ∃ D4, D4 = ({ D2.rels with told := D.told ++ out } : RS) := ⟨_, rfl⟩
  obtain ⟨now, hnow⟩ : ∃ now, now = (!D.over && decide (D4.fin = D4.told.size)) := ⟨_, rfl⟩
  have hX : D.push2 off T1 T2 T3 = ({ D4 with over := D.over || now }, if out.size ≠ 0 ∨ now = true then ⟨1, D.told.size, out, now⟩ else if (D.told.size : Int) < T1 then ⟨4, 0, ⟨#[]⟩, false⟩ else if 0 ≤ off ∧ (D.told.size : Int) - D.hist ≤ off then
      ⟨2, off, D4.told.extract off.toNat T1.toNat, T3 && (D.over || now) && decide (T1 = D4.fin)⟩ else ⟨3, 0, ⟨#[]⟩, false⟩) := by
    subst hnow hD4 hout hD2 hD1
    rfl
  rw [hX]
  have d1 : D1.hist = D.hist ∧ D1.over = D.over := by rw [hD1]; split <;> exact ⟨rfl, rfl⟩
  have d2 : D2.told = D.told ∧ D2.over = D.over ∧ D2.hist = D.hist := by rw [hD2]; exact ⟨e1.2.2, d1.2, d1.1⟩
  have d4 : D4.told = D.told ++ out ∧ D4.over = D.over ∧ D4.hist = D.hist := by rw [hD4]; exact ⟨rfl, d2.2.1, d2.2.2⟩
  have hosz : out.size ≤ 1000000 := by
    rw [hout, size_nums]
    have h1 := rel_len D2.places.length D2.told.size D2.zip (-1)
    have h2 := rel_le D2.places.length D2.told.size D2.zip (-1)
    have h3 := hok2.few
    omega
  have htsz : D4.told.size = D.told.size + out.size := by rw [d4.1, ByteArray.size_append]
  clear hX hD1 d1
  -- the release
  refine W.seq (W.list ?_)
  apply Ls.runK LO [0, 3, 8, 9, 10, 11, 144] 1
  · repeat' (first | rfl | with_reducible assumption | assumption | constructor)
  intro w10 f10 s10 hf10
  replace hf10 : f10 = [(0, _), (3, _), (8, _), (9, _), (10, _), (11, _), (144, _)] := hf10
  subst hf10
  have hP := hP.same s10
  refine Ls.call LO rfl rfl rfl rfl rfl rfl (rrelease_walk q vp' vb' D2 w10 hP.at_ hok2) ?_
  rintro _ w11 ⟨rfl, v2, b2, hA2, hM2, hO2⟩
  refine ⟨_, rfl, ?_⟩
  rw [← hout]
  have hP := hP.rel hA2 hM2 hO2
  apply Ls.runK LO [0, 3, 8, 9, 10, 11, 13] 1
  · repeat' (first | rfl | with_reducible assumption | assumption | constructor)
  intro w12 f12 s12 hf12
  replace hf12 : f12 = [(0, _), (3, _), (8, _), (9, _), (10, _), (11, _), (13, _)] := hf12
  subst hf12
  refine Ls.nil (N.to ?_)
  have hP := hP.same s12
  clear hA2 hM2 hO2
  -- the text
  refine W.seq (W.list ?_)
  obtain ⟨c0, c1, c2, c3, c4, c5, c6, c7⟩ := hP.at_.cls
  rw [show D2.rels.told = D.told from d2.1] at c3
  have g0 : D.told.size + out.size ≤ 9223372036854775807 := by omega
  apply Ls.runK LO [0, 3, 8, 9, 10, 11, 13, 154, 152] 9
  · repeat' (first | rfl | with_reducible assumption | assumption | constructor)
  intro w13 f13 s13 hf13
  replace hf13 : f13 = [(0, _), (3, _), (8, _), (9, _), (10, _), (11, _), (13, _), (154, _), (152, _)] := hf13
  subst hf13
  have hP := hP.same s13
  refine Ls.store LO rfl rfl rfl rfl rfl (vs := [.string (D.told ++ out)]) rfl rfl rfl hP.at_.blk rfl ?_
  intro w14 hb14 hm14 _
  have hP := hP.put (D' := D4) (by rw [hb14, hD4]; rfl) (by rw [hD4]) (by rw [hD4]) hm14
  refine Ls.nil (N.to ?_)
  clear c0 c1 c2 c3 c4 c5 c6 c7 s10 s12 s13 hb14 hm14
  -- the end
  refine W.cutS (fun w' g => RP q r vp vb D4 w w' v2 b2 ∧ g = [(0, .pointer (some ⟨q, 0, none⟩)), (3, .bool T3), (8, .pointer (some ⟨r, 0, none⟩)), (9, .int .i64 D.told.size), (10, .int .i64 off), (11, .int .i64 T1), (13, .string out), (14, .bool now)]) ?_ ?_
  · obtain ⟨c0, c1, c2, c3, c4, c5, c6, c7⟩ := hP.at_.cls
    rw [d4.2.1] at c7
    have q1 := quiet_of (w := w14) fun w' s' => rat_says q v2 b2 D4 w' (hP.at_.same s')
    cases hov : D.over with
    | true =>
      rw [hov] at c7 hnow
      subst hnow
      apply W.readN LO mixed [0, 3, 8, 9, 10, 11, 13, 14] (by kernel_rfl)
      · repeat' (first | rfl | with_reducible assumption | assumption | constructor)
      intro w15 f15 s15 hf15
      replace hf15 : f15 = [(0, _), (3, _), (8, _), (9, _), (10, _), (11, _), (13, _), (14, _)] := hf15
      subst hf15
      exact N.cut ⟨hP.same s15, rfl⟩ (sub_keys rfl)
    | false =>
      rw [hov] at c7 hnow
      have k1 : Kn (D4.fin == (D4.told.size : Int)) now := .of (by rw [hnow]; by_cases h : D4.fin = (D4.told.size : Int) <;> simp [h])
      apply W.readN LO mixed [0, 3, 8, 9, 10, 11, 13, 14] (by kernel_rfl)
      · repeat' (first | rfl | with_reducible assumption | assumption | constructor)
      intro w15 f15 s15 hf15
      replace hf15 : f15 = [(0, _), (3, _), (8, _), (9, _), (10, _), (11, _), (13, _), (14, _)] := hf15
      subst hf15
      exact N.cut ⟨hP.same s15, rfl⟩ (sub_keys rfl)
  rintro w15 _ ⟨hP, rfl⟩
  -- done
  refine W.cutS (fun w' g => RP q r vp vb { D4 with over := D.over || now } w w' v2 b2 ∧ g = [(0, .pointer (some ⟨q, 0, none⟩)), (3, .bool T3), (8, .pointer (some ⟨r, 0, none⟩)), (9, .int .i64 D.told.size), (10, .int .i64 off), (11, .int .i64 T1), (13, .string out), (14, .bool now)]) ?_ ?_
  · obtain ⟨c0, c1, c2, c3, c4, c5, c6, c7⟩ := hP.at_.cls
    rw [d4.2.1] at c7
    refine W.list ?_
    cases hov : D.over with
    | true =>
      rw [hov] at c7
      apply Ls.runK LO [0, 3, 8, 9, 10, 11, 13, 14, 178, 176] 10
      · repeat' (first | rfl | with_reducible assumption | assumption | constructor)
      intro w16 f16 s16 hf16
      replace hf16 : f16 = [(0, _), (3, _), (8, _), (9, _), (10, _), (11, _), (13, _), (14, _), (178, _), (176, _)] := hf16
      subst hf16
      have hP := hP.same s16
      refine Ls.store LO rfl rfl rfl rfl rfl (vs := [.bool true]) rfl rfl rfl hP.at_.blk rfl ?_
      intro w17 hb17 hm17 _
      exact Ls.nil (N.cut ⟨hP.put hb17 rfl rfl hm17, rfl⟩ (sub_keys rfl))
    | false =>
      rw [hov] at c7
      apply Ls.runK LO [0, 3, 8, 9, 10, 11, 13, 14, 178, 176] 10
      · repeat' (first | rfl | with_reducible assumption | assumption | constructor)
      intro w16 f16 s16 hf16
      replace hf16 : f16 = [(0, _), (3, _), (8, _), (9, _), (10, _), (11, _), (13, _), (14, _), (178, _), (176, _)] := hf16
      subst hf16
      have hP := hP.same s16
      refine Ls.store LO rfl rfl rfl rfl rfl (vs := [.bool now]) rfl rfl rfl hP.at_.blk rfl ?_
      intro w17 hb17 hm17 _
      exact Ls.nil (N.cut ⟨hP.put hb17 rfl rfl hm17, rfl⟩ (sub_keys rfl))
  rintro w17 _ ⟨hP, rfl⟩
  obtain ⟨D5, hD5⟩ : ∃ D5, D5 = ({ D4 with over := D.over || now } : RS) := ⟨_, rfl⟩
  have d5 : D5.told = D4.told ∧ D5.over = (D.over || now) ∧ D5.hist = D.hist ∧ D5.fin = D4.fin := by rw [hD5]; exact ⟨rfl, rfl, d4.2.2, rfl⟩
  rw [← hD5] at hP
  rw [← hD5]
  clear hD5 hD4 hnow d4 d2 hok2 hout hD2
  by_cases hnew : out.size ≠ 0 ∨ now = true
  · rw [if_pos hnew]
    refine W.cutS (fun _ _ => False) ?_ (fun _ _ h => h.elim)
    refine W.block ?_
    refine W.cutS (fun w' g => RP q r vp vb D5 w w' v2 b2 ∧ g = [(8, .pointer (some ⟨r, 0, none⟩)), (9, .int .i64 D.told.size), (13, .string out), (14, .bool now), (179, .bool true)]) ?_ ?_
    · by_cases h0 : out.size = 0
      · have hn1 : now = true := by rcases hnew with h | h; exact absurd h0 h; exact h
        subst hn1
        have k1 : Kn (decide (0 < (out.size : Int))) false := .no (by omega)
        apply W.readN LO mixed [8, 9, 13, 14, 179] (by kernel_rfl)
        · repeat' (first | rfl | with_reducible assumption | assumption | constructor)
        intro w18 f18 s18 hf18
        replace hf18 : f18 = [(8, _), (9, _), (13, _), (14, _), (179, _)] := hf18
        subst hf18
        exact N.cut ⟨hP.same s18, rfl⟩ (sub_keys rfl)
      · have k1 : Kn (decide (0 < (out.size : Int))) true := .yes (by omega)
        apply W.readN LO mixed [8, 9, 13, 14, 179] (by kernel_rfl)
        · repeat' (first | rfl | with_reducible assumption | assumption | constructor)
        intro w18 f18 s18 hf18
        replace hf18 : f18 = [(8, _), (9, _), (13, _), (14, _), (179, _)] := hf18
        subst hf18
        exact N.cut ⟨hP.same s18, rfl⟩ (sub_keys rfl)
    rintro w18 _ ⟨hP, rfl⟩
    refine W.cond (b := true) rfl (fun _ => ?_) (fun h => by cases h)
    refine W.seq (W.list ?_)
    apply Ls.runK LO [8, 189] 4
    · repeat' (first | rfl | with_reducible assumption | assumption | constructor)
    intro w19 f19 s19 hf19
    replace hf19 : f19 = [(8, _), (189, _)] := hf19
    subst hf19
    have hP := hP.same s19
    refine Ls.store LO rfl rfl rfl rfl rfl (vs := [.int .i64 1, .int .i64 D.told.size, .string out, .bool now]) rfl rfl rfl hP.res rfl ?_
    intro w20 hb hm _
    refine Ls.nil (N.to (W.ret (N.inbR (N.thenR ?_))))
    exact RP.give (x := (D5, ⟨1, D.told.size, out, now⟩)) hP hb hm rfl
  rw [if_neg hnew]
  have hn0 : now = false := by
    cases now with
    | false => rfl
    | true => exact absurd (.inr rfl) hnew
  have ho0 : out.size = 0 := by omega
  subst hn0
  rw [Bool.or_false] at d5
  rw [Bool.or_false]
  have k1 : Kn (decide (0 < (out.size : Int))) false := .no (by omega)
  by_cases hheld : (D.told.size : Int) < T1
  · rw [if_pos hheld]
    refine W.cutS (fun _ _ => False) ?_ (fun _ _ h => h.elim)
    refine W.block ?_
    apply W.readS LO mixed [8, 9, 11, 179] (by kernel_rfl)
    · repeat' (first | rfl | with_reducible assumption | assumption | constructor)
    intro w18 f18 s18 hf18
    replace hf18 : f18 = [(8, _), (9, _), (11, _), (179, _)] := hf18
    subst hf18
    refine W.cond (b := false) rfl (fun h => by cases h) (fun _ => ?_)
    have k2 : Kn (decide ((D.told.size : Int) < T1)) true := .yes hheld
    apply W.readS LO mixed [8, 190] (by kernel_rfl)
    · repeat' (first | rfl | with_reducible assumption | assumption | constructor)
    intro w19 f19 s19 hf19
    replace hf19 : f19 = [(8, _), (190, _)] := hf19
    subst hf19
    refine W.cond (b := true) rfl (fun _ => ?_) (fun h => by cases h)
    refine W.seq (W.list ?_)
    apply Ls.runK LO [8, 194] 1
    · repeat' (first | rfl | with_reducible assumption | assumption | constructor)
    intro w20 f20 s20 hf20
    replace hf20 : f20 = [(8, _), (194, _)] := hf20
    subst hf20
    have hP := ((hP.same s18).same s19).same s20
    refine Ls.store LO rfl rfl rfl rfl rfl (vs := [.int .i64 4, .int .i64 0, .string ⟨#[]⟩, .bool false]) rfl rfl rfl hP.res rfl ?_
    intro w21 hb hm _
    refine Ls.nil (N.to (W.ret (N.inbR (N.thenR ?_))))
    exact RP.give (x := (D5, ⟨4, 0, ⟨#[]⟩, false⟩)) hP hb hm rfl
  rw [if_neg hheld]
  have k2 : Kn (decide ((D.told.size : Int) < T1)) false := .no hheld
  by_cases hold : 0 ≤ off ∧ (D.told.size : Int) - D.hist ≤ off
  · rw [if_pos hold]
    refine W.cutS (fun _ _ => False) ?_ (fun _ _ h => h.elim)
    refine W.block ?_
    apply W.readS LO mixed [0, 3, 8, 9, 10, 11, 179] (by kernel_rfl)
    · repeat' (first | rfl | with_reducible assumption | assumption | constructor)
    intro w18 f18 s18 hf18
    replace hf18 : f18 = [(0, _), (3, _), (8, _), (9, _), (10, _), (11, _), (179, _)] := hf18
    subst hf18
    refine W.cond (b := false) rfl (fun h => by cases h) (fun _ => ?_)
    apply W.readS LO mixed [0, 3, 8, 9, 10, 11, 190] (by kernel_rfl)
    · repeat' (first | rfl | with_reducible assumption | assumption | constructor)
    intro w19 f19 s19 hf19
    replace hf19 : f19 = [(0, _), (3, _), (8, _), (9, _), (10, _), (11, _), (190, _)] := hf19
    subst hf19
    refine W.cond (b := false) rfl (fun h => by cases h) (fun _ => ?_)
    have hP := (hP.same s18).same s19
    obtain ⟨c0, c1, c2, c3, c4, c5, c6, c7⟩ := hP.at_.cls
    rw [d5.2.2.1] at c2
    have k3 : Kn (decide (0 ≤ off)) true := .yes hold.1
    have k4 : Kn (IntKind.i64.wrap ((D.told.size : Int) - D.hist)) ((D.told.size : Int) - D.hist) := .of (IntWalk.i64_in _ (by omega))
    have k5 : Kn (decide ((D.told.size : Int) - D.hist ≤ off)) true := .yes hold.2
    apply W.readS LO mixed [0, 3, 8, 10, 11, 195] (by kernel_rfl)
    · repeat' (first | rfl | with_reducible assumption | assumption | constructor)
    intro w20 f20 s20 hf20
    replace hf20 : f20 = [(0, _), (3, _), (8, _), (10, _), (11, _), (195, _)] := hf20
    subst hf20
    have hP := hP.same s20
    clear c0 c1 c2 c3 c4 c5 c6 c7
    obtain ⟨c0, c1, c2, c3, c4, c5, c6, c7⟩ := hP.at_.cls
    rw [d5.1] at c3
    rw [d5.2.1] at c7
    rw [d5.2.2.2] at c6
    refine W.cond (b := true) rfl (fun _ => ?_) (fun h => by cases h)
    have b0 : 0 ≤ off := hold.1
    have b1 : off ≤ T1 := by omega
    have b2' : T1 ≤ (D4.told.size : Int) := by omega
    refine W.seq ?_
    cases T3 with
    | false =>
      apply W.tailK LO mixed [8, 231] 24 (by kernel_rfl)
      · repeat' (first | rfl | with_reducible assumption | assumption | constructor)
      intro w21 f21 s21 hf21
      replace hf21 : f21 = [(8, _), (231, _)] := hf21
      subst hf21
      have hP := hP.same s21
      refine Ls.store LO rfl rfl rfl rfl rfl (vs := [.int .i64 2, .int .i64 off, .string (D4.told.extract off.toNat T1.toNat), .bool false]) rfl rfl rfl hP.res rfl ?_
      intro w22 hb hm _
      refine Ls.nil (N.to (W.ret (N.inbR (N.thenR ?_))))
      exact RP.give (x := (D5, ⟨2, off, D4.told.extract off.toNat T1.toNat, false⟩)) hP hb hm rfl
    | true =>
      cases hov : D.over with
      | false =>
        rw [hov] at c7
        apply W.tailK LO mixed [8, 231] 24 (by kernel_rfl)
        · repeat' (first | rfl | with_reducible assumption | assumption | constructor)
        intro w21 f21 s21 hf21
        replace hf21 : f21 = [(8, _), (231, _)] := hf21
        subst hf21
        have hP := hP.same s21
        refine Ls.store LO rfl rfl rfl rfl rfl (vs := [.int .i64 2, .int .i64 off, .string (D4.told.extract off.toNat T1.toNat), .bool false]) rfl rfl rfl hP.res rfl ?_
        intro w22 hb hm _
        refine Ls.nil (N.to (W.ret (N.inbR (N.thenR ?_))))
        exact RP.give (x := (D5, ⟨2, off, D4.told.extract off.toNat T1.toNat, false⟩)) hP hb hm rfl
      | true =>
        rw [hov] at c7
        have k6 : Kn (T1 == D4.fin) (decide (T1 = D4.fin)) := .of (by by_cases h : T1 = D4.fin <;> simp [h])
        apply W.tailK LO mixed [8, 231] 24 (by kernel_rfl)
        · repeat' (first | rfl | with_reducible assumption | assumption | constructor)
        intro w21 f21 s21 hf21
        replace hf21 : f21 = [(8, _), (231, _)] := hf21
        subst hf21
        have hP := hP.same s21
        refine Ls.store LO rfl rfl rfl rfl rfl (vs := [.int .i64 2, .int .i64 off, .string (D4.told.extract off.toNat T1.toNat), .bool (decide (T1 = D4.fin))]) rfl rfl rfl hP.res rfl ?_
        intro w22 hb hm _
        refine Ls.nil (N.to (W.ret (N.inbR (N.thenR ?_))))
        exact RP.give (x := (D5, ⟨2, off, D4.told.extract off.toNat T1.toNat, decide (T1 = D4.fin)⟩)) hP hb hm rfl
  rw [if_neg hold]
  refine W.cutS (fun w' g => RP q r vp vb D5 w w' v2 b2 ∧ g = [(8, .pointer (some ⟨r, 0, none⟩))]) ?_ ?_
  · refine W.block ?_
    apply W.readS LO mixed [0, 3, 8, 9, 10, 11, 179] (by kernel_rfl)
    · repeat' (first | rfl | with_reducible assumption | assumption | constructor)
    intro w18 f18 s18 hf18
    replace hf18 : f18 = [(0, _), (3, _), (8, _), (9, _), (10, _), (11, _), (179, _)] := hf18
    subst hf18
    refine W.cond (b := false) rfl (fun h => by cases h) (fun _ => ?_)
    apply W.readS LO mixed [0, 3, 8, 9, 10, 11, 190] (by kernel_rfl)
    · repeat' (first | rfl | with_reducible assumption | assumption | constructor)
    intro w19 f19 s19 hf19
    replace hf19 : f19 = [(0, _), (3, _), (8, _), (9, _), (10, _), (11, _), (190, _)] := hf19
    subst hf19
    refine W.cond (b := false) rfl (fun h => by cases h) (fun _ => ?_)
    have hP := (hP.same s18).same s19
    obtain ⟨c0, c1, c2, c3, c4, c5, c6, c7⟩ := hP.at_.cls
    rw [d5.2.2.1] at c2
    by_cases h0 : 0 ≤ off
    · have k3 : Kn (decide (0 ≤ off)) true := .yes h0
      have k4 : Kn (IntKind.i64.wrap ((D.told.size : Int) - D.hist)) ((D.told.size : Int) - D.hist) := .of (IntWalk.i64_in _ (by omega))
      have k5 : Kn (decide ((D.told.size : Int) - D.hist ≤ off)) false := .no (fun h => hold ⟨h0, h⟩)
      apply W.readS LO mixed [8, 195] (by kernel_rfl)
      · repeat' (first | rfl | with_reducible assumption | assumption | constructor)
      intro w20 f20 s20 hf20
      replace hf20 : f20 = [(8, _), (195, _)] := hf20
      subst hf20
      refine W.cond (b := false) rfl (fun h => by cases h) (fun _ => W.skip ?_)
      exact N.inb (N.cut ⟨hP.same s20, rfl⟩ (sub_keys rfl))
    · have k3 : Kn (decide (0 ≤ off)) false := .no h0
      apply W.readS LO mixed [8, 195] (by kernel_rfl)
      · repeat' (first | rfl | with_reducible assumption | assumption | constructor)
      intro w20 f20 s20 hf20
      replace hf20 : f20 = [(8, _), (195, _)] := hf20
      subst hf20
      refine W.cond (b := false) rfl (fun h => by cases h) (fun _ => W.skip ?_)
      exact N.inb (N.cut ⟨hP.same s20, rfl⟩ (sub_keys rfl))
  rintro w20 _ ⟨hP, rfl⟩
  refine W.seq (W.list ?_)
  apply Ls.runK LO [8, 232] 1
  · repeat' (first | rfl | with_reducible assumption | assumption | constructor)
  intro w21 f21 s21 hf21
  replace hf21 : f21 = [(8, _), (232, _)] := hf21
  subst hf21
  have hP := hP.same s21
  refine Ls.store LO rfl rfl rfl rfl rfl (vs := [.int .i64 3, .int .i64 0, .string ⟨#[]⟩, .bool false]) rfl rfl rfl hP.res rfl ?_
  intro w22 hb hm _
  refine Ls.nil (N.to (W.ret ?_))
  exact RP.give (x := (D5, ⟨3, 0, ⟨#[]⟩, false⟩)) hP hb hm rfl
end Go.Proofs.Ytieolnekccacbaa
