/- What is proved: a table of parts in memory: its keys, entries, bytes. Conditions: those that stand in each theorem. -/
import Derived.Test.YtnghmaejmfhigaaFwRow
import Derived.Test.YtnghmaejmfhigaaFwLay
import Derived.DeepKeys5
import Derived.IntWalk
namespace Go.Proofs.Ytnghmaejmfhigaa
set_option linter.unusedVariables false
set_option linter.unusedSimpArgs false
set_option linter.unusedSectionVars false
open Go.RowKit Go.Maps Go.MapKept Go.ChangeMaps Fw
set_option maxRecDepth 100000 in
set_option maxHeartbeats 4000000 in
theorem LO : LayOk Try.prog { st := [(7, [(0, 0), (1, 0), (2, 0), (3, 0)]), (13, [(0, 0), (1, 0)]), (18, [(0, 0)]), (28, [(0, 0), (1, 0), (2, 0), (3, 0), (4, 0), (5, 0), (6, 0), (7, 0), (8, 0), (9, 0)]), (29, [(0, 0), (1, 0), (2, 0), (3, 0), (4, 0), (5, 0), (6, 0), (7, 0), (8, 0), (9, 0)]), (43, [(0, 0), (1, 0), (2, 11), (12, 0)]), (44, [(0, 0), (1, 0), (2, 11), (12, 0)]), (46, [(0, 0), (1, 0), (2, 0), (3, 0)]), (47, [(0, 0), (1, 0), (2, 0), (3, 0)]), (50, [(0, 0), (1, 0), (2, 0)]), (51, [(0, 0), (1, 0), (2, 0)]), (52, [(0, 0), (1, 0), (2, 0), (3, 0)]), (53, [(0, 0), (1, 0), (2, 0), (3, 0)]), (56, [(0, 0), (1, 0), (2, 0)]), (57, [(0, 0), (1, 0), (2, 0)]), (62, [(0, 0), (1, 0), (2, 0), (3, 0), (4, 0), (5, 0), (6, 0)]), (63, [(0, 0), (1, 0), (2, 0), (3, 0), (4, 0), (5, 0), (6, 0)]), (68, [(0, 0), (1, 0)]), (69, [(0, 0), (1, 0)]), (71, [(0, 0), (1, 0), (2, 0), (3, 0)]), (74, [(0, 1)]), (82, [(0, 0), (1, 0), (2, 0), (3, 0), (4, 0), (5, 0), (6, 0), (7, 0), (8, 0), (9, 0), (10, 0)])], one := [1, 2, 3, 4, 5, 9, 12, 15, 16, 17, 20, 21, 22, 23, 24, 26, 27, 30, 31, 32, 33, 34, 35, 36, 37, 38, 39, 40, 41, 42, 45, 48, 49, 54, 55, 60, 61, 64, 65, 66, 67, 70, 78, 79], agg := [(7, 4), (13, 2), (18, 1), (28, 10), (29, 10), (43, 13), (44, 13), (46, 4), (47, 4), (50, 3), (51, 3), (52, 4), (53, 4), (56, 3), (57, 3), (62, 7), (63, 7), (68, 2), (69, 2), (71, 4), (82, 11)], sl := [(34, 3, 1), (35, 4, 1), (36, 5, 1), (40, 44, 13), (45, 63, 7), (61, 69, 2)], ar := [(73, 0, 16, 1)], ik := [(2, .i64), (3, .i64), (5, .u8), (12, .u64), (21, .i32), (24, .i64), (27, .u32)], str := [9], ptr := [15, 16, 17, 22, 41, 54, 66, 79], boo := [4], fn := [3, 4, 5, 6, 7, 8, 9, 10, 11, 12, 13, 14, 15, 16, 17, 18, 19, 20, 21, 22, 23, 24, 25, 26], zero := [(1, [.nilFunc]), (2, [.int .i64 0]), (3, [.int .i64 0]), (4, [.bool false]), (5, [.int .u8 0]), (7, [.int .i64 0, .int .i64 0, .bool false, .int .u8 0]), (9, [.string ⟨#[]⟩]), (12, [.int .u64 0]), (13, [.string ⟨#[]⟩, .int .u64 0]), (15, [.pointer none]), (16, [.pointer none]), (17, [.pointer none]), (18, [.pointer none]), (20, [.nilIface]), (21, [.int .i32 0]), (22, [.pointer none]), (23, [.nilFunc]), (24, [.int .i64 0]), (26, [.nilFunc]), (27, [.int .u32 0]), (28, [.int .i64 0, .int .i64 0, .bool false, .bool false, .int .i64 0, .int .i64 0, .int .i64 0, .int .u32 0, .int .u32 0, .string ⟨#[]⟩]), (29, [.int .i64 0, .int .i64 0, .bool false, .bool false, .int .i64 0, .int .i64 0, .int .i64 0, .int .u32 0, .int .u32 0, .string ⟨#[]⟩]), (30, [.nilFunc]), (31, [.nilFunc]), (32, [.nilFunc]), (33, [.nilFunc]), (34, [.slice none 0 0]), (35, [.slice none 0 0]), (36, [.slice none 0 0]), (37, [.nilFunc]), (38, [.nilFunc]), (39, [.nilFunc]), (40, [.slice none 0 0]), (41, [.pointer none]), (42, [.nilFunc]), (43, [.int .i64 0, .int .i64 0, .int .i64 0, .int .i64 0, .bool false, .bool false, .int .i64 0, .int .i64 0, .int .i64 0, .int .u32 0, .int .u32 0, .string ⟨#[]⟩, .string ⟨#[]⟩]), (44, [.int .i64 0, .int .i64 0, .int .i64 0, .int .i64 0, .bool false, .bool false, .int .i64 0, .int .i64 0, .int .i64 0, .int .u32 0, .int .u32 0, .string ⟨#[]⟩, .string ⟨#[]⟩]), (45, [.slice none 0 0]), (46, [.int .i64 0, .int .i64 0, .int .i64 0, .slice none 0 0]), (47, [.int .i64 0, .int .i64 0, .int .i64 0, .slice none 0 0]), (48, [.nilFunc]), (49, [.map none]), (50, [.int .i64 0, .int .i64 0, .map none]), (51, [.int .i64 0, .int .i64 0, .map none]), (52, [.int .u32 0, .int .u32 0, .int .i64 0, .int .i64 0]), (53, [.int .u32 0, .int .u32 0, .int .i64 0, .int .i64 0]), (54, [.pointer none]), (55, [.map none]), (56, [.map none, .int .i64 0, .int .i64 0]), (57, [.map none, .int .i64 0, .int .i64 0]), (60, [.nilFunc]), (61, [.slice none 0 0]), (62, [.int .u32 0, .int .u32 0, .int .i64 0, .int .i64 0, .slice none 0 0, .int .i64 0, .int .i64 0]), (63, [.int .u32 0, .int .u32 0, .int .i64 0, .int .i64 0, .slice none 0 0, .int .i64 0, .int .i64 0]), (64, [.nilFunc]), (65, [.nilFunc]), (66, [.pointer none]), (67, [.nilFunc]), (68, [.int .i64 0, .int .u8 0]), (69, [.int .i64 0, .int .u8 0]), (70, [.nilFunc]), (71, [.pointer none, .pointer none, .pointer none, .string ⟨#[]⟩]), (73, []), (74, []), (78, [.nilFunc]), (79, [.pointer none]), (82, [.int .u64 0, .int .u64 0, .int .u32 0, .int .u8 0, .int .u8 0, .int .u8 0, .int .u8 0, .nilFunc, .pointer none, .int .i32 0, .int .i32 0])] } := layOk (by kernel_rfl)
theorem mixed : Try.prog.follows .mixedOrders = true := by kernel_rfl
structure KeyV where
  src : Int
  dst : Int
  proto : Int
  id : Int
deriving DecidableEq
def mkK (x : KeyV) : Value := .agg #[.int .u32 x.src, .int .u32 x.dst, .int .i64 x.proto, .int .i64 x.id]
structure okK (x : KeyV) : Prop where
  s : (Lit.int .u32 x.src).wf = true
  d : (Lit.int .u32 x.dst).wf = true
  p : (Lit.int .i64 x.proto).wf = true
  i : (Lit.int .i64 x.id).wf = true
theorem laidOutP : laidOutB Try.prog = true := by kernel_rfl
theorem keyedK : Keyed Try.prog 53 := Keyed.of_law (deep_law_gate laidOutP (of_decide_eq_true (by kernel_rfl)) (of_decide_eq_true (by kernel_rfl)) (by kernel_rfl) (by kernel_rfl))
theorem keyTypeK : Try.prog.keyType 53 = true := by kernel_rfl
theorem cellsK : Try.prog.cellsOf 53 = 4 := by kernel_rfl
theorem cells32 : Try.prog.cellsOf 27 = 1 := by kernel_rfl
theorem cells64 : Try.prog.cellsOf 3 = 1 := by kernel_rfl
theorem typesK : ∃ m, Try.prog.types.size = m + 1 := ⟨Try.prog.types.size - 1, by
  have h : decide (0 < Try.prog.types.size) = true := by kernel_rfl
  have := of_decide_eq_true h
  omega⟩
theorem keyOfK (x : KeyV) (hx : okK x) : ∃ l, keyOf Try.prog 53 (mkK x) = some l := by
  obtain ⟨m, hm⟩ := typesK
  unfold keyOf
  simp only [Try.underlying53]
  rw [if_pos (by simp [keyTypeK, Value.formed, mkK, Try.underlying53, cellsK]), hm]
  unfold Program.keyLits
  simp only [Try.underlying53, mkK, Value.cells]
  rw [if_pos ⟨by rw [cellsK]; rfl, by kernel_rfl⟩]
  simp [List.mapM_cons, Program.keyLits, Try.underlying27, Try.underlying3, cells32, cells64, hx.s, hx.d, hx.p, hx.i]
theorem mkK_inj (x y : KeyV) (h : mkK x = mkK y) : x = y := by
  unfold mkK at h
  cases x; cases y
  simp only [Value.agg.injEq, Array.mk.injEq, List.cons.injEq, Value.int.injEq, true_and, and_true] at h
  obtain ⟨rfl, rfl, rfl, rfl⟩ := h
  rfl
theorem KMk : KM Try.prog 53 mkK okK := ⟨keyedK, keyOfK, mkK_inj⟩
def mkP (b : Nat) : Value := .pointer (some ⟨b, 0, none⟩)
def okI (x : Int) : Prop := (Lit.int .i64 x).wf = true
theorem okI_mk {x : Int} (h0 : -9223372036854775808 ≤ x) (h1 : x ≤ 9223372036854775807) : okI x := WalkArith.wf_i64 (by omega)
theorem KMi : KM Try.prog 3 (Value.int .i64) okI := ⟨int_keyed Try.underlying3, fun x hx => ⟨_, keyOf_int_mk Try.underlying3 hx⟩, fun x y h => by injection h⟩
theorem zero_u8 (w : World) : (zeroValue 5).run Try.prog w = .ok (.int .u8 0) w := by kernel_rfl
theorem zero_ent (w : World) : (zeroValue 54).run Try.prog w = .ok (.pointer none) w := by kernel_rfl
abbrev KMap (w : World) (m : Nat) (l : List (KeyV × Nat)) : Prop := ML mkK mkP okK w m l
abbrev BMap (w : World) (m : Nat) (l : List (Int × Int)) : Prop := ML (Value.int .i64) (Value.int .u8) okI w m l
/-- An entry: its bytes by their places, how many there are (0: unknown), its age. -/
structure EV where
  bytes : List (Int × Int)
  all : Int
  age : Int
/-- .. and where it lies. -/
structure Ent where
  key : KeyV
  b : Nat
  m : Nat
  e : EV
def EBlk (w : World) (b m : Nat) (e : EV) : Prop := w.heap[b]? = some (.cells [.map (some m), .int .i64 e.all, .int .i64 e.age].toArray 57 (0, 0))
theorem EBlk.cls {w : World} {b m : Nat} {e : EV} (h : EBlk w b m e) : Cl w ⟨b, 0, none⟩ (.map (some m)) ∧ Cl w ⟨b, 1, none⟩ (.int .i64 e.all) ∧ Cl w ⟨b, 2, none⟩ (.int .i64 e.age) := by
  unfold EBlk at h
  refine ⟨⟨?_⟩, ⟨?_⟩, ⟨?_⟩⟩ <;> (unfold World.cell?; rw [h]; rfl)
theorem EBlk.lt {w : World} {b m : Nat} {e : EV} (h : EBlk w b m e) : b < w.heap.size := (Array.getElem?_eq_some_iff.1 h).1
theorem EBlk.moved {S : Nat → Prop} {w w' : World} {b m : Nat} {e : EV} (h : EBlk w b m e) (mv : Mv S w w') (hs : ¬ S b) : EBlk w' b m e := (mv.block b h.lt hs).trans h
structure EAt (w : World) (b m : Nat) (e : EV) : Prop where
  blk : EBlk w b m e
  map : BMap w m e.bytes
theorem EAt.moved {S : Nat → Prop} {w w' : World} {b m : Nat} {e : EV} (h : EAt w b m e) (mv : Mv S w w') (hb : ¬ S b) (hm : ¬ S m) : EAt w' b m e := ⟨h.blk.moved mv hb, h.map.moved mv hm⟩
theorem EAt.same {w w' : World} {b m : Nat} {e : EV} (h : EAt w b m e) (s : Same w w') : EAt w' b m e := h.moved (S := fun _ => False) ((Mv.refl _ w).same s) (fun e => e) (fun e => e)
theorem EAt.ne {w : World} {b m : Nat} {e : EV} (h : EAt w b m e) : b ≠ m := by
  rintro rfl
  obtain ⟨es, clock, hb, _⟩ := h.map
  have := h.blk
  unfold EBlk at this
  rw [hb] at this
  cases this
def TBlk (w : World) (t m : Nat) (most ticks : Int) : Prop := w.heap[t]? = some (.cells [.int .i64 most, .int .i64 ticks, .map (some m)].toArray 51 (0, 0))
theorem TBlk.cls {w : World} {t m : Nat} {most ticks : Int} (h : TBlk w t m most ticks) : Cl w ⟨t, 0, none⟩ (.int .i64 most) ∧ Cl w ⟨t, 1, none⟩ (.int .i64 ticks) ∧ Cl w ⟨t, 2, none⟩ (.map (some m)) := by
  unfold TBlk at h
  refine ⟨⟨?_⟩, ⟨?_⟩, ⟨?_⟩⟩ <;> (unfold World.cell?; rw [h]; rfl)
theorem TBlk.lt {w : World} {t m : Nat} {most ticks : Int} (h : TBlk w t m most ticks) : t < w.heap.size := (Array.getElem?_eq_some_iff.1 h).1
theorem TBlk.moved {S : Nat → Prop} {w w' : World} {t m : Nat} {most ticks : Int} (h : TBlk w t m most ticks) (mv : Mv S w w') (hs : ¬ S t) : TBlk w' t m most ticks := (mv.block t h.lt hs).trans h
/-- The table. -/
structure TAt (w : World) (t m : Nat) (most ticks : Int) (L : List Ent) : Prop where
  blk : TBlk w t m most ticks
  map : KMap w m (L.map fun x => (x.key, x.b))
  ent : ∀ x ∈ L, EAt w x.b x.m x.e
  nb : (L.map (·.b)).Nodup
  nm : (L.map (·.m)).Nodup
  mm : ∀ x ∈ L, x.m ≠ m
/-- Its own blocks. -/
def TB (t m : Nat) (L : List Ent) (k : Nat) : Prop := k = t ∨ k = m ∨ ∃ x ∈ L, k = x.b ∨ k = x.m
theorem TAt.lt {w : World} {t m : Nat} {most ticks : Int} {L : List Ent} (h : TAt w t m most ticks L) (k : Nat) (hk : TB t m L k) : k < w.heap.size := by
  rcases hk with rfl | rfl | ⟨x, hx, rfl | rfl⟩
  · exact h.blk.lt
  · exact h.map.lt
  · exact (h.ent x hx).blk.lt
  · exact (h.ent x hx).map.lt
theorem TAt.moved {S : Nat → Prop} {w w' : World} {t m : Nat} {most ticks : Int} {L : List Ent} (h : TAt w t m most ticks L) (mv : Mv S w w') (hs : ∀ k, TB t m L k → ¬ S k) : TAt w' t m most ticks L :=
  ⟨h.blk.moved mv (hs t (.inl rfl)), h.map.moved mv (hs m (.inr (.inl rfl))), fun x hx => (h.ent x hx).moved mv (hs x.b (.inr (.inr ⟨x, hx, .inl rfl⟩))) (hs x.m (.inr (.inr ⟨x, hx, .inr rfl⟩))), h.nb, h.nm, h.mm⟩
theorem TAt.same {w w' : World} {t m : Nat} {most ticks : Int} {L : List Ent} (h : TAt w t m most ticks L) (s : Same w w') : TAt w' t m most ticks L := h.moved (S := fun _ => False) ((Mv.refl _ w).same s) (fun _ _ e => e)
/-- A block of cells is no map. -/
theorem ml_ne {K V : Type} {mk : K → Value} {mv : V → Value} {ok : K → Prop} {w : World} {b r T : Nat} {l : List (K × V)} {cs : Array Value} {fr : Nat × Nat} (h : ML mk mv ok w b l) (hr : w.heap[r]? = some (.cells cs T fr)) : r ≠ b := by
  rintro rfl
  obtain ⟨es, clock, hb, _⟩ := h
  rw [hb] at hr
  cases hr
theorem cells_ne {w : World} {a b T T' : Nat} {cs cs' : Array Value} {fr fr' : Nat × Nat} (h : w.heap[a]? = some (.cells cs T fr)) (h' : w.heap[b]? = some (.cells cs' T' fr')) (hT : T ≠ T') : a ≠ b := by
  rintro rfl
  rw [h] at h'
  injection h' with e
  injection e with _ e
  exact hT e
theorem TAt.tb {w : World} {t m : Nat} {most ticks : Int} {L : List Ent} (h : TAt w t m most ticks L) {x : Ent} (hx : x ∈ L) : x.b ≠ t ∧ x.b ≠ m ∧ x.m ≠ t ∧ x.m ≠ m ∧ t ≠ m := by
  have he := h.ent x hx
  exact ⟨cells_ne he.blk h.blk (by decide), ml_ne h.map he.blk, fun e => ml_ne he.map h.blk e.symm, h.mm x hx, ml_ne h.map h.blk⟩
theorem TAt.tm {w : World} {t m : Nat} {most ticks : Int} {L : List Ent} (h : TAt w t m most ticks L) : t ≠ m := ml_ne h.map h.blk
/-- A contract that leaves the world alone but for draws. -/
def Says (w : World) (v : Value) : Ending → World → Prop := fun e w' => e = .returned v ∧ Same w w'
theorem Same.trans {w w1 w2 : World} (a : Same w w1) (b : Same w1 w2) : Same w w2 := ⟨b.heap.trans a.heap, b.os.trans a.os, b.tape.trans a.tape, b.output.trans a.output⟩
theorem quiet_of {P : Program} {g : Nat} {args : Array Value} {v : Value} {w : World} (h : ∀ w', Same w w' → Calls P g args w' (Says w' v)) : ∀ w', Same w w' → Calls P g args w' fun e w'' => e = .returned v ∧ Same w w'' :=
  fun w' hs => (h w' hs).mono fun e w'' ⟨he, hw⟩ => ⟨he, hs.trans hw⟩
/-- A look-up of one value. -/
theorem look_one {K V : Type} [DecidableEq K] {P : Program} {w : World} {k t e : TypeId} {mk : K → Value} {mv : V → Value} {ok : K → Prop} {b : Nat} {es : List (K × V)} (h : ML mk mv ok w b es) (KK : KM P k mk ok) (ht : P.underlying t = some (.map k e)) {z : Value} (hz : ∀ w, (zeroValue e).run P w = .ok z w) (x : K) (hx : ok x) (v : Option V) (hv : es.lookup x = v) :
    ∀ w', Same w w' → (Instr.lookup t (.map (some b)) (mk x) false).run P w' = .ok ((v.map mv).getD z) w' := fun w' hs => by
  have := (h.kept (by rw [hs.heap])).look (w := w') KK ht (hz w') x hx false
  rw [hv] at this
  simpa using this
theorem place00_says (v n : Int) (w : World) (hn : 0 < n) (hn1 : n ≤ 9223372036854775807) (hv : -9223372036854775808 ≤ v) (hv1 : v ≤ 9223372036854775807) :
    Calls Try.prog 10 #[.int .i64 v, .int .i64 n] w (Says w (.int .i64 (v % n))) := by
  refine calls_W (n := 15) (vs := [.int .i64 v, .int .i64 n]) Try.func10 rfl rfl rfl ?_
  apply W.readS LO mixed [0, 1] (by kernel_rfl)
  · repeat' (first | rfl | with_reducible assumption | assumption | constructor)
  intro w1 f1 s1 hf1
  replace hf1 : f1 = [(0, _), (1, _)] := hf1
  subst hf1
  have hne : n ≠ 0 := by omega
  have hmod : v % n = v.tmod n ∨ v % n = v.tmod n + n ∧ v.tmod n < 0 := by
    rcases Int.lt_or_le v 0 with h | h
    · have e1 : v.tmod n = -((-v) % n) := by
        have := Int.neg_tmod (a := -v) (b := n)
        rw [Int.neg_neg] at this
        rw [this, Int.tmod_eq_emod_of_nonneg (by omega)]
      have e2 : v % n = if (-v) % n = 0 then 0 else n - (-v) % n := by
        have := Int.neg_emod (a := -v) (b := n)
        rw [Int.neg_neg] at this
        rw [this]
        simp only [Int.dvd_iff_emod_eq_zero]
        split <;> omega
      have h4 := Int.emod_nonneg (-v) hne
      have h5 := Int.emod_lt_of_pos (-v) hn
      rw [e1, e2]
      by_cases h0 : (-v) % n = 0
      · left; rw [if_pos h0]; omega
      · right; rw [if_neg h0]; omega
    · left; exact (Int.tmod_eq_emod_of_nonneg h).symm
  have hlo := Int.emod_nonneg v hne
  have hhi := Int.emod_lt_of_pos v hn
  apply W.readS LO mixed [0, 1, 5] (by kernel_rfl)
  · repeat' (first | rfl | with_reducible assumption | assumption | constructor)
  intro w2 f2 s2 hf2
  replace hf2 : f2 = [(0, _), (1, _), (5, _)] := hf2
  subst hf2
  refine W.cutS (fun w' g => Same w2 w' ∧ g = [(5, .int .i64 (v % n))]) ?_ ?_
  · rcases hmod with hm | ⟨hm, hneg⟩
    · have k1 : Kn (decide (v.tmod n < 0)) false := .no (by omega)
      apply W.readS LO mixed [5, 10] (by kernel_rfl)
      · repeat' (first | rfl | with_reducible assumption | assumption | constructor)
      intro w3 f3 s3 hf3
      replace hf3 : f3 = [(5, _), (10, _)] := hf3
      subst hf3
      refine W.cond (b := false) rfl (fun h => by cases h) (fun _ => W.skip ?_)
      exact N.cut ⟨s3, rfl⟩ (sub_keys (by rw [hm]; rfl))
    · have k1 : Kn (decide (v.tmod n < 0)) true := .yes hneg
      have k2 : Kn (IntKind.i64.wrap (v.tmod n + n)) (v % n) := .of (by rw [hm]; exact IntWalk.i64_in _ (by omega))
      apply W.readS LO mixed [0, 1, 5, 10] (by kernel_rfl)
      · repeat' (first | rfl | with_reducible assumption | assumption | constructor)
      intro w3 f3 s3 hf3
      replace hf3 : f3 = [(0, _), (1, _), (5, _), (10, _)] := hf3
      subst hf3
      refine W.cond (b := true) rfl (fun _ => ?_) (fun h => by cases h)
      apply W.readN LO mixed [5] (by kernel_rfl)
      · repeat' (first | rfl | with_reducible assumption | assumption | constructor)
      intro w4 f4 s4 hf4
      replace hf4 : f4 = [(5, _)] := hf4
      subst hf4
      exact N.cut ⟨s3.trans s4, rfl⟩ (sub_keys rfl)
  · rintro w3 _ ⟨s3, rfl⟩
    apply W.readS LO mixed [4] (by kernel_rfl)
    · repeat' (first | rfl | with_reducible assumption | assumption | constructor)
    intro w4 f4 s4 hf4
    replace hf4 : f4 = [(4, _)] := hf4
    subst hf4
    exact W.ret (post LO (rs := [.tmp 4]) rfl (vs := [.int .i64 _]) (.tmp rfl .nil) ⟨rfl, ((s1.trans s2).trans s3).trans s4⟩)
end Go.Proofs.Ytnghmaejmfhigaa
