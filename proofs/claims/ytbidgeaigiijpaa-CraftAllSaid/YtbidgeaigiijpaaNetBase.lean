/- What is proved: the table of types of this seat; rows and boxes that can be read; places. Conditions: those that stand in each theorem. -/
import Derived.Test.YtbidgeaigiijpaaFwBytes
import Derived.Test.YtbidgeaigiijpaaFwBuild
import Derived.Test.YtbidgeaigiijpaaFwFun
import Derived.Test.YtbidgeaigiijpaaFwMeet
import Derived.Test.YtbidgeaigiijpaaFwLay
import Derived.IntWalk
namespace Go.Proofs.Ytbidgeaigiijpaa
set_option linter.unusedVariables false
set_option linter.unusedSimpArgs false
set_option linter.unusedSectionVars false
open Go.RowKit Fw
theorem LO : LayOk Try.prog { st := [(7, [(0, 0), (1, 0), (2, 0), (3, 0)]), (13, [(0, 0), (1, 0)]), (18, [(0, 0)]), (25, [(0, 0), (1, 0), (2, 0), (3, 0), (4, 0), (5, 0), (6, 0)]), (26, [(0, 0), (1, 0), (2, 0), (3, 0), (4, 0), (5, 0), (6, 0)]), (27, [(0, 0), (1, 0), (2, 0), (3, 0), (4, 0), (5, 0), (6, 0), (7, 0), (8, 0), (9, 0)]), (28, [(0, 0), (1, 0), (2, 0), (3, 0), (4, 0), (5, 0), (6, 0), (7, 0), (8, 0), (9, 0)]), (32, [(0, 7), (6, 7), (12, 0)]), (33, [(0, 7), (6, 7), (12, 0)]), (55, [(0, 0), (1, 0), (2, 0), (3, 0), (4, 0)]), (56, [(0, 0), (1, 0), (2, 0), (3, 0), (4, 0)]), (64, [(0, 14), (13, 11)]), (65, [(0, 14), (13, 11)]), (70, [(0, 0), (1, 0)]), (71, [(0, 0), (1, 0)]), (72, [(0, 8), (7, 0), (8, 0)]), (73, [(0, 8), (7, 0), (8, 0)]), (93, [(0, 0), (1, 0), (2, 0), (3, 0)]), (96, [(0, 1)]), (104, [(0, 0), (1, 0), (2, 0), (3, 0), (4, 0), (5, 0), (6, 0), (7, 0), (8, 0), (9, 0), (10, 0)])], one := [1, 2, 3, 4, 5, 9, 12, 15, 16, 17, 20, 21, 22, 23, 24, 29, 30, 34, 35, 37, 39, 41, 42, 43, 44, 45, 47, 48, 49, 50, 51, 52, 53, 54, 58, 60, 61, 62, 63, 66, 67, 68, 69, 74, 75, 76, 77, 78, 79, 80, 81, 82, 83, 84, 85, 86, 87, 88, 89, 90, 91, 92, 100, 101], agg := [(7, 4), (13, 2), (18, 1), (25, 7), (26, 7), (27, 10), (28, 10), (31, 6), (32, 13), (33, 13), (55, 5), (56, 5), (64, 23), (65, 23), (70, 2), (71, 2), (72, 9), (73, 9), (93, 4), (104, 11)], sl := [(24, 5, 1), (67, 71, 2), (89, 9, 1), (91, 3, 1)], ar := [(31, 6, 5, 1), (95, 0, 16, 1)], ik := [(2, .i64), (3, .i64), (5, .u8), (12, .u64), (21, .i32), (22, .u32), (35, .i64), (75, .u64)], str := [9], ptr := [15, 16, 17, 101], boo := [4], fn := [3, 4, 5, 6, 7, 8, 9, 10, 11, 12, 13, 14, 15, 16, 17, 18, 19, 20, 21, 22, 23, 24, 25, 26, 27, 28, 29, 30, 31, 32, 33, 34, 35, 36, 37, 38, 39, 40, 41, 42, 43, 44, 45, 46, 47, 48, 49, 50, 51, 52, 53, 54, 55, 56, 57, 58, 59, 60, 61, 62, 63, 64, 65, 66, 67, 68, 69, 70, 71], zero := [(1, [.nilFunc]), (2, [.int .i64 0]), (3, [.int .i64 0]), (4, [.bool false]), (5, [.int .u8 0]), (7, [.int .i64 0, .int .i64 0, .bool false, .int .u8 0]), (9, [.string ⟨#[]⟩]), (12, [.int .u64 0]), (13, [.string ⟨#[]⟩, .int .u64 0]), (15, [.pointer none]), (16, [.pointer none]), (17, [.pointer none]), (18, [.pointer none]), (20, [.nilIface]), (21, [.int .i32 0]), (22, [.int .u32 0]), (23, [.nilFunc]), (24, [.slice none 0 0]), (25, [.int .i64 0, .int .i64 0, .int .u32 0, .int .u32 0, .int .i64 0, .int .i64 0, .string ⟨#[]⟩]), (26, [.int .i64 0, .int .i64 0, .int .u32 0, .int .u32 0, .int .i64 0, .int .i64 0, .string ⟨#[]⟩]), (27, [.int .i64 0, .int .i64 0, .bool false, .bool false, .int .i64 0, .int .i64 0, .int .i64 0, .int .u32 0, .int .u32 0, .string ⟨#[]⟩]), (28, [.int .i64 0, .int .i64 0, .bool false, .bool false, .int .i64 0, .int .i64 0, .int .i64 0, .int .u32 0, .int .u32 0, .string ⟨#[]⟩]), (29, [.nilFunc]), (30, [.nilFunc]), (31, [.int .u8 0, .int .u8 0, .int .u8 0, .int .u8 0, .int .u8 0, .int .u8 0]), (32, [.int .u8 0, .int .u8 0, .int .u8 0, .int .u8 0, .int .u8 0, .int .u8 0, .int .u8 0, .int .u8 0, .int .u8 0, .int .u8 0, .int .u8 0, .int .u8 0, .int .i64 0]), (33, [.int .u8 0, .int .u8 0, .int .u8 0, .int .u8 0, .int .u8 0, .int .u8 0, .int .u8 0, .int .u8 0, .int .u8 0, .int .u8 0, .int .u8 0, .int .u8 0, .int .i64 0]), (34, [.nilFunc]), (35, [.int .i64 0]), (37, [.nilFunc]), (39, [.nilFunc]), (41, [.nilFunc]), (42, [.nilFunc]), (43, [.nilFunc]), (44, [.nilFunc]), (45, [.nilFunc]), (47, [.nilFunc]), (48, [.nilFunc]), (49, [.nilFunc]), (50, [.nilFunc]), (51, [.nilFunc]), (52, [.nilFunc]), (53, [.nilFunc]), (54, [.nilFunc]), (55, [.int .i64 0, .int .i64 0, .int .i64 0, .int .i64 0, .int .u32 0]), (56, [.int .i64 0, .int .i64 0, .int .i64 0, .int .i64 0, .int .u32 0]), (58, [.nilFunc]), (60, [.nilFunc]), (61, [.nilFunc]), (62, [.nilFunc]), (63, [.nilFunc]), (64, [.int .u8 0, .int .u8 0, .int .u8 0, .int .u8 0, .int .u8 0, .int .u8 0, .int .u8 0, .int .u8 0, .int .u8 0, .int .u8 0, .int .u8 0, .int .u8 0, .int .i64 0, .int .i64 0, .int .i64 0, .bool false, .bool false, .int .i64 0, .int .i64 0, .int .i64 0, .int .u32 0, .int .u32 0, .string ⟨#[]⟩]), (65, [.int .u8 0, .int .u8 0, .int .u8 0, .int .u8 0, .int .u8 0, .int .u8 0, .int .u8 0, .int .u8 0, .int .u8 0, .int .u8 0, .int .u8 0, .int .u8 0, .int .i64 0, .int .i64 0, .int .i64 0, .bool false, .bool false, .int .i64 0, .int .i64 0, .int .i64 0, .int .u32 0, .int .u32 0, .string ⟨#[]⟩]), (66, [.nilFunc]), (67, [.slice none 0 0]), (68, [.nilFunc]), (69, [.nilFunc]), (70, [.nilFunc, .int .i64 0]), (71, [.nilFunc, .int .i64 0]), (72, [.int .i64 0, .int .i64 0, .int .u32 0, .int .u32 0, .int .i64 0, .int .i64 0, .string ⟨#[]⟩, .int .u32 0, .int .u32 0]), (73, [.int .i64 0, .int .i64 0, .int .u32 0, .int .u32 0, .int .i64 0, .int .i64 0, .string ⟨#[]⟩, .int .u32 0, .int .u32 0]), (74, [.nilFunc]), (75, [.int .u64 0]), (76, [.nilFunc]), (77, [.nilFunc]), (78, [.nilFunc]), (79, [.nilFunc]), (80, [.nilFunc]), (81, [.nilFunc]), (82, [.nilFunc]), (83, [.nilFunc]), (84, [.nilFunc]), (85, [.nilFunc]), (86, [.nilFunc]), (87, [.nilFunc]), (88, [.nilFunc]), (89, [.slice none 0 0]), (90, [.nilFunc]), (91, [.slice none 0 0]), (92, [.nilFunc]), (93, [.pointer none, .pointer none, .pointer none, .string ⟨#[]⟩]), (95, []), (96, []), (100, [.nilFunc]), (101, [.pointer none]), (104, [.int .u64 0, .int .u64 0, .int .u32 0, .int .u8 0, .int .u8 0, .int .u8 0, .int .u8 0, .nilFunc, .pointer none, .int .i32 0, .int .i32 0])] } := layOk (by kernel_rfl)
theorem mixed : Try.prog.follows .mixedOrders = true := by kernel_rfl
theorem size_alloc' (w : World) (o : Obj) : (w.alloc o).heap.size = w.heap.size + 1 := Array.size_push _
def Rd (w : World) (z : Nat) (v : Value) (n : Nat) (cells : List Value) : Prop := ∃ a c, v = .slice a n c ∧ n ≤ c ∧ (a = none → n = 0 ∧ c = 0) ∧ cells.length = n * z ∧ ∀ (j : Nat) (u : Value), cells[j]? = some u → ∃ b o, a = some ⟨b, o, none⟩ ∧ w.cell? ⟨b, o + j, none⟩ = some u
theorem Rd.moved {w w' : World} {z n : Nat} {v : Value} {cells : List Value} (h : Rd w z v n cells) (m : Mv (fun _ => False) w w') : Rd w' z v n cells := by
  obtain ⟨a, c, hv, hn, ha, hl, hr⟩ := h
  refine ⟨a, c, hv, hn, ha, hl, fun j u hj => ?_⟩
  obtain ⟨b, o, e, hc⟩ := hr j u hj
  exact ⟨b, o, e, m.cell hc fun e => e⟩
theorem Rd.one {w : World} {z n : Nat} {v : Value} {cells : List Value} (h : Rd w z v n cells) : v.oneCell' = true ∧ v.cells = #[v] := by
  obtain ⟨a, c, rfl, _⟩ := h
  exact ⟨rfl, rfl⟩
theorem cellsAt_of {w : World} {b : Nat} : ∀ {cs : List Value} {o : Nat}, (∀ (j : Nat) (u : Value), cs[j]? = some u → w.cell? ⟨b, o + j, none⟩ = some u) → CellsAt w b o cs.length cs
  | [], _, _ => .nil
  | v :: r, o, h => .cons ⟨h 0 v rfl⟩ (cellsAt_of fun j u hj => by
      have := h (j + 1) u hj
      rw [show o + (j + 1) = o + 1 + j by omega] at this
      exact this)
theorem flat_at {α : Type} (f : α → List Value) (z : Nat) (hz : ∀ x, (f x).length = z) : ∀ (L : List α) (i j : Nat), j < z → (L.flatMap f)[i * z + j]? = (L[i]?).bind fun x => (f x)[j]?
  | [], i, j, _ => by simp
  | x :: r, 0, j, h => by
    rw [List.flatMap_cons, List.getElem?_append_left (by rw [hz]; omega), Nat.zero_mul, Nat.zero_add]
    rfl
  | x :: r, i + 1, j, h => by
    rw [List.flatMap_cons, List.getElem?_append_right (by rw [hz, Nat.add_mul]; omega), hz, show (i + 1) * z + j - z = i * z + j by rw [Nat.add_mul]; omega]
    exact flat_at f z hz r i j h
/-- One element of such a row. -/
theorem Rd.at {α : Type} {f : α → List Value} {z : Nat} (hz : ∀ x, (f x).length = z) (hz0 : 0 < z) {w : World} {v : Value} {l : List α} (h : Rd w z v l.length (l.flatMap f)) {i : Nat} {x : α} (hx : l[i]? = some x) : ∃ b o c, v = .slice (some ⟨b, o, none⟩) l.length c ∧ CellsAt w b (o + (i : Int).toNat * z) z (f x) := by
  obtain ⟨a, c, rfl, hn, ha, hl, hr⟩ := h
  have hf : ∀ (j : Nat) (u : Value), (f x)[j]? = some u → (l.flatMap f)[i * z + j]? = some u := fun j u hj => by
    have hjz : j < z := by rw [← hz x]; exact (List.getElem?_eq_some_iff.1 hj).1
    rw [flat_at f z hz l i j hjz, hx]; exact hj
  obtain ⟨u0, hu0⟩ : ∃ u, (f x)[0]? = some u := ⟨_, List.getElem?_eq_getElem (by rw [hz]; exact hz0)⟩
  obtain ⟨b, o, rfl, _⟩ := hr _ _ (hf 0 u0 hu0)
  refine ⟨b, o, c, rfl, ?_⟩
  have : CellsAt w b (o + (i : Int).toNat * z) (f x).length (f x) := cellsAt_of fun j u hj => by
    obtain ⟨b', o', e, hc⟩ := hr _ _ (hf j u hj)
    injection e with e
    injection e with e1 e2
    subst e1 e2
    rw [show (i : Int).toNat = i by omega, Nat.add_assoc]
    exact hc
  rwa [hz] at this
theorem Rd.len {w : World} {z n : Nat} {v : Value} {cells : List Value} (h : Rd w z v n cells) : ∃ a c, v = .slice a n c := by
  obtain ⟨a, c, rfl, _⟩ := h
  exact ⟨a, c, rfl⟩
/-- A struct of two in its box, the second one's cell. -/
def B2 (w : World) (r T : Nat) (u v : Value) : Prop := w.heap[r]? = some (.cells [u, v].toArray T (0, 0))
theorem B2.moved {w w' : World} {r T : Nat} {u v : Value} (h : B2 w r T u v) (m : Mv (fun _ => False) w w') : B2 w' r T u v := (m.block r (Array.getElem?_eq_some_iff.1 h).1 fun e => e).trans h
theorem B2.cls {w : World} {r T : Nat} {u v : Value} (h : B2 w r T u v) : Cl w ⟨r, 0, none⟩ u ∧ Cl w ⟨r, 1, none⟩ v := by
  unfold B2 at h
  exact ⟨⟨by unfold World.cell?; rw [h]; rfl⟩, ⟨by unfold World.cell?; rw [h]; rfl⟩⟩
theorem B2.cells {w : World} {r T : Nat} {u v : Value} (h : B2 w r T u v) : CellsAt w r 0 2 [u, v] := .cons h.cls.1 (.cons h.cls.2 .nil)
theorem Same.trans {w w1 w2 : World} (a : Same w w1) (b : Same w1 w2) : Same w w2 := ⟨b.heap.trans a.heap, b.os.trans a.os, b.tape.trans a.tape, b.output.trans a.output⟩
/-- A box of cells. -/
def BX (w : World) (b T : Nat) (cs : List Value) : Prop := w.heap[b]? = some (.cells cs.toArray T (0, 0))
theorem BX.moved {S : Nat → Prop} {w w' : World} {b T : Nat} {cs : List Value} (h : BX w b T cs) (m : Mv S w w') (hs : ¬ S b) : BX w' b T cs := (m.block b (Array.getElem?_eq_some_iff.1 h).1 hs).trans h
theorem BX.same {w w' : World} {b T : Nat} {cs : List Value} (h : BX w b T cs) (s : Same w w') : BX w' b T cs := by unfold BX; rw [s.heap]; exact h
theorem BX.lt {w : World} {b T : Nat} {cs : List Value} (h : BX w b T cs) : b < w.heap.size := (Array.getElem?_eq_some_iff.1 h).1
theorem BX.cl {w : World} {b T : Nat} {cs : List Value} (h : BX w b T cs) {j : Nat} {u : Value} (hj : cs[j]? = some u) : Cl w ⟨b, j, none⟩ u := ⟨by
  unfold BX at h
  unfold World.cell?; rw [h]
  show cs.toArray[j]? = _
  rw [List.getElem?_toArray]; exact hj⟩
theorem BX.cells {w : World} {b T : Nat} {cs : List Value} (h : BX w b T cs) : CellsAt w b 0 cs.length cs := cellsAt_of fun j u hj => by rw [Nat.zero_add]; exact (h.cl hj).h
theorem set_one (a : Array Value) (h : a.size = 1) (u : Value) : a.setIfInBounds 0 u = #[u] := by
  obtain ⟨l⟩ := a
  match l, h with
  | [x], _ => rfl
theorem fill_one (z u : Value) (hz : z.cells = #[z]) (hu : u.cells = #[u]) : Instr.fill (fun i => some (i * 1, 1)) ((Array.range (1 * 1)).map (z.cells[· % z.cells.size]!)) [(0, u)] = some [u].toArray := by
  rw [hz]
  simp only [Instr.fill, hu]
  simp [Array.range, set_one]
theorem reads_one (w : World) (e : TypeId) (u : Value) : Reads (w.alloc (.cells [u].toArray e)) (.slice (some ⟨w.heap.size, 0, none⟩) 1 1) [u] := by
  refine ⟨_, _, _, rfl, rfl, fun h => (by cases h), fun j v hj => ?_⟩
  cases j with
  | zero =>
    obtain rfl : u = v := by simpa using hj
    refine ⟨_, rfl, ?_⟩
    rw [Addr.add_lit]
    unfold World.cell?
    have := heap_alloc_new w (.cells [u].toArray e)
    simp only [this]
    rfl
  | succ j => simp at hj
/-- A contract that leaves the world alone but for draws. -/
def Says (w : World) (v : Value) : Ending → World → Prop := fun e w' => e = .returned v ∧ Same w w'
theorem quiet_of {P : Program} {g : Nat} {args : Array Value} {v : Value} {w : World} (h : ∀ w', Same w w' → Calls P g args w' (Says w' v)) : ∀ w', Same w w' → Calls P g args w' fun e w'' => e = .returned v ∧ Same w w'' :=
  fun w' hs => (h w' hs).mono fun e w'' ⟨he, hw⟩ => ⟨he, hs.trans hw⟩
def Yes (w : World) (e : Ending) (w' : World) : Prop := e = .returned (.bool true) ∧ Mv (fun _ => False) w w'
theorem Rd.nil (w : World) (z : Nat) : Rd w z (.slice none 0 0) 0 [] := ⟨none, 0, rfl, Nat.le_refl _, fun _ => ⟨rfl, rfl⟩, by simp, fun j u hj => by simp at hj⟩
/-- A new row reads as what it was made of. -/
theorem Rd.new {w : World} {b T z n : Nat} {cells : List Value} (h : w.heap[b]? = some (.cells cells.toArray T (0, 0))) (hl : cells.length = n * z) : Rd w z (.slice (some ⟨b, 0, none⟩) n n) n cells := by
  refine ⟨_, _, rfl, Nat.le_refl _, fun h => (by cases h), hl, fun j u hj => ⟨b, 0, rfl, ?_⟩⟩
  unfold World.cell?
  simp only [h]
  rw [Nat.zero_add, List.getElem?_toArray]
  exact hj
theorem place00_says (v n : Int) (w : World) (hn : 0 < n) (hn1 : n ≤ 9223372036854775807) (hv : -9223372036854775808 ≤ v) (hv1 : v ≤ 9223372036854775807) :
    Calls Try.prog 7 #[.int .i64 v, .int .i64 n] w (Says w (.int .i64 (v % n))) := by
  refine calls_W (n := 15) (vs := [.int .i64 v, .int .i64 n]) Try.func7 rfl rfl rfl ?_
  apply W.readS LO mixed [0, 1] (by kernel_rfl)
  · repeat' (first | rfl | with_reducible assumption | assumption | constructor)
  intro w1 f1 s1 hf1
  replace hf1 : f1 = [(0, _), (1, _)] := hf1
  subst hf1
  have hne : n ≠ 0 := by omega
  have hmod : v % n = v.tmod n ∨ v % n = v.tmod n + n ∧ v.tmod n < 0 := by
    rcases Int.lt_or_le v 0 with h | h
    · have e1 : v.tmod n = -((-v) % n) := by
        have := Int.neg_tmod (a := -v) (b := n)
        rw [Int.neg_neg] at this
        rw [this, Int.tmod_eq_emod_of_nonneg (by omega)]
      have e2 : v % n = if (-v) % n = 0 then 0 else n - (-v) % n := by
        have := Int.neg_emod (a := -v) (b := n)
        rw [Int.neg_neg] at this
        rw [this]
        simp only [Int.dvd_iff_emod_eq_zero]
        split <;> omega
      have h4 := Int.emod_nonneg (-v) hne
      have h5 := Int.emod_lt_of_pos (-v) hn
      rw [e1, e2]
      by_cases h0 : (-v) % n = 0
      · left; rw [if_pos h0]; omega
      · right; rw [if_neg h0]; omega
    · left; exact (Int.tmod_eq_emod_of_nonneg h).symm
  have hlo := Int.emod_nonneg v hne
  have hhi := Int.emod_lt_of_pos v hn
  apply W.readS LO mixed [0, 1, 5] (by kernel_rfl)
  · repeat' (first | rfl | with_reducible assumption | assumption | constructor)
  intro w2 f2 s2 hf2
  replace hf2 : f2 = [(0, _), (1, _), (5, _)] := hf2
  subst hf2
  refine W.cutS (fun w' g => Same w2 w' ∧ g = [(5, .int .i64 (v % n))]) ?_ ?_
  · rcases hmod with hm | ⟨hm, hneg⟩
    · have k1 : Kn (decide (v.tmod n < 0)) false := .no (by omega)
      apply W.readS LO mixed [5, 10] (by kernel_rfl)
      · repeat' (first | rfl | with_reducible assumption | assumption | constructor)
      intro w3 f3 s3 hf3
      replace hf3 : f3 = [(5, _), (10, _)] := hf3
      subst hf3
      refine W.cond (b := false) rfl (fun h => by cases h) (fun _ => W.skip ?_)
      exact N.cut ⟨s3, rfl⟩ (sub_keys (by rw [hm]; rfl))
    · have k1 : Kn (decide (v.tmod n < 0)) true := .yes hneg
      have k2 : Kn (IntKind.i64.wrap (v.tmod n + n)) (v % n) := .of (by rw [hm]; exact IntWalk.i64_in _ (by omega))
      apply W.readS LO mixed [0, 1, 5, 10] (by kernel_rfl)
      · repeat' (first | rfl | with_reducible assumption | assumption | constructor)
      intro w3 f3 s3 hf3
      replace hf3 : f3 = [(0, _), (1, _), (5, _), (10, _)] := hf3
      subst hf3
      refine W.cond (b := true) rfl (fun _ => ?_) (fun h => by cases h)
      apply W.readN LO mixed [5] (by kernel_rfl)
      · repeat' (first | rfl | with_reducible assumption | assumption | constructor)
      intro w4 f4 s4 hf4
      replace hf4 : f4 = [(5, _)] := hf4
      subst hf4
      exact N.cut ⟨s3.trans s4, rfl⟩ (sub_keys rfl)
  · rintro w3 _ ⟨s3, rfl⟩
    apply W.readS LO mixed [4] (by kernel_rfl)
    · repeat' (first | rfl | with_reducible assumption | assumption | constructor)
    intro w4 f4 s4 hf4
    replace hf4 : f4 = [(4, _)] := hf4
    subst hf4
    exact W.ret (post LO (rs := [.tmp 4]) rfl (vs := [.int .i64 _]) (.tmp rfl .nil) ⟨rfl, ((s1.trans s2).trans s3).trans s4⟩)
end Go.Proofs.Ytbidgeaigiijpaa
