/- What is proved: nets: masks, whether an address is in a net, in a set. Conditions: those that stand in each theorem. -/
import Derived.Test.YtbbafhpnlmmjjaaFwRowZ
import Derived.Test.YtbbafhpnlmmjjaaFwLay
import Derived.Test.YtbbafhpnlmmjjaaFwTail
import Derived.Test.YtbbafhpnlmmjjaaFwHeld
import Derived.IntWalk
namespace Go.Proofs.Ytbbafhpnlmmjjaa
set_option linter.unusedVariables false
set_option linter.unusedSimpArgs false
set_option linter.unusedSectionVars false
open Go.RowKit Fw
set_option maxRecDepth 100000 in
set_option maxHeartbeats 4000000 in
theorem LO : LayOk Try.prog { st := [(7, [(0, 0), (1, 0), (2, 0), (3, 0)]), (13, [(0, 0), (1, 0)]), (18, [(0, 0)]), (24, [(0, 0), (1, 0), (2, 0), (3, 0), (4, 0)]), (25, [(0, 0), (1, 0), (2, 0), (3, 0), (4, 0)]), (30, [(0, 0), (1, 0)]), (31, [(0, 0), (1, 0)]), (33, [(0, 0), (1, 0)]), (34, [(0, 0), (1, 0)]), (36, [(0, 0), (1, 0), (2, 3), (4, 3), (6, 3), (8, 3), (10, 0), (11, 0), (12, 0), (13, 0), (14, 0)]), (37, [(0, 0), (1, 0), (2, 3), (4, 3), (6, 3), (8, 3), (10, 0), (11, 0), (12, 0), (13, 0), (14, 0)]), (47, [(0, 0), (1, 0)]), (48, [(0, 0), (1, 0)]), (49, [(0, 0), (1, 0)]), (50, [(0, 0), (1, 0)]), (53, [(0, 0), (1, 0), (2, 0), (3, 0), (4, 0), (5, 0), (6, 0), (7, 0)]), (54, [(0, 0), (1, 0), (2, 0), (3, 0), (4, 0), (5, 0), (6, 0), (7, 0)]), (55, [(0, 0), (1, 0)]), (56, [(0, 0), (1, 0)]), (58, [(0, 0), (1, 0), (2, 3), (4, 3), (6, 3), (8, 3), (10, 0), (11, 0), (12, 0), (13, 0), (14, 0)]), (78, [(0, 0), (1, 0), (2, 0), (3, 0)]), (81, [(0, 1)]), (90, [(0, 0), (1, 0), (2, 0), (3, 0), (4, 0), (5, 0), (6, 0), (7, 0), (8, 0), (9, 0), (10, 0)])], one := [1, 2, 3, 4, 5, 9, 12, 15, 16, 17, 20, 21, 22, 23, 26, 27, 28, 29, 32, 35, 38, 39, 40, 41, 42, 43, 44, 46, 51, 52, 57, 59, 62, 63, 64, 65, 66, 67, 68, 69, 70, 71, 72, 73, 75, 76, 77, 83, 86, 87], agg := [(7, 4), (13, 2), (18, 1), (24, 5), (25, 5), (30, 2), (31, 2), (33, 2), (34, 2), (36, 15), (37, 15), (45, 3), (47, 2), (48, 2), (49, 2), (50, 2), (53, 8), (54, 8), (55, 2), (56, 2), (58, 15), (60, 8), (61, 4), (74, 33), (78, 4), (90, 11)], sl := [(22, 37, 15), (29, 48, 2), (32, 50, 2), (35, 54, 8), (39, 3, 1), (73, 5, 1)], ar := [(45, 3, 3, 1), (60, 8, 3, 1), (61, 4, 3, 1), (74, 33, 23, 1), (80, 0, 16, 1)], ik := [(2, .i64), (3, .i64), (5, .u8), (12, .u64), (21, .i32), (23, .u32), (72, .u64), (76, .u64)], str := [9], ptr := [15, 16, 17, 87], boo := [4], fn := [3, 4, 5, 6, 7, 8, 9, 10, 11, 12, 13, 14, 15, 16, 17, 18, 19, 20, 21, 22, 23, 24, 25, 26, 27, 28, 29, 30, 31, 32, 33, 34, 35], zero := [(1, [.nilFunc]), (2, [.int .i64 0]), (3, [.int .i64 0]), (4, [.bool false]), (5, [.int .u8 0]), (7, [.int .i64 0, .int .i64 0, .bool false, .int .u8 0]), (9, [.string ⟨#[]⟩]), (12, [.int .u64 0]), (13, [.string ⟨#[]⟩, .int .u64 0]), (15, [.pointer none]), (16, [.pointer none]), (17, [.pointer none]), (18, [.pointer none]), (20, [.nilIface]), (21, [.int .i32 0]), (22, [.slice none 0 0]), (23, [.int .u32 0]), (24, [.int .i64 0, .int .u32 0, .int .u32 0, .int .i64 0, .int .i64 0]), (25, [.int .i64 0, .int .u32 0, .int .u32 0, .int .i64 0, .int .i64 0]), (26, [.nilFunc]), (27, [.nilFunc]), (28, [.nilFunc]), (29, [.slice none 0 0]), (30, [.bool false, .slice none 0 0]), (31, [.bool false, .slice none 0 0]), (32, [.slice none 0 0]), (33, [.bool false, .slice none 0 0]), (34, [.bool false, .slice none 0 0]), (35, [.slice none 0 0]), (36, [.int .i64 0, .int .i64 0, .bool false, .slice none 0 0, .bool false, .slice none 0 0, .bool false, .slice none 0 0, .bool false, .slice none 0 0, .bool false, .int .i64 0, .slice none 0 0, .int .i64 0, .int .i64 0]), (37, [.int .i64 0, .int .i64 0, .bool false, .slice none 0 0, .bool false, .slice none 0 0, .bool false, .slice none 0 0, .bool false, .slice none 0 0, .bool false, .int .i64 0, .slice none 0 0, .int .i64 0, .int .i64 0]), (38, [.nilFunc]), (39, [.slice none 0 0]), (40, [.nilFunc]), (41, [.nilFunc]), (42, [.nilFunc]), (43, [.nilFunc]), (44, [.nilFunc]), (45, [.int .i64 0, .int .i64 0, .int .i64 0]), (46, [.nilFunc]), (47, [.int .u32 0, .int .i64 0]), (48, [.int .u32 0, .int .i64 0]), (49, [.int .i64 0, .int .i64 0]), (50, [.int .i64 0, .int .i64 0]), (51, [.nilFunc]), (52, [.nilFunc]), (53, [.string ⟨#[]⟩, .bool false, .bool false, .int .i64 0, .int .i64 0, .bool false, .int .i64 0, .int .i64 0]), (54, [.string ⟨#[]⟩, .bool false, .bool false, .int .i64 0, .int .i64 0, .bool false, .int .i64 0, .int .i64 0]), (55, [.int .u32 0, .int .i64 0]), (56, [.int .u32 0, .int .i64 0]), (57, [.nilFunc]), (58, [.int .i64 0, .int .i64 0, .bool false, .slice none 0 0, .bool false, .slice none 0 0, .bool false, .slice none 0 0, .bool false, .slice none 0 0, .bool false, .int .i64 0, .slice none 0 0, .int .i64 0, .int .i64 0]), (59, [.nilFunc]), (60, [.int .i64 0, .int .i64 0, .int .i64 0, .int .i64 0, .int .i64 0, .int .i64 0, .int .i64 0, .int .i64 0]), (61, [.int .i64 0, .int .i64 0, .int .i64 0, .int .i64 0]), (62, [.nilFunc]), (63, [.nilFunc]), (64, [.nilFunc]), (65, [.nilFunc]), (66, [.nilFunc]), (67, [.nilFunc]), (68, [.nilFunc]), (69, [.nilFunc]), (70, [.nilFunc]), (71, [.nilFunc]), (72, [.int .u64 0]), (73, [.slice none 0 0]), (74, [.int .u32 0, .int .u32 0, .int .u32 0, .int .u32 0, .int .u32 0, .int .u32 0, .int .u32 0, .int .u32 0, .int .u32 0, .int .u32 0, .int .u32 0, .int .u32 0, .int .u32 0, .int .u32 0, .int .u32 0, .int .u32 0, .int .u32 0, .int .u32 0, .int .u32 0, .int .u32 0, .int .u32 0, .int .u32 0, .int .u32 0, .int .u32 0, .int .u32 0, .int .u32 0, .int .u32 0, .int .u32 0, .int .u32 0, .int .u32 0, .int .u32 0, .int .u32 0, .int .u32 0]), (75, [.nilFunc]), (76, [.int .u64 0]), (77, [.nilFunc]), (78, [.pointer none, .pointer none, .pointer none, .string ⟨#[]⟩]), (80, []), (81, []), (83, [.nilFunc]), (86, [.nilFunc]), (87, [.pointer none]), (90, [.int .u64 0, .int .u64 0, .int .u32 0, .int .u8 0, .int .u8 0, .int .u8 0, .int .u8 0, .nilFunc, .pointer none, .int .i32 0, .int .i32 0])] } := layOk (by kernel_rfl)
theorem mixed : Try.prog.follows .mixedOrders = true := by kernel_rfl
theorem size_alloc' (w : World) (o : Obj) : (w.alloc o).heap.size = w.heap.size + 1 := Array.size_push _
/-! ### Rows that are only read -/
def Rd (w : World) (z : Nat) (v : Value) (n : Nat) (cells : List Value) : Prop := ∃ a c, v = .slice a n c ∧ n ≤ c ∧ (a = none → n = 0 ∧ c = 0) ∧ cells.length = n * z ∧ ∀ (j : Nat) (u : Value), cells[j]? = some u → ∃ b o, a = some ⟨b, o, none⟩ ∧ w.cell? ⟨b, o + j, none⟩ = some u
theorem Rd.moved {w w' : World} {z n : Nat} {v : Value} {cells : List Value} (h : Rd w z v n cells) (m : Mv (fun _ => False) w w') : Rd w' z v n cells := by
  obtain ⟨a, c, hv, hn, ha, hl, hr⟩ := h
  refine ⟨a, c, hv, hn, ha, hl, fun j u hj => ?_⟩
  obtain ⟨b, o, e, hc⟩ := hr j u hj
  exact ⟨b, o, e, m.cell hc fun e => e⟩
theorem Rd.one {w : World} {z n : Nat} {v : Value} {cells : List Value} (h : Rd w z v n cells) : v.oneCell' = true ∧ v.cells = #[v] := by
  obtain ⟨a, c, rfl, _⟩ := h
  exact ⟨rfl, rfl⟩
theorem cellsAt_of {w : World} {b : Nat} : ∀ {cs : List Value} {o : Nat}, (∀ (j : Nat) (u : Value), cs[j]? = some u → w.cell? ⟨b, o + j, none⟩ = some u) → CellsAt w b o cs.length cs
  | [], _, _ => .nil
  | v :: r, o, h => .cons ⟨h 0 v rfl⟩ (cellsAt_of fun j u hj => by
      have := h (j + 1) u hj
      rw [show o + (j + 1) = o + 1 + j by omega] at this
      exact this)
theorem flat_at {α : Type} (f : α → List Value) (z : Nat) (hz : ∀ x, (f x).length = z) : ∀ (L : List α) (i j : Nat), j < z → (L.flatMap f)[i * z + j]? = (L[i]?).bind fun x => (f x)[j]?
  | [], i, j, _ => by simp
  | x :: r, 0, j, h => by
    rw [List.flatMap_cons, List.getElem?_append_left (by rw [hz]; omega), Nat.zero_mul, Nat.zero_add]
    rfl
  | x :: r, i + 1, j, h => by
    rw [List.flatMap_cons, List.getElem?_append_right (by rw [hz, Nat.add_mul]; omega), hz, show (i + 1) * z + j - z = i * z + j by rw [Nat.add_mul]; omega]
    exact flat_at f z hz r i j h
/-- One element of such a row. -/
theorem Rd.at {α : Type} {f : α → List Value} {z : Nat} (hz : ∀ x, (f x).length = z) (hz0 : 0 < z) {w : World} {v : Value} {l : List α} (h : Rd w z v l.length (l.flatMap f)) {i : Nat} {x : α} (hx : l[i]? = some x) : ∃ b o c, v = .slice (some ⟨b, o, none⟩) l.length c ∧ CellsAt w b (o + (i : Int).toNat * z) z (f x) := by
  obtain ⟨a, c, rfl, hn, ha, hl, hr⟩ := h
  have hf : ∀ (j : Nat) (u : Value), (f x)[j]? = some u → (l.flatMap f)[i * z + j]? = some u := fun j u hj => by
    have hjz : j < z := by rw [← hz x]; exact (List.getElem?_eq_some_iff.1 hj).1
    rw [flat_at f z hz l i j hjz, hx]; exact hj
  obtain ⟨u0, hu0⟩ : ∃ u, (f x)[0]? = some u := ⟨_, List.getElem?_eq_getElem (by rw [hz]; exact hz0)⟩
  obtain ⟨b, o, rfl, _⟩ := hr _ _ (hf 0 u0 hu0)
  refine ⟨b, o, c, rfl, ?_⟩
  have : CellsAt w b (o + (i : Int).toNat * z) (f x).length (f x) := cellsAt_of fun j u hj => by
    obtain ⟨b', o', e, hc⟩ := hr _ _ (hf j u hj)
    injection e with e
    injection e with e1 e2
    subst e1 e2
    rw [show (i : Int).toNat = i by omega, Nat.add_assoc]
    exact hc
  rwa [hz] at this
theorem Rd.len {w : World} {z n : Nat} {v : Value} {cells : List Value} (h : Rd w z v n cells) : ∃ a c, v = .slice a n c := by
  obtain ⟨a, c, rfl, _⟩ := h
  exact ⟨a, c, rfl⟩
/-! ### Masks -/
def mk (n : Int) : Int := IntKind.u32.wrap (IntKind.u64.wrap (4294967295 * 2 ^ (min (32 - n).toNat IntKind.u64.bits)))
def mkTo (n : Nat) : List Value := (List.range n).map (fun i : Nat => Value.int .u32 (mk i)) ++ List.replicate (33 - n) (.int .u32 0)
def maskL : List Value := (List.range 33).map fun i : Nat => Value.int .u32 (mk i)
theorem mkTo_len (n : Nat) (h : n ≤ 33) : (mkTo n).length = 33 := by unfold mkTo; simp; omega
theorem mkTo_set (n : Nat) (h : n < 33) : wr (mkTo n) n [Value.int .u32 (mk n)] = mkTo (n + 1) := by
  unfold wr mkTo
  rw [List.take_append_of_le_length (by simp), List.take_of_length_le (by simp), List.range_succ, List.map_append, List.append_assoc, List.append_assoc]
  congr 1
  rw [show 33 - n = (33 - (n + 1)) + 1 by omega, List.replicate_succ]
  congr 1
  rw [List.drop_append, List.drop_eq_nil_iff.2 (by simp), List.nil_append, List.length_singleton, List.length_map, List.length_range, show n + 1 - n = 1 by omega]
  rfl
theorem mkTo_all : mkTo 33 = maskL := by unfold mkTo maskL; simp
set_option maxRecDepth 100000 in
set_option maxHeartbeats 2000000 in
theorem masks_walk (w : World) : Calls Try.prog 35 #[] w fun e w' => e = .returned (.agg maskL.toArray) ∧ Mv (fun _ => False) w w' := by
  refine calls_W (n := 14) (vs := []) Try.func35 rfl rfl rfl ?_
  refine W.seq (W.list ?_)
  refine Ls.alloc LO rfl rfl rfl rfl (zs := mkTo 0) rfl ?_
  have hb0 := heap_alloc_new w (.cells (mkTo 0).toArray 74)
  have m0 : Mv (fun _ => False) w (w.alloc (.cells (mkTo 0).toArray 74)) := (Mv.refl _ w).alloc _
  have z0 := size_alloc' w (.cells (mkTo 0).toArray 74)
  generalize w.alloc (.cells (mkTo 0).toArray 74) = w0 at hb0 m0 z0
  obtain ⟨r, hr⟩ : ∃ r, r = w.heap.size := ⟨_, rfl⟩
  rw [← hr] at hb0
  rw [← hr]
  refine Ls.nil (N.to ?_)
  refine W.seq (W.list ?_)
  refine Ls.alloc LO rfl rfl rfl rfl (zs := mkTo 0) rfl ?_
  have hb1 := heap_alloc_new w0 (.cells (mkTo 0).toArray 74)
  have m1 : Mv (fun _ => False) w0 (w0.alloc (.cells (mkTo 0).toArray 74)) := (Mv.refl _ w0).alloc _
  generalize w0.alloc (.cells (mkTo 0).toArray 74) = w1 at hb1 m1
  obtain ⟨s, hs⟩ : ∃ s, s = w0.heap.size := ⟨_, rfl⟩
  rw [← hs] at hb1
  rw [← hs]
  refine Ls.nil (N.to ?_)
  have hrs : r ≠ s := by omega
  have hb0 := (m1.block r (by omega) (fun e => e)).trans hb0
  have m1 := m0.trans m1
  have hsw : w.heap.size ≤ s := by rw [hs]; exact m0.size
  refine W.cutS (fun w' g => (w'.heap[r]? = some (.cells (mkTo 0).toArray 74 (0, 0)) ∧ w'.heap[s]? = some (.cells maskL.toArray 74 (0, 0)) ∧ Mv (fun _ => False) w w') ∧ g = [(0, .pointer (some ⟨r, 0, none⟩)), (1, .pointer (some ⟨s, 0, none⟩))]) ?_ ?_
  ·
    apply W.readS LO mixed [0, 1, 3] (by kernel_rfl)
    · repeat' (first | rfl | with_reducible assumption | assumption | constructor)
    intro w2 f2 s2 hf2
    replace hf2 : f2 = [(0, _), (1, _), (3, _)] := hf2
    subst hf2
    refine W.block (W.loop (fun k w' g => ∃ n : Nat, k + n = 33 ∧ w'.heap[r]? = some (.cells (mkTo 0).toArray 74 (0, 0)) ∧ w'.heap[s]? = some (.cells (mkTo n).toArray 74 (0, 0)) ∧ Mv (fun _ => False) w w' ∧ g = [(0, .pointer (some ⟨r, 0, none⟩)), (1, .pointer (some ⟨s, 0, none⟩)), (3, .int .i64 n)]) 33 _ ⟨0, rfl, by rw [s2.heap]; exact hb0, by rw [s2.heap]; exact hb1, m1.same s2, rfl⟩ (sub_keys rfl) ?_)
    clear hb0 hb1 m1 s2 m0 z0
    rintro k w3 _ ⟨n, hk, h0, h1, hm, rfl⟩
    by_cases hlt : n < 33
    · have k1 : Kn (decide ((n : Int) < 33)) true := .yes (by omega)
      apply W.readS LO mixed [0, 1, 3, 4] (by kernel_rfl)
      · repeat' (first | rfl | with_reducible assumption | assumption | constructor)
      intro w4 f4 s4 hf4
      replace hf4 : f4 = [(0, _), (1, _), (3, _), (4, _)] := hf4
      subst hf4
      refine W.seq (W.cond (b := true) rfl (fun _ => W.skip (N.to ?_)) (fun h => by cases h))
      rw [← s4.heap] at h0 h1
      have hm := hm.same s4
      clear s4
      refine W.cutS (fun w' g => (w'.heap[r]? = some (.cells (mkTo 0).toArray 74 (0, 0)) ∧ w'.heap[s]? = some (.cells (mkTo (n + 1)).toArray 74 (0, 0)) ∧ Mv (fun _ => False) w w') ∧ g = [(0, .pointer (some ⟨r, 0, none⟩)), (1, .pointer (some ⟨s, 0, none⟩)), (3, .int .i64 n)]) ?_ ?_
      · refine W.block ?_
        apply W.readS LO mixed [0, 1, 2, 3] (by kernel_rfl)
        · repeat' (first | rfl | with_reducible assumption | assumption | constructor)
        intro w5 f5 s5 hf5
        replace hf5 : f5 = [(0, _), (1, _), (2, _), (3, _)] := hf5
        subst hf5
        rw [← s5.heap] at h0 h1
        have hm := hm.same s5
        clear s5
        refine W.list ?_
        have k2 : Kn (IntKind.i64.wrap (32 - (n : Int))) (32 - n) := .of (IntWalk.i64_in _ (by omega))
        have p0 : 0 ≤ 32 - (n : Int) := by omega
        have k3 : Kn (IntKind.u32.wrap (IntKind.u64.wrap (4294967295 * 2 ^ (min (32 - (n : Int)).toNat IntKind.u64.bits)))) (mk n) := .of rfl
        have i0 : (0 : Int) ≤ (n : Int) := by omega
        have i1 : (n : Int) < ((33 : Nat) : Int) := by omega
        apply Ls.runK LO [0, 1, 3, 10, 11] 6
        · repeat' (first | rfl | with_reducible assumption | assumption | constructor)
        intro w6 f6 s6 hf6
        replace hf6 : f6 = [(0, _), (1, _), (3, _), (10, _), (11, _)] := hf6
        subst hf6
        rw [← s6.heap] at h0 h1
        have hm := hm.same s6
        have en : 0 + (n : Int).toNat * 1 = n := by omega
        refine Ls.store LO rfl rfl rfl rfl rfl (vs := [.int .u32 (mk n)]) rfl rfl rfl h1 (by rw [en]; exact Nat.ble_eq_true_of_le (by rw [mkTo_len n (by omega)]; exact hlt)) ?_
        intro w7 h7 m7 _
        rw [en, mkTo_set n hlt] at h7
        exact Ls.nil (N.inb (N.cut ⟨⟨(m7.block r (Array.getElem?_eq_some_iff.1 h0).1 hrs).trans h0, h7, hm.cut m7 fun k hk e => by omega⟩, rfl⟩ (sub_keys rfl)))
      · rintro w5 _ ⟨⟨h0, h1, hm⟩, rfl⟩
        have k5 : Kn (IntKind.i64.wrap ((n : Int) + 1)) ((n + 1 : Nat) : Int) := .of (IntWalk.i64_in _ (by omega))
        apply W.readN LO mixed [0, 1, 3] (by kernel_rfl)
        · repeat' (first | rfl | with_reducible assumption | assumption | constructor)
        intro w6 f6 s6 hf6
        replace hf6 : f6 = [(0, _), (1, _), (3, _)] := hf6
        subst hf6
        exact N.round (k - 1) _ (by omega) ⟨n + 1, by omega, by rw [s6.heap]; exact h0, by rw [s6.heap]; exact h1, hm.same s6, rfl⟩ (sub_keys rfl)
    · have k1 : Kn (decide ((n : Int) < 33)) false := .no (by omega)
      apply W.readS LO mixed [0, 1, 4] (by kernel_rfl)
      · repeat' (first | rfl | with_reducible assumption | assumption | constructor)
      intro w4 f4 s4 hf4
      replace hf4 : f4 = [(0, _), (1, _), (4, _)] := hf4
      subst hf4
      refine W.seq (W.cond (b := false) rfl (fun h => by cases h) (fun _ => W.exit ?_))
      have e33 : n = 33 := by omega
      rw [e33, mkTo_all] at h1
      exact N.thenE (N.thenE (N.out (N.cut ⟨⟨by rw [s4.heap]; exact h0, by rw [s4.heap]; exact h1, hm.same s4⟩, rfl⟩ (sub_keys rfl))))
  rintro w2 _ ⟨⟨h0, h1, hm⟩, rfl⟩
  refine W.seq (W.list ?_)
  have hc : CellsAt w2 s 0 33 maskL := cellsAt_of (cs := maskL) fun j u hj => by
    unfold World.cell?
    simp only [h1]
    rw [Nat.zero_add, List.getElem?_toArray]
    exact hj
  apply Ls.runK LO [0, 13] 1
  · repeat' (first | rfl | with_reducible assumption | assumption | constructor)
  intro w3 f3 s3 hf3
  replace hf3 : f3 = [(0, _), (13, _)] := hf3
  subst hf3
  rw [← s3.heap] at h0
  refine Ls.store LO rfl rfl rfl rfl rfl (vs := maskL) rfl rfl rfl h0 rfl ?_
  intro w4 h4 m4 _
  have h4 : w4.heap[r]? = some (.cells maskL.toArray 74 (0, 0)) := h4
  have hc4 : CellsAt w4 r 0 33 maskL := cellsAt_of (cs := maskL) fun j u hj => by
    unfold World.cell?
    simp only [h4]
    rw [Nat.zero_add, List.getElem?_toArray]
    exact hj
  exact Ls.nil (N.to (W.ret (post LO (rs := [.cell 0 74]) rfl (vs := [.agg maskL.toArray]) (.cell rfl rfl (.agg hc4) .nil) ⟨rfl, (hm.same s3).cut m4 fun k hk e => by omega⟩)))
end Go.Proofs.Ytbbafhpnlmmjjaa
