/- What is proved: the reference's table in memory, its small functions. Conditions: those that stand in each theorem. -/
import Derived.Test.YtnghmaejmfhigaaDefRow
import Derived.Test.YtnghmaejmfhigaaFwRowZ
namespace Go.Proofs.Ytnghmaejmfhigaa
set_option linter.unusedVariables false
set_option linter.unusedSimpArgs false
set_option linter.unusedSectionVars false
open Go.RowKit Go.Maps Go.MapKept Go.ChangeMaps Fw
structure RE where
  key : KeyV
  parts : List (Int × Int)
  all : Int
  at_ : Int
  lv : Value
def RE.cs (x : RE) : List Value := [.int .u32 x.key.src, .int .u32 x.key.dst, .int .i64 x.key.proto, .int .i64 x.key.id, x.lv, .int .i64 x.all, .int .i64 x.at_]
def pcs (p : Int × Int) : List Value := [.int .i64 p.1, .int .u8 p.2]
def rows (L : List RE) : List Value := L.flatMap RE.cs
def prow (ps : List (Int × Int)) : List Value := ps.flatMap pcs
theorem flat_at {α : Type} (f : α → List Value) (z : Nat) (hz : ∀ x, (f x).length = z) : ∀ (L : List α) (i j : Nat), j < z → (L.flatMap f)[i * z + j]? = (L[i]?).bind fun x => (f x)[j]?
  | [], i, j, _ => by simp
  | x :: r, 0, j, h => by
    rw [List.flatMap_cons, List.getElem?_append_left (by rw [hz]; omega), Nat.zero_mul, Nat.zero_add]
    rfl
  | x :: r, i + 1, j, h => by
    rw [List.flatMap_cons, List.getElem?_append_right (by rw [hz, Nat.add_mul]; omega), hz, show (i + 1) * z + j - z = i * z + j by rw [Nat.add_mul]; omega]
    exact flat_at f z hz r i j h
theorem flat_len {α : Type} (f : α → List Value) (z : Nat) (hz : ∀ x, (f x).length = z) (L : List α) : (L.flatMap f).length = L.length * z := by
  induction L with
  | nil => simp
  | cons x r ih => rw [List.flatMap_cons, List.length_append, hz, ih, List.length_cons, Nat.add_mul]; omega
theorem cs_len (x : RE) : x.cs.length = 7 := rfl
theorem pcs_len (p : Int × Int) : (pcs p).length = 2 := rfl
/-- The table. -/
structure RTAt (w : World) (q : Nat) (vL : Value) (most ticks now : Int) (L : List RE) : Prop where
  blk : w.heap[q]? = some (.cells [.int .i64 most, .int .i64 ticks, .int .i64 now, vL].toArray 47 (0, 0))
  row : OwnZ w 63 7 vL L.length (rows L)
  ent : ∀ x ∈ L, OwnZ w 69 2 x.lv x.parts.length (prow x.parts)
  dis : L.Pairwise fun x y => ∀ k, x.lv.ownBlock = some k → y.lv.ownBlock ≠ some k
def RB (q : Nat) (vL : Value) (L : List RE) (k : Nat) : Prop := k = q ∨ vL.ownBlock = some k ∨ ∃ x ∈ L, x.lv.ownBlock = some k
theorem RTAt.lt {w : World} {q : Nat} {vL : Value} {most ticks now : Int} {L : List RE} (h : RTAt w q vL most ticks now L) (k : Nat) (hk : RB q vL L k) : k < w.heap.size := by
  rcases hk with rfl | hk | ⟨x, hx, hk⟩
  · exact (Array.getElem?_eq_some_iff.1 h.blk).1
  · exact h.row.lt k hk
  · exact (h.ent x hx).lt k hk
theorem RTAt.moved {S : Nat → Prop} {w w' : World} {q : Nat} {vL : Value} {most ticks now : Int} {L : List RE} (h : RTAt w q vL most ticks now L) (m : Mv S w w') (hs : ∀ k, RB q vL L k → ¬ S k) : RTAt w' q vL most ticks now L :=
  ⟨(m.block q (Array.getElem?_eq_some_iff.1 h.blk).1 (hs q (.inl rfl))).trans h.blk, h.row.moved m fun k hk => hs k (.inr (.inl hk)), fun x hx => (h.ent x hx).moved m fun k hk => hs k (.inr (.inr ⟨x, hx, hk⟩)), h.dis⟩
theorem RTAt.same {w w' : World} {q : Nat} {vL : Value} {most ticks now : Int} {L : List RE} (h : RTAt w q vL most ticks now L) (s : Same w w') : RTAt w' q vL most ticks now L := h.moved (S := fun _ => False) ((Mv.refl _ w).same s) fun _ _ e => e
theorem RTAt.cls {w : World} {q : Nat} {vL : Value} {most ticks now : Int} {L : List RE} (h : RTAt w q vL most ticks now L) : Cl w ⟨q, 0, none⟩ (.int .i64 most) ∧ Cl w ⟨q, 1, none⟩ (.int .i64 ticks) ∧ Cl w ⟨q, 2, none⟩ (.int .i64 now) ∧ Cl w ⟨q, 3, none⟩ vL := by
  have hb := h.blk
  refine ⟨⟨?_⟩, ⟨?_⟩, ⟨?_⟩, ⟨?_⟩⟩ <;> (unfold World.cell?; rw [hb]; rfl)
/-- A block of another type is none of its own. -/
theorem RTAt.off {w : World} {q r T : Nat} {vL : Value} {most ticks now : Int} {L : List RE} {cs : Array Value} (h : RTAt w q vL most ticks now L) (hr : w.heap[r]? = some (.cells cs T (0, 0))) (h1 : T ≠ 47) (h2 : T ≠ 63) (h3 : T ≠ 69) (k : Nat) (hk : RB q vL L k) : k ≠ r := by
  rintro rfl
  have key : ∀ (c : Array Value) (e : Nat), w.heap[k]? = some (.cells c e (0, 0)) → T = e := fun c e hc => by
    rw [hc] at hr
    injection hr with e1
    injection e1 with _ e2
    exact e2.symm
  rcases hk with rfl | hk | ⟨x, hx, hk⟩
  · exact h1 (key _ _ h.blk)
  · obtain ⟨cur, hc⟩ := h.row.blk _ hk
    exact h2 (key _ _ hc)
  · obtain ⟨cur, hc⟩ := (h.ent x hx).blk _ hk
    exact h3 (key _ _ hc)
/-- An entry by its address. -/
structure ER (w : World) (g o : Nat) (x : RE) : Prop where
  c : ∀ j u, x.cs[j]? = some u → w.cell? ⟨g, o + j, none⟩ = some u
  p : OwnZ w 69 2 x.lv x.parts.length (prow x.parts)
theorem ER.same {w w' : World} {g o : Nat} {x : RE} (h : ER w g o x) (s : Same w w') : ER w' g o x := ⟨fun j u hj => (same_cell s _).trans (h.c j u hj), h.p.same s⟩
theorem ER.moved {S : Nat → Prop} {w w' : World} {g o : Nat} {x : RE} (h : ER w g o x) (m : Mv S w w') (hg : ¬ S g) (hs : ∀ k, x.lv.ownBlock = some k → ¬ S k) : ER w' g o x := ⟨fun j u hj => m.cell (h.c j u hj) hg, h.p.moved m hs⟩
theorem ER.cls {w : World} {g o : Nat} {x : RE} (h : ER w g o x) : Cl w ⟨g, o + 4, none⟩ x.lv ∧ Cl w ⟨g, o + 5, none⟩ (.int .i64 x.all) ∧ Cl w ⟨g, o + 6, none⟩ (.int .i64 x.at_) := ⟨⟨h.c 4 _ rfl⟩, ⟨h.c 5 _ rfl⟩, ⟨h.c 6 _ rfl⟩⟩
theorem ER.cells {w : World} {g o : Nat} {x : RE} (h : ER w g o x) : CellsAt w g o 7 x.cs := by
  refine .cons ⟨h.c 0 _ rfl⟩ (.cons ⟨h.c 1 _ rfl⟩ (.cons ⟨h.c 2 _ rfl⟩ (.cons ⟨h.c 3 _ rfl⟩ (.cons ⟨h.c 4 _ rfl⟩ (.cons ⟨h.c 5 _ rfl⟩ (.cons ⟨h.c 6 _ rfl⟩ .nil))))))
theorem RTAt.at {w : World} {q : Nat} {vL : Value} {most ticks now : Int} {L : List RE} (h : RTAt w q vL most ticks now L) {i : Nat} {x : RE} (hi : L[i]? = some x) : ∃ g c, vL = .slice (some ⟨g, 0, none⟩) L.length c ∧ vL.ownBlock = some g ∧ L.length ≤ c ∧ ER w g (0 + i * 7) x := by
  have hl : i < L.length := (List.getElem?_eq_some_iff.1 hi).1
  obtain ⟨g, c, hv, hg, hnc, hc, _⟩ := h.row.pos (by omega)
  refine ⟨g, c, hv, hg, hnc, fun j u hj => ?_, h.ent x (List.mem_of_getElem? hi)⟩
  have hj7 : j < 7 := by have := (List.getElem?_eq_some_iff.1 hj).1; rwa [cs_len] at this
  rw [Nat.zero_add]
  exact hc (i * 7 + j) u (by unfold rows; rw [flat_at RE.cs 7 cs_len L i j hj7, hi]; exact hj)
/-- A part by its place in the row. -/
theorem ER.part {w : World} {g o : Nat} {x : RE} (h : ER w g o x) {i : Nat} {p : Int × Int} (hi : x.parts[i]? = some p) : ∃ gp c, x.lv = .slice (some ⟨gp, 0, none⟩) x.parts.length c ∧ x.lv.ownBlock = some gp ∧ Cl w ⟨gp, 0 + (i : Int).toNat * 2 + 0, none⟩ (.int .i64 p.1) ∧ Cl w ⟨gp, 0 + (i : Int).toNat * 2 + 1, none⟩ (.int .u8 p.2) := by
  have hl : i < x.parts.length := (List.getElem?_eq_some_iff.1 hi).1
  obtain ⟨gp, c, hv, hg, _, hc, _⟩ := h.p.pos (by omega)
  refine ⟨gp, c, hv, hg, ⟨?_⟩, ⟨?_⟩⟩
  · rw [show 0 + (i : Int).toNat * 2 + 0 = i * 2 + 0 by omega]
    exact hc _ _ (by unfold prow; rw [flat_at pcs 2 pcs_len x.parts i 0 (by decide), hi]; rfl)
  · rw [show 0 + (i : Int).toNat * 2 + 1 = i * 2 + 1 by omega]
    exact hc _ _ (by unfold prow; rw [flat_at pcs 2 pcs_len x.parts i 1 (by decide), hi]; rfl)
/-! ### New, find, has -/
theorem rnew_walk (most ticks : Int) (w : World) : Calls Try.prog 15 #[.int .i64 most, .int .i64 ticks] w fun e w' => ∃ q, e = .returned (.pointer (some ⟨q, 0, none⟩)) ∧ RTAt w' q (.slice none 0 0) (max 1 (min most 32)) (max 1 (min ticks 100000)) 0 [] ∧ w.heap.size ≤ q ∧ Mv (fun _ => False) w w' := by
  refine calls_W (n := 13) (vs := [.int .i64 most, .int .i64 ticks]) Try.func15 rfl rfl rfl ?_
  apply W.readS LO mixed [0, 1] (by kernel_rfl)
  · repeat' (first | rfl | with_reducible assumption | assumption | constructor)
  intro w1 f1 s1 hf1
  replace hf1 : f1 = [(0, _), (1, _)] := hf1
  subst hf1
  refine W.seq (W.list ?_)
  have k1 : Kn (if 1 > most then 1 else most) (max most 1) := .of (by split <;> omega)
  have k2 : Kn (if 32 < max most 1 then 32 else max most 1) (max 1 (min most 32)) := .of (by split <;> omega)
  have k3 : Kn (if 1 > ticks then 1 else ticks) (max ticks 1) := .of (by split <;> omega)
  have k4 : Kn (if 100000 < max ticks 1 then 100000 else max ticks 1) (max 1 (min ticks 100000)) := .of (by split <;> omega)
  apply Ls.runK LO [11] 7
  · repeat' (first | rfl | with_reducible assumption | assumption | constructor)
  intro w2 f2 s2 hf2
  replace hf2 : f2 = [(11, _)] := hf2
  subst hf2
  refine Ls.box rfl rfl rfl rfl rfl (vs := [.int .i64 (max 1 (min most 32)), .int .i64 (max 1 (min ticks 100000)), .int .i64 0, .slice none 0 0]) rfl ?_
  have b3 := heap_alloc_new w2 (.cells [.int .i64 (max 1 (min most 32)), .int .i64 (max 1 (min ticks 100000)), .int .i64 0, .slice none 0 0].toArray 47)
  have m3 : Mv (fun _ => False) w2 (w2.alloc (.cells [.int .i64 (max 1 (min most 32)), .int .i64 (max 1 (min ticks 100000)), .int .i64 0, .slice none 0 0].toArray 47)) := (Mv.refl _ w2).alloc _
  generalize w2.alloc (.cells [.int .i64 (max 1 (min most 32)), .int .i64 (max 1 (min ticks 100000)), .int .i64 0, .slice none 0 0].toArray 47) = w3 at b3 m3
  obtain ⟨q, hq⟩ : ∃ q, q = w2.heap.size := ⟨_, rfl⟩
  rw [← hq] at b3
  rw [← hq]
  apply Ls.runK LO [4] 1
  · repeat' (first | rfl | with_reducible assumption | assumption | constructor)
  intro w4 f4 s4 hf4
  replace hf4 : f4 = [(4, _)] := hf4
  subst hf4
  refine Ls.nil (N.to (W.ret (post LO (rs := [.tmp 4]) rfl (vs := [.pointer (some ⟨q, 0, none⟩)]) (.tmp rfl .nil) ⟨q, rfl, RTAt.same ⟨b3, OwnZ.nil _ _ _, fun x hx => (by cases hx), .nil⟩ s4, by rw [hq, s2.heap, s1.heap]; exact Nat.le_refl _, (((((Mv.refl _ w).same s1).same s2).trans m3).same s4)⟩)))
def idxR (L : List RE) (k : KeyV) : Int := match L.findIdx? (fun x => decide (x.key = k)) with | some i => (i : Int) | none => -1
set_option maxRecDepth 100000 in
set_option maxHeartbeats 2000000 in
theorem find_walk (q : Nat) (vL : Value) (most ticks now : Int) (L : List RE) (i : IPV) (w : World) (h : RTAt w q vL most ticks now L) (hl : L.length ≤ 1000000) :
    Calls Try.prog 24 #[.pointer (some ⟨q, 0, none⟩), .agg (ipVs i).toArray] w fun e w' => e = .returned (.int .i64 (idxR L i.key)) ∧ Mv (fun _ => False) w w' := by
  refine calls_W (n := 50) (vs := [.pointer (some ⟨q, 0, none⟩), .agg (ipVs i).toArray]) Try.func24 rfl rfl rfl ?_
  refine W.seq (W.list ?_)
  refine Ls.box rfl rfl rfl rfl rfl (vs := ipVs i) rfl ?_
  have hb1 := heap_alloc_new w (.cells (ipVs i).toArray 29)
  have m1 : Mv (fun _ => False) w (w.alloc (.cells (ipVs i).toArray 29)) := (Mv.refl _ w).alloc _
  generalize w.alloc (.cells (ipVs i).toArray 29) = w1 at hb1 m1
  obtain ⟨qi, hqi⟩ : ∃ qi, qi = w.heap.size := ⟨_, rfl⟩
  rw [← hqi] at hb1
  rw [← hqi]
  apply Ls.runK LO [0, 3] 1
  · repeat' (first | rfl | with_reducible assumption | assumption | constructor)
  intro w2 f2 s2 hf2
  replace hf2 : f2 = [(0, _), (3, _)] := hf2
  subst hf2
  refine Ls.nil (N.to ?_)
  have hib2 : IB w2 qi i := IB.same hb1 s2
  have mv2 : Mv (fun _ => False) w w2 := m1.same s2
  clear hb1 m1 s2
  refine W.cutS (fun w' g => (Mv (fun _ => False) w w' ∧ g = []) ∧ idxR L i.key = -1) ?_ ?_
  ·
    apply W.readS LO mixed [0, 3, 5] (by kernel_rfl)
    · repeat' (first | rfl | with_reducible assumption | assumption | constructor)
    intro w3 f3 s3 hf3
    replace hf3 : f3 = [(0, _), (3, _), (5, _)] := hf3
    subst hf3
    refine W.block (W.loop (fun k w' g => ∃ j : Nat, k + j = L.length ∧ Mv (fun _ => False) w w' ∧ IB w' qi i ∧ (∀ a x, a < j → L[a]? = some x → x.key ≠ i.key) ∧ g = [(0, .pointer (some ⟨q, 0, none⟩)), (3, .pointer (some ⟨qi, 0, none⟩)), (5, .int .i64 j)]) L.length _ ⟨0, rfl, mv2.same s3, hib2.same s3, fun a x ha => absurd ha (Nat.not_lt_zero a), rfl⟩ (sub_keys rfl) ?_)
    clear mv2 hib2 s3
    rintro k w4 _ ⟨j, hkj, hmv, hib, hno, rfl⟩
    have h4 := h.moved hmv (fun _ _ e => e)
    obtain ⟨c0, c1, c2, c3⟩ := h4.cls
    obtain ⟨aL, cL, hvL, _, _, _⟩ := h4.row.slice
    rw [hvL] at c3
    by_cases hlt : j < L.length
    · have k1 : Kn (decide ((j : Int) < (L.length : Int))) true := .yes (by omega)
      refine W.seq ?_
      apply W.readS LO mixed [0, 3, 5, 13] (by kernel_rfl)
      · repeat' (first | rfl | with_reducible assumption | assumption | constructor)
      intro w5 f5 s5 hf5
      replace hf5 : f5 = [(0, _), (3, _), (5, _), (13, _)] := hf5
      subst hf5
      have hmv := hmv.same s5
      have hib := hib.same s5
      have h5 := h4.same s5
      refine W.cond (b := true) rfl (fun _ => W.skip (N.to ?_)) (fun h => by cases h)
      clear c0 c1 c2 c3 h4 s5
      obtain ⟨x, hx⟩ : ∃ x, L[j]? = some x := ⟨_, List.getElem?_eq_getElem hlt⟩
      obtain ⟨g, c, hv, hg, hnc, hE⟩ := h5.at hx
      refine W.cutS (fun w' g => (Mv (fun _ => False) w w' ∧ IB w' qi i ∧ g = [(0, .pointer (some ⟨q, 0, none⟩)), (3, .pointer (some ⟨qi, 0, none⟩)), (5, .int .i64 j)]) ∧ x.key ≠ i.key) ?_ ?_
      · refine W.block ?_
        obtain ⟨c0, c1, c2, c3⟩ := h5.cls
        rw [hv] at c3
        have i0 : (0 : Int) ≤ (j : Int) := by omega
        have i1 : (j : Int) < (L.length : Int) := by omega
        have ej : 0 + (j : Int).toNat * 7 = 0 + j * 7 := by omega
        have hcells : CellsAt w5 g (0 + (j : Int).toNat * 7) 7 x.cs := by rw [ej]; exact hE.cells
        refine W.seq (W.list ?_)
        apply Ls.runK LO [0, 3, 5, 22] 7
        · repeat' (first | rfl | with_reducible assumption | assumption | constructor)
        intro w6 f6 s6 hf6
        replace hf6 : f6 = [(0, _), (3, _), (5, _), (22, _)] := hf6
        subst hf6
        have hmv := hmv.same s6
        have hib := hib.same s6
        refine Ls.alloc LO rfl rfl rfl rfl rfl ?_
        have hb7 := heap_alloc_new w6 (.cells [.int .u32 0, .int .u32 0, .int .i64 0, .int .i64 0, .slice none 0 0, .int .i64 0, .int .i64 0].toArray 63)
        have m7 : Mv (fun _ => False) w6 (w6.alloc (.cells [.int .u32 0, .int .u32 0, .int .i64 0, .int .i64 0, .slice none 0 0, .int .i64 0, .int .i64 0].toArray 63)) := (Mv.refl _ w6).alloc _
        generalize w6.alloc (.cells [.int .u32 0, .int .u32 0, .int .i64 0, .int .i64 0, .slice none 0 0, .int .i64 0, .int .i64 0].toArray 63) = w7 at hb7 m7
        obtain ⟨qe, hqe⟩ : ∃ qe, qe = w6.heap.size := ⟨_, rfl⟩
        rw [← hqe] at hb7
        rw [← hqe]
        have hib := hib.moved m7 (fun e => e)
        have hqne : qi ≠ qe := cells_ne hib hb7 (by decide)
        have hl1 : x.lv.cells = #[x.lv] := by
          obtain ⟨a, c', e, _⟩ := hE.p.slice
          rw [e]; rfl
        have hl2 : x.lv.oneCell' = true := by
          obtain ⟨a, c', e, _⟩ := hE.p.slice
          rw [e]; rfl
        refine Ls.store LO rfl rfl rfl rfl rfl (vs := x.cs) rfl rfl (by simp only [RE.cs, List.all_cons, hl2]; rfl) hb7 rfl ?_
        intro w8 hb8 m8 _
        refine Ls.nil (N.to ?_)
        have hib := hib.moved m8 hqne
        have hmv8 : Mv (fun _ => False) w w8 := (hmv.trans m7).cut m8 fun a ha e => by have := hmv.size; omega
        have d0 : Cl w8 ⟨qe, 0, none⟩ (.int .u32 x.key.src) := ⟨by unfold World.cell?; rw [hb8]; rfl⟩
        have d1 : Cl w8 ⟨qe, 1, none⟩ (.int .u32 x.key.dst) := ⟨by unfold World.cell?; rw [hb8]; rfl⟩
        have d2 : Cl w8 ⟨qe, 2, none⟩ (.int .i64 x.key.proto) := ⟨by unfold World.cell?; rw [hb8]; rfl⟩
        have d3 : Cl w8 ⟨qe, 3, none⟩ (.int .i64 x.key.id) := ⟨by unfold World.cell?; rw [hb8]; rfl⟩
        obtain ⟨e1, e2, e4, e6, e7, e8⟩ := hib.cls
        by_cases hk : x.key = i.key
        · have q0 : x.key.src = i.src := congrArg KeyV.src hk
          have q1 : x.key.dst = i.dst := congrArg KeyV.dst hk
          have q2 : x.key.proto = i.proto := congrArg KeyV.proto hk
          have q3 : x.key.id = i.id := congrArg KeyV.id hk
          rw [q0] at d0
          rw [q1] at d1
          rw [q2] at d2
          rw [q3] at d3
          have n0 : Kn (i.src == i.src) true := .of (beq_self_eq_true _)
          have n1 : Kn (i.dst == i.dst) true := .of (beq_self_eq_true _)
          have n2 : Kn (i.proto == i.proto) true := .of (beq_self_eq_true _)
          have n3 : Kn (i.id == i.id) true := .of (beq_self_eq_true _)
          apply W.readS LO mixed [5, 48] (by kernel_rfl)
          · repeat' (first | rfl | with_reducible assumption | assumption | constructor)
          intro w9 f9 s9 hf9
          replace hf9 : f9 = [(5, _), (48, _)] := hf9
          subst hf9
          refine W.cond (b := true) rfl (fun _ => ?_) (fun h => by cases h)
          apply W.readS LO mixed [4] (by kernel_rfl)
          · repeat' (first | rfl | with_reducible assumption | assumption | constructor)
          intro w10 f10 s10 hf10
          replace hf10 : f10 = [(4, _)] := hf10
          subst hf10
          have hid : idxR L i.key = (j : Int) := by
            unfold idxR
            have : L.findIdx? (fun x => decide (x.key = i.key)) = some j := by
              rw [List.findIdx?_eq_some_iff_getElem]
              refine ⟨hlt, ?_, fun a ha => ?_⟩
              · have := (List.getElem?_eq_some_iff.1 hx).2
                rw [this, decide_eq_true hk]
              · have := hno a _ ha (List.getElem?_eq_getElem (by omega))
                rw [decide_eq_false this]; decide
            rw [this]
          refine W.ret (N.inbR (N.thenR ?_))
          refine post (fn := Try.f24) (R := fun e w' => e = .returned (.int .i64 (idxR L i.key)) ∧ Mv (fun _ => False) w w') LO (rs := [.tmp 4]) rfl (vs := [.int .i64 j]) (.tmp rfl .nil) ⟨?_, (hmv8.same s9).same s10⟩
          rw [hid]; rfl
        · refine W.cutS (fun w' g => Same w8 w' ∧ g = [(0, .pointer (some ⟨q, 0, none⟩)), (3, .pointer (some ⟨qi, 0, none⟩)), (5, .int .i64 j), (48, .bool false)]) ?_ ?_
          · by_cases q0 : x.key.src = i.src
            · have n0 : Kn (x.key.src == i.src) true := .of (by rw [q0]; exact beq_self_eq_true _)
              by_cases q1 : x.key.dst = i.dst
              · have n1 : Kn (x.key.dst == i.dst) true := .of (by rw [q1]; exact beq_self_eq_true _)
                by_cases q2 : x.key.proto = i.proto
                · have n2 : Kn (x.key.proto == i.proto) true := .of (by rw [q2]; exact beq_self_eq_true _)
                  have n3 : Kn (x.key.id == i.id) false := .of (by
                    rw [beq_eq_false_iff_ne]
                    intro q3
                    apply hk
                    cases hxk : x.key
                    rw [hxk] at q0 q1 q2 q3
                    show _ = (⟨i.src, i.dst, i.proto, i.id⟩ : KeyV)
                    rw [← q0, ← q1, ← q2, ← q3])
                  apply W.readN LO mixed [0, 3, 5, 48] (by kernel_rfl)
                  · repeat' (first | rfl | with_reducible assumption | assumption | constructor)
                  intro w9 f9 s9 hf9
                  replace hf9 : f9 = [(0, _), (3, _), (5, _), (48, _)] := hf9
                  subst hf9
                  exact N.cut ⟨s9, rfl⟩ (sub_keys rfl)
                · have n2 : Kn (x.key.proto == i.proto) false := .of (beq_eq_false_iff_ne.2 q2)
                  apply W.readN LO mixed [0, 3, 5, 48] (by kernel_rfl)
                  · repeat' (first | rfl | with_reducible assumption | assumption | constructor)
                  intro w9 f9 s9 hf9
                  replace hf9 : f9 = [(0, _), (3, _), (5, _), (48, _)] := hf9
                  subst hf9
                  exact N.cut ⟨s9, rfl⟩ (sub_keys rfl)
              · have n1 : Kn (x.key.dst == i.dst) false := .of (beq_eq_false_iff_ne.2 q1)
                apply W.readN LO mixed [0, 3, 5, 48] (by kernel_rfl)
                · repeat' (first | rfl | with_reducible assumption | assumption | constructor)
                intro w9 f9 s9 hf9
                replace hf9 : f9 = [(0, _), (3, _), (5, _), (48, _)] := hf9
                subst hf9
                exact N.cut ⟨s9, rfl⟩ (sub_keys rfl)
            · have n0 : Kn (x.key.src == i.src) false := .of (beq_eq_false_iff_ne.2 q0)
              apply W.readN LO mixed [0, 3, 5, 48] (by kernel_rfl)
              · repeat' (first | rfl | with_reducible assumption | assumption | constructor)
              intro w9 f9 s9 hf9
              replace hf9 : f9 = [(0, _), (3, _), (5, _), (48, _)] := hf9
              subst hf9
              exact N.cut ⟨s9, rfl⟩ (sub_keys rfl)
          rintro w9 _ ⟨s9, rfl⟩
          refine W.cond (b := false) rfl (fun h => by cases h) (fun _ => W.skip ?_)
          exact N.inb (N.cut ⟨⟨hmv8.same s9, hib.same s9, rfl⟩, hk⟩ (sub_keys rfl))
      · rintro w6 _ ⟨⟨hmv, hib, rfl⟩, hne⟩
        have k5 : Kn (IntKind.i64.wrap ((j : Int) + 1)) ((j + 1 : Nat) : Int) := .of (IntWalk.i64_in _ (by omega))
        apply W.readN LO mixed [0, 3, 5] (by kernel_rfl)
        · repeat' (first | rfl | with_reducible assumption | assumption | constructor)
        intro w7 f7 s7 hf7
        replace hf7 : f7 = [(0, _), (3, _), (5, _)] := hf7
        subst hf7
        refine N.round (k - 1) _ (by omega) ⟨j + 1, by omega, hmv.same s7, hib.same s7, fun a y ha hy => ?_, rfl⟩ (sub_keys rfl)
        by_cases e : a = j
        · rw [e, hx] at hy; rw [← Option.some.inj hy]; exact hne
        · exact hno a y (by omega) hy
    · have k1 : Kn (decide ((j : Int) < (L.length : Int))) false := .no (by omega)
      refine W.seq ?_
      apply W.readS LO mixed [13] (by kernel_rfl)
      · repeat' (first | rfl | with_reducible assumption | assumption | constructor)
      intro w5 f5 s5 hf5
      replace hf5 : f5 = [(13, _)] := hf5
      subst hf5
      refine W.cond (b := false) rfl (fun h => by cases h) (fun _ => W.exit ?_)
      refine N.thenE (N.thenE (N.out (N.cut ⟨⟨hmv.same s5, rfl⟩, ?_⟩ (sub_keys rfl))))
      unfold idxR
      have : L.findIdx? (fun x => decide (x.key = i.key)) = none := by
        rw [List.findIdx?_eq_none_iff]
        intro y hy
        obtain ⟨a, ha, rfl⟩ := List.mem_iff_getElem.1 hy
        exact decide_eq_false (hno a _ (by omega) (List.getElem?_eq_getElem ha))
      rw [this]
  rintro w3 _ ⟨⟨hmv, rfl⟩, he⟩
  apply W.readS LO mixed [4] (by kernel_rfl)
  · repeat' (first | rfl | with_reducible assumption | assumption | constructor)
  intro w4 f4 s4 hf4
  replace hf4 : f4 = [(4, _)] := hf4
  subst hf4
  exact W.ret (post LO (rs := [.tmp 4]) rfl (vs := [.int .i64 _]) (.tmp rfl .nil) ⟨by rw [he]; rfl, hmv.same s4⟩)
set_option maxRecDepth 100000 in
theorem has_says (g o : Nat) (x : RE) (a : Int) (w : World) (h : ER w g o x) (hl : x.parts.length ≤ 1000000) :
    Calls Try.prog 25 #[.pointer (some ⟨g, o, none⟩), .int .i64 a] w (Says w (.tuple #[.int .u8 ((x.parts.lookup a).getD 0), .bool (x.parts.lookup a).isSome])) := by
  refine calls_W (n := 34) (vs := [.pointer (some ⟨g, o, none⟩), .int .i64 a]) Try.func25 rfl rfl rfl ?_
  apply W.readS LO mixed [0, 1] (by kernel_rfl)
  · repeat' (first | rfl | with_reducible assumption | assumption | constructor)
  intro w1 f1 s1 hf1
  replace hf1 : f1 = [(0, _), (1, _)] := hf1
  subst hf1
  refine W.cutS (fun w' g => (Same w w' ∧ g = []) ∧ x.parts.lookup a = none) ?_ ?_
  ·
    apply W.readS LO mixed [0, 1, 6] (by kernel_rfl)
    · repeat' (first | rfl | with_reducible assumption | assumption | constructor)
    intro w2 f2 s2 hf2
    replace hf2 : f2 = [(0, _), (1, _), (6, _)] := hf2
    subst hf2
    refine W.block (W.loop (fun k w' f => ∃ i : Nat, k + i = x.parts.length ∧ Same w w' ∧ (∀ j p, j < i → x.parts[j]? = some p → p.1 ≠ a) ∧ f = [(0, .pointer (some ⟨g, o, none⟩)), (1, .int .i64 a), (6, .int .i64 i)]) x.parts.length _ ⟨0, rfl, s1.trans s2, fun j p hj => absurd hj (Nat.not_lt_zero j), rfl⟩ (sub_keys rfl) ?_)
    rintro k w3 _ ⟨i, hki, s3, hno, rfl⟩
    have h3 := h.same s3
    obtain ⟨c4, c5, c6⟩ := h3.cls
    obtain ⟨al, cl, hlv, _, _, _⟩ := h3.p.slice
    by_cases hlt : i < x.parts.length
    · have k1 : Kn (decide ((i : Int) < (x.parts.length : Int))) true := .yes (by omega)
      have c4' := c4
      rw [hlv] at c4'
      refine W.seq ?_
      apply W.readS LO mixed [0, 1, 6, 13] (by kernel_rfl)
      · repeat' (first | rfl | with_reducible assumption | assumption | constructor)
      intro w4 f4 s4 hf4
      replace hf4 : f4 = [(0, _), (1, _), (6, _), (13, _)] := hf4
      subst hf4
      have s4' := s3.trans s4
      refine W.cond (b := true) rfl (fun _ => W.skip (N.to ?_)) (fun h => by cases h)
      obtain ⟨p, hp⟩ : ∃ p, x.parts[i]? = some p := ⟨_, List.getElem?_eq_getElem hlt⟩
      have h4 := h.same s4'
      clear c4 c4' c5 c6
      obtain ⟨c4, c5, c6⟩ := h4.cls
      obtain ⟨gp, cp, hv, _, p0, p1⟩ := h4.part hp
      rw [hv] at c4
      have i0 : (0 : Int) ≤ (i : Int) := by omega
      have i1 : (i : Int) < (x.parts.length : Int) := by omega
      refine W.cutS (fun w' f => (Same w w' ∧ f = [(0, .pointer (some ⟨g, o, none⟩)), (1, .int .i64 a), (6, .int .i64 i)]) ∧ p.1 ≠ a) ?_ ?_
      · refine W.block ?_
        by_cases hpa : p.1 = a
        · subst hpa
          have k2 : Kn (p.1 == p.1) true := .of (beq_self_eq_true _)
          apply W.readS LO mixed [0, 6, 25] (by kernel_rfl)
          · repeat' (first | rfl | with_reducible assumption | assumption | constructor)
          intro w5 f5 s5 hf5
          replace hf5 : f5 = [(0, _), (6, _), (25, _)] := hf5
          subst hf5
          have h5 := h4.same s5
          clear c4 c5 c6 p0 p1
          obtain ⟨c4, c5, c6⟩ := h5.cls
          obtain ⟨gp', cp', hv', _, p0, p1⟩ := h5.part hp
          rw [hv'] at c4
          refine W.cond (b := true) rfl (fun _ => ?_) (fun h => by cases h)
          apply W.readS LO mixed [4, 5] (by kernel_rfl)
          · repeat' (first | rfl | with_reducible assumption | assumption | constructor)
          intro w6 f6 s6 hf6
          replace hf6 : f6 = [(4, _), (5, _)] := hf6
          subst hf6
          have hlk : x.parts.lookup p.1 = some p.2 := by
            have hd : x.parts = x.parts.take i ++ p :: x.parts.drop (i + 1) := by
              have := (List.getElem?_eq_some_iff.1 hp).2
              conv => lhs; rw [← List.take_append_drop i x.parts]
              rw [List.drop_eq_getElem_cons hlt, this]
            rw [hd, lookup_append]
            have : (x.parts.take i).lookup p.1 = none := by
              rw [lookup_none]
              intro q hq
              obtain ⟨j, hj, rfl⟩ := List.mem_iff_getElem.1 hq
              rw [List.length_take] at hj
              rw [List.getElem_take]
              exact hno j _ (by omega) (List.getElem?_eq_getElem (by omega))
            rw [this, List.lookup_cons, beq_self_eq_true]
            rfl
          refine W.ret (N.inbR (N.thenR ?_))
          refine post (fn := Try.f25) (R := Says w (.tuple #[.int .u8 ((x.parts.lookup p.1).getD 0), .bool (x.parts.lookup p.1).isSome])) LO (rs := [.tmp 4, .tmp 5]) rfl (vs := [.int .u8 p.2, .bool true]) (.tmp rfl (.tmp rfl .nil)) ⟨?_, (s4'.trans s5).trans s6⟩
          rw [hlk]; rfl
        · have k2 : Kn (p.1 == a) false := .of (beq_eq_false_iff_ne.2 hpa)
          apply W.readS LO mixed [0, 1, 6, 25] (by kernel_rfl)
          · repeat' (first | rfl | with_reducible assumption | assumption | constructor)
          intro w5 f5 s5 hf5
          replace hf5 : f5 = [(0, _), (1, _), (6, _), (25, _)] := hf5
          subst hf5
          refine W.cond (b := false) rfl (fun h => by cases h) (fun _ => W.skip ?_)
          exact N.inb (N.cut ⟨⟨s4'.trans s5, rfl⟩, hpa⟩ (sub_keys rfl))
      · rintro w5 _ ⟨⟨s5, rfl⟩, hne⟩
        have k5 : Kn (IntKind.i64.wrap ((i : Int) + 1)) ((i + 1 : Nat) : Int) := .of (IntWalk.i64_in _ (by omega))
        apply W.readN LO mixed [0, 1, 6] (by kernel_rfl)
        · repeat' (first | rfl | with_reducible assumption | assumption | constructor)
        intro w6 f6 s6 hf6
        replace hf6 : f6 = [(0, _), (1, _), (6, _)] := hf6
        subst hf6
        refine N.round (k - 1) _ (by omega) ⟨i + 1, by omega, s5.trans s6, fun j y hj hy => ?_, rfl⟩ (sub_keys rfl)
        by_cases e : j = i
        · rw [e, hp] at hy; rw [← Option.some.inj hy]; exact hne
        · exact hno j y (by omega) hy
    · have k1 : Kn (decide ((i : Int) < (x.parts.length : Int))) false := .no (by omega)
      rw [hlv] at c4
      refine W.seq ?_
      apply W.readS LO mixed [13] (by kernel_rfl)
      · repeat' (first | rfl | with_reducible assumption | assumption | constructor)
      intro w4 f4 s4 hf4
      replace hf4 : f4 = [(13, _)] := hf4
      subst hf4
      refine W.cond (b := false) rfl (fun h => by cases h) (fun _ => W.exit ?_)
      refine N.thenE (N.thenE (N.out (N.cut ⟨⟨s3.trans s4, rfl⟩, ?_⟩ (sub_keys rfl))))
      rw [lookup_none]
      intro y hy
      obtain ⟨j, hj, rfl⟩ := List.mem_iff_getElem.1 hy
      exact hno j _ (by omega) (List.getElem?_eq_getElem hj)
  rintro w3 _ ⟨⟨s3, rfl⟩, he⟩
  apply W.readS LO mixed [4, 5] (by kernel_rfl)
  · repeat' (first | rfl | with_reducible assumption | assumption | constructor)
  intro w4 f4 s4 hf4
  replace hf4 : f4 = [(4, _), (5, _)] := hf4
  subst hf4
  exact W.ret (post LO (rs := [.tmp 4, .tmp 5]) rfl (vs := [.int .u8 0, .bool false]) (.tmp rfl (.tmp rfl .nil)) ⟨by rw [he]; rfl, s3.trans s4⟩)
end Go.Proofs.Ytnghmaejmfhigaa
