/- What is proved: contents by numbers come to a row. Conditions: those that stand in each theorem. -/
import Derived.Test.YtbbafhpnlmmjjaaGrpLet
namespace Go.Proofs.Ytbbafhpnlmmjjaa
set_option linter.unusedVariables false
set_option linter.unusedSimpArgs false
set_option linter.unusedSectionVars false
open Go.RowKit Fw
structure ContV where
  bytes : ByteArray
  nocase : Bool
  not : Bool
  off : Int
  depth : Int
  rel : Bool
  dist : Int
  within : Int
def ContV.cs (x : ContV) : List Value := [.string x.bytes, .bool x.nocase, .bool x.not, .int .i64 x.off, .int .i64 x.depth, .bool x.rel, .int .i64 x.dist, .int .i64 x.within]
theorem ccs_len (x : ContV) : x.cs.length = 8 := rfl
theorem ccs_one {l : List ContV} (u : Value) (hu : u ∈ l.flatMap ContV.cs) : u.oneCell' = true := by
  obtain ⟨x, _, hu⟩ := List.mem_flatMap.1 hu
  simp only [ContV.cs, List.mem_cons, List.not_mem_nil, or_false] at hu
  rcases hu with rfl | rfl | rfl | rfl | rfl | rfl | rfl | rfl <;> rfl
def zCont : List Value := [.string ⟨#[]⟩, .bool false, .bool false, .int .i64 0, .int .i64 0, .bool false, .int .i64 0, .int .i64 0]
theorem info_cont : ∃ i b, Try.prog.info? 54 = some i ∧ i.zero = some (.agg zCont.toArray) ∧ i.size = 8 ∧ i.bytes = b ∧ b ≤ 1000 := by
  have h : (Try.prog.info? 54).map (fun i => (i.zero, i.size, decide (i.bytes ≤ 1000))) = some (some (.agg zCont.toArray), 8, true) := by kernel_rfl
  obtain ⟨i, hi, e⟩ := Option.map_eq_some_iff.1 h
  injection e with e1 e2
  injection e2 with e2 e3
  exact ⟨i, _, hi, e1, e2, rfl, of_decide_eq_true e3⟩
theorem und_conts : Try.prog.underlying 35 = some (.slice 54) := by kernel_rfl
theorem kq {v : Int} (b : Int) (hv : 0 ≤ v ∧ v < 16777216) (hb : 0 < b) : Kn (IntKind.i64.wrap (v.tdiv b)) (v / b) := .of (by
  rw [Int.tdiv_eq_ediv_of_nonneg hv.1]
  have h1 := Int.ediv_nonneg hv.1 (Int.le_of_lt hb)
  have h2 : v / b ≤ v := Int.ediv_le_self b hv.1
  exact IntWalk.i64_in _ (by omega))
theorem kr {v : Int} (b : Int) (hv : 0 ≤ v) : Kn (v.tmod b) (v % b) := .of (Int.tmod_eq_emod_of_nonneg hv)
theorem qb {v : Int} (b : Int) (hv : 0 ≤ v ∧ v < 16777216) (hb : 0 < b) : 0 ≤ v / b ∧ v / b < 16777216 := by
  have h1 := Int.ediv_nonneg hv.1 (Int.le_of_lt hb)
  have h2 : v / b ≤ v := Int.ediv_le_self b hv.1
  omega
theorem ownz_elem {w : World} {v : Value} {l : List ContV} (h : OwnZ w 54 8 v l.length (l.flatMap ContV.cs)) {i : Nat} {x : ContV} (hx : l[i]? = some x) : ∃ g c, v = .slice (some ⟨g, 0, none⟩) l.length c ∧ v.ownBlock = some g ∧ CellsAt w g (0 + (i : Int).toNat * 8) 8 x.cs := by
  have hl : i < l.length := (List.getElem?_eq_some_iff.1 hx).1
  obtain ⟨g, c, hv, hg, _, hc, _⟩ := h.pos (by omega)
  refine ⟨g, c, hv, hg, cellsAt_of (cs := x.cs) fun j u hj => ?_⟩
  have hj8 : j < 8 := (List.getElem?_eq_some_iff.1 hj).1
  rw [show 0 + (i : Int).toNat * 8 + j = i * 8 + j by omega]
  exact hc _ _ (by rw [flat_at ContV.cs 8 ccs_len l i j hj8, hx]; exact hj)
def RowI (w : World) (v : Value) (l : List Int) : Prop := Rd w 1 v l.length (l.flatMap fun n => [Value.int .i64 n]) ∧ ∀ n ∈ l, -9223372036854775808 ≤ n ∧ n ≤ 9223372036854775807
structure CS (w w' : World) (r : Nat) (vm : Value) (M : List ContV) (y : ContV) : Prop where
  mv : Mv (fun _ => False) w w'
  own : OwnZ w' 54 8 vm M.length (M.flatMap ContV.cs)
  bx : BX w' r 54 y.cs
  sz : y.bytes.size ≤ 1000
  vr : ∀ k, vm.ownBlock = some k → k < r
  le : w.heap.size ≤ r
theorem CS.same {w w' w'' : World} {r : Nat} {vm : Value} {M : List ContV} {y : ContV} (h : CS w w' r vm M y) (s : Same w' w'') : CS w w'' r vm M y := ⟨h.mv.same s, h.own.same s, h.bx.same s, h.sz, h.vr, h.le⟩
theorem CS.put {w w' w'' : World} {r : Nat} {vm : Value} {M : List ContV} {y : ContV} (h : CS w w' r vm M y) (y' : ContV) (hb : w''.heap[r]? = some (.cells y'.cs.toArray 54 (0, 0))) (m : Mv (· = r) w' w'') (hz : y'.bytes = y.bytes) : CS w w'' r vm M y' :=
  ⟨h.mv.cut m fun k hk e => by have := h.le; omega, h.own.moved m fun k hk e => by have := h.vr k hk; omega, hb, by rw [hz]; exact h.sz, h.vr, h.le⟩
set_option maxRecDepth 100000 in
set_option maxHeartbeats 8000000 in
theorem contents_walk (v : Value) (l : List Int) (w : World) (h : RowI w v l) (hl : l.length ≤ 1000000) : Calls Try.prog 21 #[v] w fun e w' => ∃ a n c, e = .returned (.slice a n c) ∧ Mv (fun _ => False) w w' := by
  obtain ⟨iC, bC, hiC, hzC, hsC, hbC, hbC1⟩ := info_cont
  obtain ⟨iI, hiI, hzI, hsI, hbI⟩ := info_int
  obtain ⟨a, c, hv⟩ := h.1.len
  subst hv
  refine calls_W (n := 110) (vs := [.slice a l.length c]) Try.func21 rfl rfl rfl ?_
  apply W.readS LO mixed [0] (by kernel_rfl)
  · repeat' (first | rfl | with_reducible assumption | assumption | constructor)
  intro w1 f1 s1 hf1
  replace hf1 : f1 = [(0, _)] := hf1
  subst hf1
  apply W.readS LO mixed [0, 3] (by kernel_rfl)
  · repeat' (first | rfl | with_reducible assumption | assumption | constructor)
  intro w2 f2 s2 hf2
  replace hf2 : f2 = [(0, _), (3, _)] := hf2
  subst hf2
  have m2 : Mv (fun _ => False) w w2 := ((Mv.refl _ w).same s1).same s2
  refine W.cutS (fun w' g => ∃ (vm : Value) (M : List ContV), (Mv (fun _ => False) w w' ∧ OwnZ w' 54 8 vm M.length (M.flatMap ContV.cs)) ∧ g = [(3, vm)]) ?_ ?_
  ·
    apply W.readS LO mixed [0, 3, 4] (by kernel_rfl)
    · repeat' (first | rfl | with_reducible assumption | assumption | constructor)
    intro w3 f3 s3 hf3
    replace hf3 : f3 = [(0, _), (3, _), (4, _)] := hf3
    subst hf3
    refine W.block (W.loop (fun k w' g => ∃ (i : Nat) (vm : Value) (M : List ContV), k + i = 3 ∧ M.length = i ∧ Mv (fun _ => False) w w' ∧ OwnZ w' 54 8 vm M.length (M.flatMap ContV.cs) ∧ (∀ k, vm.ownBlock = some k → w.heap.size ≤ k) ∧
      g = [(0, .slice a l.length c), (3, vm), (4, .int .i64 i)]) 3 _ ⟨0, .slice none 0 0, [], rfl, rfl, m2.same s3, OwnZ.nil _ _ _, fun k hk => (by cases hk), rfl⟩ (sub_keys rfl) ?_)
    clear m2 s1 s2 s3
    rintro k w4 _ ⟨i, vm, M, hk, hM, m4, ho4, hf4, rfl⟩
    obtain ⟨am, cm, rfl, _⟩ := ho4.slice
    by_cases hlt : i < l.length ∧ i < 3
    · obtain ⟨hlt, h3⟩ := hlt
      have k1 : Kn (decide ((i : Int) < (l.length : Int))) true := .yes (by omega)
      have k2 : Kn (decide ((i : Int) < 3)) true := .yes (by omega)
      refine W.seq ?_
      apply W.readS LO mixed [0, 3, 4, 17] (by kernel_rfl)
      · repeat' (first | rfl | with_reducible assumption | assumption | constructor)
      intro w5 f5 s5 hf5
      replace hf5 : f5 = [(0, _), (3, _), (4, _), (17, _)] := hf5
      subst hf5
      have m5 := m4.same s5
      have ho5 := ho4.same s5
      clear m4 ho4 s5
      refine W.cond (b := true) rfl (fun _ => W.skip (N.to ?_)) (fun h => by cases h)
      refine W.cutS (fun w' g => ∃ (vm' : Value) (M' : List ContV), (M'.length = i + 1 ∧ Mv (fun _ => False) w w' ∧ OwnZ w' 54 8 vm' M'.length (M'.flatMap ContV.cs) ∧ (∀ k, vm'.ownBlock = some k → w.heap.size ≤ k)) ∧ g = [(0, .slice a l.length c), (3, vm'), (4, .int .i64 i)]) ?_ ?_
      · refine W.block ?_
        obtain ⟨x, hx⟩ : ∃ x, l[i]? = some x := ⟨_, List.getElem?_eq_getElem hlt⟩
        have hx64 := h.2 x (List.mem_of_getElem? hx)
        obtain ⟨b, o, c', hv', hcell⟩ := (h.1.moved m5).at (f := fun n => [Value.int .i64 n]) (fun _ => rfl) (by decide) hx
        injection hv' with ea _ ec
        subst ea ec
        have cx : Cl w5 ⟨b, o + (i : Int).toNat * 1, none⟩ (.int .i64 x) := by
          cases hcell with | cons hc _ => exact hc
        have i0 : (0 : Int) ≤ (i : Int) := by omega
        have i1 : (i : Int) < (l.length : Int) := by omega
        obtain ⟨V, hV⟩ : ∃ V, V = x % 16777216 := ⟨_, rfl⟩
        have bV : 0 ≤ V ∧ V < 16777216 := by omega
        have q1 := quiet_of (w := w5) fun w' s' => place00_says x 16777216 w' (by decide) (by decide) hx64.1 hx64.2
        rw [← hV] at q1
        apply W.readS LO mixed [0, 3, 4, 5] (by kernel_rfl)
        · repeat' (first | rfl | with_reducible assumption | assumption | constructor)
        intro w6 f6 s6 hf6
        replace hf6 : f6 = [(0, _), (3, _), (4, _), (5, _)] := hf6
        subst hf6
        have m6 := m5.same s6
        have ho6 := ho5.same s6
        clear q1 cx hcell m5 ho5 s6
        refine W.seq (W.list ?_)
        have a1 := kq 7 bV (by decide)
        have a2 := kq 31 bV (by decide)
        have a3 := kq 101 bV (by decide)
        have n7 : (7 : Int) ≠ 0 := by decide
        have n31 : (31 : Int) ≠ 0 := by decide
        have n101 : (101 : Int) ≠ 0 := by decide
        have n3 : (3 : Int) ≠ 0 := by decide
        apply Ls.runK LO [0, 3, 4, 5, 26, 28, 30] 6
        · repeat' (first | rfl | with_reducible assumption | assumption | constructor)
        intro w7 f7 s7 hf7
        replace hf7 : f7 = [(0, _), (3, _), (4, _), (5, _), (26, _), (28, _), (30, _)] := hf7
        subst hf7
        have m7 := m6.same s7
        have ho7 := ho6.same s7
        clear a1 a2 a3 m6 ho6 s7
        refine Ls.buildZ [(.int .i64 (V / 7), [.int .i64 (V / 7)]), (.int .i64 (V / 31), [.int .i64 (V / 31)]), (.int .i64 (V / 101), [.int .i64 (V / 101)])] rfl rfl rfl rfl und_ints hiI hzI hsI rfl rfl rfl rfl rfl rfl (fun p hp => by
          simp only [List.mem_cons, List.not_mem_nil, or_false] at hp
          rcases hp with rfl | rfl | rfl <;> exact ⟨rfl, rfl⟩) ?_
        have hb8 := heap_alloc_new w7 (.cells [Value.int .i64 (V / 7), .int .i64 (V / 31), .int .i64 (V / 101)].toArray 3)
        have m8 : Mv (fun _ => False) w7 (w7.alloc (.cells [Value.int .i64 (V / 7), .int .i64 (V / 31), .int .i64 (V / 101)].toArray 3)) := (Mv.refl _ w7).alloc _
        show Ls Try.prog 110 _ _ _ (w7.alloc (.cells [Value.int .i64 (V / 7), .int .i64 (V / 31), .int .i64 (V / 101)].toArray 3)) _
        generalize w7.alloc (.cells [Value.int .i64 (V / 7), .int .i64 (V / 31), .int .i64 (V / 101)].toArray 3) = w8 at hb8 m8
        obtain ⟨g, hg⟩ : ∃ g, g = w7.heap.size := ⟨_, rfl⟩
        rw [← hg] at hb8
        rw [← hg]
        have ho8 := ho7.moved m8 (fun _ _ e => e)
        have m8 := m7.trans m8
        have b3 : 0 ≤ V % 3 ∧ V % 3 < 3 := ⟨Int.emod_nonneg _ (by decide), Int.emod_lt_of_pos _ (by decide)⟩
        obtain ⟨n, hn⟩ : ∃ n : Nat, (n : Int) = 1 + V % 3 := ⟨(1 + V % 3).toNat, by omega⟩
        have a1 := kr 3 bV.1
        have a2 : Kn (IntKind.i64.wrap (1 + V % 3)) ((n : Nat) : Int) := .of ((IntWalk.i64_in _ (by omega)).trans hn.symm)
        apply Ls.runK LO [0, 3, 4, 5, 31, 34] 3
        · repeat' (first | rfl | with_reducible assumption | assumption | constructor)
        intro w9 f9 s9 hf9
        replace hf9 : f9 = [(0, _), (3, _), (4, _), (5, _), (31, _), (34, _)] := hf9
        subst hf9
        rw [← s9.heap] at hb8
        have m9 := m8.same s9
        have ho9 := ho8.same s9
        have bq7 := qb 7 bV (by decide)
        have bq31 := qb 31 bV (by decide)
        have bq101 := qb 101 bV (by decide)
        refine Ls.call LO rfl rfl rfl rfl rfl (vs := [.slice (some ⟨g, 0, none⟩) 3 3, .int .i64 n]) rfl (letters_walk g 3 (V / 7) (V / 31) (V / 101) n w9 (by omega) hb8 (by omega) (by omega) (by omega)) ?_
        rintro _ w10 ⟨tx, rfl, htx, m10'⟩
        refine ⟨_, rfl, ?_⟩
        have ho10 := ho9.moved m10' (fun _ _ e => e)
        have m10 := m9.trans m10'
        clear hb8 m7 ho7 m8 ho8 m9 ho9 s9 m10' a1 a2 hn hg
        have a1 := kq 3 bV (by decide)
        have a2 := kr 3 (qb 3 bV (by decide)).1
        obtain ⟨nc, hnc⟩ : ∃ nc, nc = (V / 3 % 3 == 0) := ⟨_, rfl⟩
        have a3 : Kn (V / 3 % 3 == 0) nc := .of hnc.symm
        apply Ls.runK LO [0, 3, 4, 5, 40] 5
        · repeat' (first | rfl | with_reducible assumption | assumption | constructor)
        intro w11 f11 s11 hf11
        replace hf11 : f11 = [(0, _), (3, _), (4, _), (5, _), (40, _)] := hf11
        subst hf11
        have m11 := m10.same s11
        have ho11 := ho10.same s11
        clear a1 a2 a3 hnc m10 ho10 s11
        refine Ls.alloc LO rfl rfl rfl rfl (zs := zCont) rfl ?_
        have hb12 := heap_alloc_new w11 (.cells zCont.toArray 54)
        have m12 : Mv (fun _ => False) w11 (w11.alloc (.cells zCont.toArray 54)) := (Mv.refl _ w11).alloc _
        generalize w11.alloc (.cells zCont.toArray 54) = w12 at hb12 m12
        obtain ⟨r, hr⟩ : ∃ r, r = w11.heap.size := ⟨_, rfl⟩
        rw [← hr] at hb12
        rw [← hr]
        refine Ls.store LO rfl rfl rfl rfl rfl (vs := (ContV.mk tx nc false 0 0 false 0 0).cs) rfl rfl rfl hb12 rfl ?_
        intro w13 hb13 m13 _
        have hB : ∃ y : ContV, BX w13 r 54 y.cs ∧ y.bytes.size ≤ 1000 := ⟨⟨tx, nc, false, 0, 0, false, 0, 0⟩, hb13, htx⟩
        have m1113 : Mv (fun _ => False) w11 w13 := m12.cut m13 fun k hk e => by omega
        have ho13 := ho11.moved m1113 (fun _ _ e => e)
        have hvr : ∀ k, (Value.slice am M.length cm).ownBlock = some k → k < r := fun k hk => by rw [hr]; exact ho11.lt k hk
        have hwr : w.heap.size ≤ r := by rw [hr]; exact m11.size
        have m13 := m11.trans m1113
        clear hb12 m12 hb13 m1113 m11 ho11 hr htx
        refine Ls.nil (N.to ?_)
        apply W.readS LO mixed [0, 3, 4, 5, 6, 7] (by kernel_rfl)
        · repeat' (first | rfl | with_reducible assumption | assumption | constructor)
        intro w14 f14 s14 hf14
        replace hf14 : f14 = [(0, _), (3, _), (4, _), (5, _), (6, _), (7, _)] := hf14
        subst hf14
        have m14 := m13.same s14
        have ho14 := ho13.same s14
        have hB : ∃ y : ContV, BX w14 r 54 y.cs ∧ y.bytes.size ≤ 1000 := by
          obtain ⟨y, h1, h2⟩ := hB
          exact ⟨y, h1.same s14, h2⟩
        clear m13 ho13 s14
        -- is there one that must be
        refine W.cutS (fun w' g => ∃ any : Bool, (Mv (fun _ => False) w w' ∧ OwnZ w' 54 8 (.slice am M.length cm) M.length (M.flatMap ContV.cs) ∧ ∃ y : ContV, BX w' r 54 y.cs ∧ y.bytes.size ≤ 1000) ∧ g = [(0, .slice (some ⟨b, o, none⟩) l.length c), (3, .slice am M.length cm), (4, .int .i64 i), (5, .int .i64 V), (6, .pointer (some ⟨r, 0, none⟩)), (7, .bool any)]) ?_ ?_
        ·
          apply W.readS LO mixed [0, 3, 4, 5, 6, 7, 8] (by kernel_rfl)
          · repeat' (first | rfl | with_reducible assumption | assumption | constructor)
          intro w15 f15 s15 hf15
          replace hf15 : f15 = [(0, _), (3, _), (4, _), (5, _), (6, _), (7, _), (8, _)] := hf15
          subst hf15
          refine W.block (W.loop (fun k w' g => ∃ (j : Nat) (any : Bool), k + j = M.length ∧ (Mv (fun _ => False) w w' ∧ OwnZ w' 54 8 (.slice am M.length cm) M.length (M.flatMap ContV.cs) ∧ ∃ y : ContV, BX w' r 54 y.cs ∧ y.bytes.size ≤ 1000) ∧ g = [(0, .slice (some ⟨b, o, none⟩) l.length c), (3, .slice am M.length cm), (4, .int .i64 i), (5, .int .i64 V), (6, .pointer (some ⟨r, 0, none⟩)), (7, .bool any), (8, .int .i64 j)]) M.length _ ⟨0, false, rfl, ⟨m14.same s15, ho14.same s15, by
            obtain ⟨y, h1, h2⟩ := hB
            exact ⟨y, h1.same s15, h2⟩⟩, rfl⟩ (sub_keys rfl) ?_)
          clear m14 ho14 hB s15
          rintro k' w16 _ ⟨j, any, hkj, ⟨m16, ho16, hB⟩, rfl⟩
          have hB' : ∀ w', Same w16 w' → ∃ y : ContV, BX w' r 54 y.cs ∧ y.bytes.size ≤ 1000 := fun w' s' => by
            obtain ⟨y, h1, h2⟩ := hB
            exact ⟨y, h1.same s', h2⟩
          by_cases hjl : j < M.length
          · have k5 : Kn (decide ((j : Int) < (M.length : Int))) true := .yes (by omega)
            refine W.seq ?_
            apply W.readS LO mixed [0, 3, 4, 5, 6, 7, 8, 44] (by kernel_rfl)
            · repeat' (first | rfl | with_reducible assumption | assumption | constructor)
            intro w17 f17 s17 hf17
            replace hf17 : f17 = [(0, _), (3, _), (4, _), (5, _), (6, _), (7, _), (8, _), (44, _)] := hf17
            subst hf17
            refine W.cond (b := true) rfl (fun _ => W.skip (N.to ?_)) (fun h => by cases h)
            obtain ⟨z, hz⟩ : ∃ z, M[j]? = some z := ⟨_, List.getElem?_eq_getElem hjl⟩
            have m17 := m16.same s17
            have ho17 := ho16.same s17
            have hB17 := hB' w17 s17
            refine W.cutS (fun w' g => ∃ any : Bool, Same w17 w' ∧ g = [(0, .slice (some ⟨b, o, none⟩) l.length c), (3, .slice am M.length cm), (4, .int .i64 i), (5, .int .i64 V), (6, .pointer (some ⟨r, 0, none⟩)), (7, .bool any), (8, .int .i64 j)]) ?_ ?_
            · refine W.block ?_
              obtain ⟨gm, cm', hve, _, hce⟩ := ownz_elem ho17 hz
              injection hve with e1 _ e2
              subst e1 e2
              have j0 : (0 : Int) ≤ (j : Int) := by omega
              have j1 : (j : Int) < (M.length : Int) := by omega
              have cn : Cl w17 ⟨gm, 0 + (j : Int).toNat * 8 + 2, none⟩ (.bool z.not) := ⟨hce.get 2 _ rfl⟩
              cases any with
              | true =>
                apply W.readN LO mixed [0, 3, 4, 5, 6, 7, 8] (by kernel_rfl)
                · repeat' (first | rfl | with_reducible assumption | assumption | constructor)
                intro w18 f18 s18 hf18
                replace hf18 : f18 = [(0, _), (3, _), (4, _), (5, _), (6, _), (7, _), (8, _)] := hf18
                subst hf18
                exact N.inb (N.cut ⟨_, s18, rfl⟩ (sub_keys rfl))
              | false =>
                apply W.readN LO mixed [0, 3, 4, 5, 6, 7, 8] (by kernel_rfl)
                · repeat' (first | rfl | with_reducible assumption | assumption | constructor)
                intro w18 f18 s18 hf18
                replace hf18 : f18 = [(0, _), (3, _), (4, _), (5, _), (6, _), (7, _), (8, _)] := hf18
                subst hf18
                exact N.inb (N.cut ⟨_, s18, rfl⟩ (sub_keys rfl))
            · rintro w18 _ ⟨any', s18, rfl⟩
              have k6 : Kn (IntKind.i64.wrap ((j : Int) + 1)) ((j + 1 : Nat) : Int) := .of (IntWalk.i64_in _ (by have := hM; omega))
              apply W.readN LO mixed [0, 3, 4, 5, 6, 7, 8] (by kernel_rfl)
              · repeat' (first | rfl | with_reducible assumption | assumption | constructor)
              intro w19 f19 s19 hf19
              replace hf19 : f19 = [(0, _), (3, _), (4, _), (5, _), (6, _), (7, _), (8, _)] := hf19
              subst hf19
              exact N.round (k' - 1) _ (by omega) ⟨j + 1, any', by omega, ⟨(m17.same s18).same s19, (ho17.same s18).same s19, hB' w19 ((s17.trans s18).trans s19)⟩, rfl⟩ (sub_keys rfl)
          · have k5 : Kn (decide ((j : Int) < (M.length : Int))) false := .no (by omega)
            refine W.seq ?_
            apply W.readS LO mixed [0, 3, 4, 5, 6, 7, 44] (by kernel_rfl)
            · repeat' (first | rfl | with_reducible assumption | assumption | constructor)
            intro w17 f17 s17 hf17
            replace hf17 : f17 = [(0, _), (3, _), (4, _), (5, _), (6, _), (7, _), (44, _)] := hf17
            subst hf17
            refine W.cond (b := false) rfl (fun h => by cases h) (fun _ => W.exit ?_)
            exact N.thenE (N.thenE (N.out (N.cut ⟨any, ⟨m16.same s17, ho16.same s17, hB' w17 s17⟩, rfl⟩ (sub_keys rfl))))
        clear m14 ho14 hB
        rintro w15 _ ⟨any, ⟨m15, ho15, hB⟩, rfl⟩
        obtain ⟨y, hy1, hy2⟩ := hB
        have C : CS w w15 r (.slice am M.length cm) M y := ⟨m15, ho15, hy1, hy2, hvr, hwr⟩
        clear m15 ho15 hy1 hy2
        obtain ⟨K, hK⟩ : ∃ K, K = V / 9 % 8 := ⟨_, rfl⟩
        have a1 := kq 9 bV (by decide)
        have a2 := kr 8 (qb 9 bV (by decide)).1
        rw [← hK] at a2
        have n9 : (9 : Int) ≠ 0 := by decide
        have n8 : (8 : Int) ≠ 0 := by decide
        have n72 : (72 : Int) ≠ 0 := by decide
        have n5 : (5 : Int) ≠ 0 := by decide
        have n576 : (576 : Int) ≠ 0 := by decide
        have n2 : (2 : Int) ≠ 0 := by decide
        have n1152 : (1152 : Int) ≠ 0 := by decide
        have n6 : (6 : Int) ≠ 0 := by decide
        refine W.cutS (fun w' g => (∃ y, CS w w' r (.slice am M.length cm) M y) ∧ g = [(0, .slice (some ⟨b, o, none⟩) l.length c), (3, .slice am M.length cm), (4, .int .i64 i), (6, .pointer (some ⟨r, 0, none⟩))]) ?_ ?_
        ·
          apply W.readS LO mixed [0, 3, 4, 5, 6, 7, 9] (by kernel_rfl)
          · repeat' (first | rfl | with_reducible assumption | assumption | constructor)
          intro w16 f16 s16 hf16
          replace hf16 : f16 = [(0, _), (3, _), (4, _), (5, _), (6, _), (7, _), (9, _)] := hf16
          subst hf16
          have C := C.same s16
          clear a1 a2 s16
          refine W.block ?_
          by_cases h0 : K = 0
          · have k6 : Kn (K == 0) true := .of (by rw [h0]; rfl)
            apply W.readS LO mixed [0, 3, 4, 5, 6, 7, 9, 59] (by kernel_rfl)
            · repeat' (first | rfl | with_reducible assumption | assumption | constructor)
            intro w17 f17 s17 hf17
            replace hf17 : f17 = [(0, _), (3, _), (4, _), (5, _), (6, _), (7, _), (9, _), (59, _)] := hf17
            subst hf17
            have C := C.same s17
            refine W.cond (b := true) rfl (fun _ => W.list ?_) (fun h => by cases h)
            apply Ls.runK LO [0, 3, 4, 6, 62] 1
            · repeat' (first | rfl | with_reducible assumption | assumption | constructor)
            intro w18 f18 s18 hf18
            replace hf18 : f18 = [(0, _), (3, _), (4, _), (6, _), (62, _)] := hf18
            subst hf18
            have C := C.same s18
            refine Ls.store LO rfl rfl rfl rfl rfl (vs := [.bool true]) rfl rfl rfl C.bx rfl ?_
            intro w19 hb19 m19 _
            exact Ls.nil (N.inb (N.cut ⟨⟨_, C.put { y with not := true } hb19 m19 rfl⟩, rfl⟩ (sub_keys rfl)))
          have k6 : Kn (K == 0) false := .of (beq_eq_false_iff_ne.2 h0)
          apply W.readS LO mixed [0, 3, 4, 5, 6, 7, 9, 59] (by kernel_rfl)
          · repeat' (first | rfl | with_reducible assumption | assumption | constructor)
          intro w17 f17 s17 hf17
          replace hf17 : f17 = [(0, _), (3, _), (4, _), (5, _), (6, _), (7, _), (9, _), (59, _)] := hf17
          subst hf17
          have C := C.same s17
          refine W.cond (b := false) rfl (fun h => by cases h) (fun _ => ?_)
          obtain ⟨rl, hrl⟩ : ∃ rl, rl = (decide (K < 4) && any) := ⟨_, rfl⟩
          refine W.cutS (fun w' g => Same w17 w' ∧ g = [(0, .slice (some ⟨b, o, none⟩) l.length c), (3, .slice am M.length cm), (4, .int .i64 i), (5, .int .i64 V), (6, .pointer (some ⟨r, 0, none⟩)), (9, .int .i64 K), (63, .bool rl)]) ?_ ?_
          · rw [hrl]
            by_cases h4 : K < 4
            · have k7 : Kn (decide (K < 4)) true := .yes h4
              rw [decide_eq_true h4, Bool.true_and]
              apply W.readN LO mixed [0, 3, 4, 5, 6, 9, 63] (by kernel_rfl)
              · repeat' (first | rfl | with_reducible assumption | assumption | constructor)
              intro w18 f18 s18 hf18
              replace hf18 : f18 = [(0, _), (3, _), (4, _), (5, _), (6, _), (9, _), (63, _)] := hf18
              subst hf18
              exact N.cut ⟨s18, rfl⟩ (sub_keys rfl)
            · have k7 : Kn (decide (K < 4)) false := .no h4
              rw [decide_eq_false h4, Bool.false_and]
              apply W.readN LO mixed [0, 3, 4, 5, 6, 9, 63] (by kernel_rfl)
              · repeat' (first | rfl | with_reducible assumption | assumption | constructor)
              intro w18 f18 s18 hf18
              replace hf18 : f18 = [(0, _), (3, _), (4, _), (5, _), (6, _), (9, _), (63, _)] := hf18
              subst hf18
              exact N.cut ⟨s18, rfl⟩ (sub_keys rfl)
          rintro w18 _ ⟨s18, rfl⟩
          have C := C.same s18
          clear hrl s18 s17
          have b72 := qb 72 bV (by decide)
          cases rl with
          | true =>
            refine W.cond (b := true) rfl (fun _ => ?_) (fun h => by cases h)
            refine W.seq (W.list ?_)
            apply Ls.runK LO [0, 3, 4, 5, 6, 69] 1
            · repeat' (first | rfl | with_reducible assumption | assumption | constructor)
            intro w19 f19 s19 hf19
            replace hf19 : f19 = [(0, _), (3, _), (4, _), (5, _), (6, _), (69, _)] := hf19
            subst hf19
            have C := C.same s19
            refine Ls.store LO rfl rfl rfl rfl rfl (vs := [.bool true]) rfl rfl rfl C.bx rfl ?_
            intro w20 hb20 m20 _
            have C := C.put { y with rel := true } hb20 m20 rfl
            refine Ls.nil (N.to ?_)
            have bd : 0 ≤ V / 72 % 8 ∧ V / 72 % 8 < 8 := ⟨Int.emod_nonneg _ (by decide), Int.emod_lt_of_pos _ (by decide)⟩
            have a1 := kq 72 bV (by decide)
            have a2 := kr 8 b72.1
            have a3 : Kn (IntKind.i64.wrap (V / 72 % 8 - 3)) (V / 72 % 8 - 3) := .of (IntWalk.i64_in _ (by omega))
            refine W.seq (W.list ?_)
            apply Ls.runK LO [0, 3, 4, 5, 6, 73, 74] 5
            · repeat' (first | rfl | with_reducible assumption | assumption | constructor)
            intro w21 f21 s21 hf21
            replace hf21 : f21 = [(0, _), (3, _), (4, _), (5, _), (6, _), (73, _), (74, _)] := hf21
            subst hf21
            have C := C.same s21
            refine Ls.store LO rfl rfl rfl rfl rfl (vs := [.int .i64 (V / 72 % 8 - 3)]) rfl rfl rfl C.bx rfl ?_
            intro w22 hb22 m22 _
            have C := C.put { y with rel := true, dist := V / 72 % 8 - 3 } hb22 m22 rfl
            clear a1 a2 a3 s21 s19 hb20 m20 hb22 m22
            refine Ls.nil (N.to ?_)
            have a1 := kq 576 bV (by decide)
            have a2 := kr 2 (qb 576 bV (by decide)).1
            obtain ⟨wi, hwi⟩ : ∃ wi, wi = (V / 576 % 2 == 0) := ⟨_, rfl⟩
            have a3 : Kn (V / 576 % 2 == 0) wi := .of hwi.symm
            apply W.readS LO mixed [0, 3, 4, 5, 6, 78] (by kernel_rfl)
            · repeat' (first | rfl | with_reducible assumption | assumption | constructor)
            intro w23 f23 s23 hf23
            replace hf23 : f23 = [(0, _), (3, _), (4, _), (5, _), (6, _), (78, _)] := hf23
            subst hf23
            have C := C.same s23
            clear a1 a2 a3 hwi s23
            cases wi with
            | false =>
              refine W.cond (b := false) rfl (fun h => by cases h) (fun _ => W.skip ?_)
              exact N.inb (N.cut ⟨⟨_, C⟩, rfl⟩ (sub_keys rfl))
            | true =>
              refine W.cond (b := true) rfl (fun _ => W.list ?_) (fun h => by cases h)
              have be : 0 ≤ V / 1152 % 6 ∧ V / 1152 % 6 < 6 := ⟨Int.emod_nonneg _ (by decide), Int.emod_lt_of_pos _ (by decide)⟩
              have a1 := kq 1152 bV (by decide)
              have a2 := kr 6 (qb 1152 bV (by decide)).1
              have hys : y.bytes.size ≤ 1000 := C.sz
              have a3 : Kn (IntKind.i64.wrap ((y.bytes.size : Int) + V / 1152 % 6)) ((y.bytes.size : Int) + V / 1152 % 6) := .of (IntWalk.i64_in _ (by omega))
              have cb : Cl w23 ⟨r, 0, none⟩ (.string y.bytes) := C.bx.cl rfl
              apply Ls.runK LO [0, 3, 4, 6, 85, 86] 8
              · repeat' (first | rfl | with_reducible assumption | assumption | constructor)
              intro w24 f24 s24 hf24
              replace hf24 : f24 = [(0, _), (3, _), (4, _), (6, _), (85, _), (86, _)] := hf24
              subst hf24
              have C := C.same s24
              refine Ls.store LO rfl rfl rfl rfl rfl (vs := [.int .i64 ((y.bytes.size : Int) + V / 1152 % 6)]) rfl rfl rfl C.bx rfl ?_
              intro w25 hb25 m25 _
              exact Ls.nil (N.inb (N.cut ⟨⟨_, C.put { y with rel := true, dist := V / 72 % 8 - 3, within := (y.bytes.size : Int) + V / 1152 % 6 } hb25 m25 rfl⟩, rfl⟩ (sub_keys rfl)))
          | false =>
            refine W.cond (b := false) rfl (fun h => by cases h) (fun _ => ?_)
            by_cases h4 : K = 4
            · have k7 : Kn (K == 4) true := .of (by rw [h4]; rfl)
              apply W.readS LO mixed [0, 3, 4, 5, 6, 87] (by kernel_rfl)
              · repeat' (first | rfl | with_reducible assumption | assumption | constructor)
              intro w19 f19 s19 hf19
              replace hf19 : f19 = [(0, _), (3, _), (4, _), (5, _), (6, _), (87, _)] := hf19
              subst hf19
              have C := C.same s19
              refine W.cond (b := true) rfl (fun _ => W.list ?_) (fun h => by cases h)
              have a1 := kq 72 bV (by decide)
              have a2 := kr 5 b72.1
              apply Ls.runK LO [0, 3, 4, 6, 92, 93] 4
              · repeat' (first | rfl | with_reducible assumption | assumption | constructor)
              intro w20 f20 s20 hf20
              replace hf20 : f20 = [(0, _), (3, _), (4, _), (6, _), (92, _), (93, _)] := hf20
              subst hf20
              have C := C.same s20
              refine Ls.store LO rfl rfl rfl rfl rfl (vs := [.int .i64 (V / 72 % 5)]) rfl rfl rfl C.bx rfl ?_
              intro w21 hb21 m21 _
              exact Ls.nil (N.inb (N.cut ⟨⟨_, C.put { y with off := V / 72 % 5 } hb21 m21 rfl⟩, rfl⟩ (sub_keys rfl)))
            have k7 : Kn (K == 4) false := .of (beq_eq_false_iff_ne.2 h4)
            apply W.readS LO mixed [0, 3, 4, 5, 6, 9, 87] (by kernel_rfl)
            · repeat' (first | rfl | with_reducible assumption | assumption | constructor)
            intro w19 f19 s19 hf19
            replace hf19 : f19 = [(0, _), (3, _), (4, _), (5, _), (6, _), (9, _), (87, _)] := hf19
            subst hf19
            have C := C.same s19
            refine W.cond (b := false) rfl (fun h => by cases h) (fun _ => ?_)
            by_cases h5 : K = 5
            · have k8 : Kn (K == 5) true := .of (by rw [h5]; rfl)
              apply W.readS LO mixed [0, 3, 4, 5, 6, 94] (by kernel_rfl)
              · repeat' (first | rfl | with_reducible assumption | assumption | constructor)
              intro w20 f20 s20 hf20
              replace hf20 : f20 = [(0, _), (3, _), (4, _), (5, _), (6, _), (94, _)] := hf20
              subst hf20
              have C := C.same s20
              refine W.cond (b := true) rfl (fun _ => W.list ?_) (fun h => by cases h)
              have be : 0 ≤ V / 72 % 9 ∧ V / 72 % 9 < 9 := ⟨Int.emod_nonneg _ (by decide), Int.emod_lt_of_pos _ (by decide)⟩
              have a1 := kq 72 bV (by decide)
              have a2 := kr 9 b72.1
              have hys : y.bytes.size ≤ 1000 := C.sz
              have a3 : Kn (IntKind.i64.wrap ((y.bytes.size : Int) + V / 72 % 9)) ((y.bytes.size : Int) + V / 72 % 9) := .of (IntWalk.i64_in _ (by omega))
              have cb : Cl w20 ⟨r, 0, none⟩ (.string y.bytes) := C.bx.cl rfl
              apply Ls.runK LO [0, 3, 4, 6, 103, 104] 8
              · repeat' (first | rfl | with_reducible assumption | assumption | constructor)
              intro w21 f21 s21 hf21
              replace hf21 : f21 = [(0, _), (3, _), (4, _), (6, _), (103, _), (104, _)] := hf21
              subst hf21
              have C := C.same s21
              refine Ls.store LO rfl rfl rfl rfl rfl (vs := [.int .i64 ((y.bytes.size : Int) + V / 72 % 9)]) rfl rfl rfl C.bx rfl ?_
              intro w22 hb22 m22 _
              exact Ls.nil (N.inb (N.cut ⟨⟨_, C.put { y with depth := (y.bytes.size : Int) + V / 72 % 9 } hb22 m22 rfl⟩, rfl⟩ (sub_keys rfl)))
            · have k8 : Kn (K == 5) false := .of (beq_eq_false_iff_ne.2 h5)
              apply W.readS LO mixed [0, 3, 4, 6, 94] (by kernel_rfl)
              · repeat' (first | rfl | with_reducible assumption | assumption | constructor)
              intro w20 f20 s20 hf20
              replace hf20 : f20 = [(0, _), (3, _), (4, _), (6, _), (94, _)] := hf20
              subst hf20
              refine W.cond (b := false) rfl (fun h => by cases h) (fun _ => W.skip ?_)
              exact N.inb (N.cut ⟨⟨_, C.same s20⟩, rfl⟩ (sub_keys rfl))
        clear C y
        rintro w17 _ ⟨⟨y, C⟩, rfl⟩
        have d1 : CellsAt w17 r 0 8 y.cs := C.bx.cells
        refine W.list ?_
        apply Ls.runK LO [0, 4, 105, 106] 2
        · repeat' (first | rfl | with_reducible assumption | assumption | constructor)
        intro w18 f18 s18 hf18
        replace hf18 : f18 = [(0, _), (4, _), (105, _), (106, _)] := hf18
        subst hf18
        have C := C.same s18
        refine Ls.buildZ [(.agg y.cs.toArray, y.cs)] rfl rfl rfl rfl und_conts hiC hzC hsC rfl rfl rfl rfl rfl rfl (fun p hp => by obtain rfl := List.mem_singleton.1 hp; exact ⟨rfl, rfl⟩) ?_
        have hr19 := reads_oneZ w18 54 y.cs 8 rfl
        have m19 : Mv (fun _ => False) w18 (w18.alloc (.cells y.cs.toArray 54)) := (Mv.refl _ w18).alloc _
        show Ls Try.prog 110 _ _ _ (w18.alloc (.cells y.cs.toArray 54)) _
        generalize w18.alloc (.cells y.cs.toArray 54) = w19 at hr19 m19
        have hbl : (M.length + 1) * bC ≤ 4 * 1000 := Nat.mul_le_mul (by omega) hbC1
        refine Ls.appendZ rfl rfl rfl rfl und_conts hiC hzC hsC hbC rfl (by decide) (v := .slice am M.length cm) rfl rfl (C.own.moved m19 fun _ _ e => e) hr19 (fun u hu => ccs_one (l := [y]) u (by simpa using hu)) (by simp only [maxLen]; omega) (by omega) ?_
        intro v2 w20 ho20 m20 hb20
        have hmv := C.mv.trans m19
        have m20' : Mv (fun _ => False) w w20 := hmv.cut m20 fun k hk e => by have := hf4 k e; omega
        apply Ls.runK LO [0, 3, 4] 1
        · repeat' (first | rfl | with_reducible assumption | assumption | constructor)
        intro w21 f21 s21 hf21
        replace hf21 : f21 = [(0, _), (3, _), (4, _)] := hf21
        subst hf21
        refine Ls.nil (N.inb (N.cut ⟨v2, M ++ [y], ⟨by rw [List.length_append, List.length_singleton]; omega, m20'.same s21, ?_, fun k hk => ?_⟩, rfl⟩ (sub_keys rfl)))
        · rw [List.length_append, List.length_singleton, List.flatMap_append]
          have : [y].flatMap ContV.cs = y.cs := by simp
          rw [this]
          exact ho20.same s21
        · rcases hb20 with e | e
          · exact hf4 k (e.symm.trans hk)
          · rw [e] at hk; have := Option.some.inj hk; have := hmv.size; omega
      · rintro w6 _ ⟨vm', M', ⟨hM', m6, ho6, hf6'⟩, rfl⟩
        have k6 : Kn (IntKind.i64.wrap ((i : Int) + 1)) ((i + 1 : Nat) : Int) := .of (IntWalk.i64_in _ (by omega))
        apply W.readN LO mixed [0, 3, 4] (by kernel_rfl)
        · repeat' (first | rfl | with_reducible assumption | assumption | constructor)
        intro w7 f7 s7 hf7
        replace hf7 : f7 = [(0, _), (3, _), (4, _)] := hf7
        subst hf7
        exact N.round (k - 1) _ (by omega) ⟨i + 1, vm', M', by omega, hM', m6.same s7, ho6.same s7, hf6', rfl⟩ (sub_keys rfl)
    · by_cases h1 : i < l.length
      · have k1 : Kn (decide ((i : Int) < (l.length : Int))) true := .yes (by omega)
        have k2 : Kn (decide ((i : Int) < 3)) false := .no (by omega)
        refine W.seq ?_
        apply W.readS LO mixed [3, 17] (by kernel_rfl)
        · repeat' (first | rfl | with_reducible assumption | assumption | constructor)
        intro w5 f5 s5 hf5
        replace hf5 : f5 = [(3, _), (17, _)] := hf5
        subst hf5
        refine W.cond (b := false) rfl (fun h => by cases h) (fun _ => W.exit ?_)
        exact N.thenE (N.thenE (N.out (N.cut ⟨_, M, ⟨m4.same s5, ho4.same s5⟩, rfl⟩ (sub_keys rfl))))
      · have k1 : Kn (decide ((i : Int) < (l.length : Int))) false := .no (by omega)
        refine W.seq ?_
        apply W.readS LO mixed [3, 17] (by kernel_rfl)
        · repeat' (first | rfl | with_reducible assumption | assumption | constructor)
        intro w5 f5 s5 hf5
        replace hf5 : f5 = [(3, _), (17, _)] := hf5
        subst hf5
        refine W.cond (b := false) rfl (fun h => by cases h) (fun _ => W.exit ?_)
        exact N.thenE (N.thenE (N.out (N.cut ⟨_, M, ⟨m4.same s5, ho4.same s5⟩, rfl⟩ (sub_keys rfl))))
  rintro w3 _ ⟨vm, M, ⟨m3, ho3⟩, rfl⟩
  obtain ⟨a', c', hv', _⟩ := ho3.slice
  subst hv'
  apply W.readS LO mixed [2] (by kernel_rfl)
  · repeat' (first | rfl | with_reducible assumption | assumption | constructor)
  intro w4 f4 s4 hf4
  replace hf4 : f4 = [(2, _)] := hf4
  subst hf4
  exact W.ret (post LO (rs := [.tmp 2]) rfl (vs := [.slice a' M.length c']) (.tmp rfl .nil) ⟨a', M.length, c', rfl, m3.same s4⟩)
end Go.Proofs.Ytbbafhpnlmmjjaa
