/- What is proved: places; the document's example of rules. Conditions: those that stand in each theorem. -/
import Derived.Test.YtbbafhpnlmmjjaaGrpPick
import Derived.Test.YtbbafhpnlmmjjaaFwBuild
namespace Go.Proofs.Ytbbafhpnlmmjjaa
set_option linter.unusedVariables false
set_option linter.unusedSimpArgs false
set_option linter.unusedSectionVars false
open Go.RowKit Fw
/-- A contract that leaves the world alone but for draws. -/
def Says (w : World) (v : Value) : Ending → World → Prop := fun e w' => e = .returned v ∧ Same w w'
theorem quiet_of {P : Program} {g : Nat} {args : Array Value} {v : Value} {w : World} (h : ∀ w', Same w w' → Calls P g args w' (Says w' v)) : ∀ w', Same w w' → Calls P g args w' fun e w'' => e = .returned v ∧ Same w w'' :=
  fun w' hs => (h w' hs).mono fun e w'' ⟨he, hw⟩ => ⟨he, hs.trans hw⟩
theorem place00_says (v n : Int) (w : World) (hn : 0 < n) (hn1 : n ≤ 9223372036854775807) (hv : -9223372036854775808 ≤ v) (hv1 : v ≤ 9223372036854775807) :
    Calls Try.prog 15 #[.int .i64 v, .int .i64 n] w (Says w (.int .i64 (v % n))) := by
  refine calls_W (n := 15) (vs := [.int .i64 v, .int .i64 n]) Try.func15 rfl rfl rfl ?_
  apply W.readS LO mixed [0, 1] (by kernel_rfl)
  · repeat' (first | rfl | with_reducible assumption | assumption | constructor)
  intro w1 f1 s1 hf1
  replace hf1 : f1 = [(0, _), (1, _)] := hf1
  subst hf1
  have hne : n ≠ 0 := by omega
  have hmod : v % n = v.tmod n ∨ v % n = v.tmod n + n ∧ v.tmod n < 0 := by
    rcases Int.lt_or_le v 0 with h | h
    · have e1 : v.tmod n = -((-v) % n) := by
        have := Int.neg_tmod (a := -v) (b := n)
        rw [Int.neg_neg] at this
        rw [this, Int.tmod_eq_emod_of_nonneg (by omega)]
      have e2 : v % n = if (-v) % n = 0 then 0 else n - (-v) % n := by
        have := Int.neg_emod (a := -v) (b := n)
        rw [Int.neg_neg] at this
        rw [this]
        simp only [Int.dvd_iff_emod_eq_zero]
        split <;> omega
      have h4 := Int.emod_nonneg (-v) hne
      have h5 := Int.emod_lt_of_pos (-v) hn
      rw [e1, e2]
      by_cases h0 : (-v) % n = 0
      · left; rw [if_pos h0]; omega
      · right; rw [if_neg h0]; omega
    · left; exact (Int.tmod_eq_emod_of_nonneg h).symm
  have hlo := Int.emod_nonneg v hne
  have hhi := Int.emod_lt_of_pos v hn
  apply W.readS LO mixed [0, 1, 5] (by kernel_rfl)
  · repeat' (first | rfl | with_reducible assumption | assumption | constructor)
  intro w2 f2 s2 hf2
  replace hf2 : f2 = [(0, _), (1, _), (5, _)] := hf2
  subst hf2
  refine W.cutS (fun w' g => Same w2 w' ∧ g = [(5, .int .i64 (v % n))]) ?_ ?_
  · rcases hmod with hm | ⟨hm, hneg⟩
    · have k1 : Kn (decide (v.tmod n < 0)) false := .no (by omega)
      apply W.readS LO mixed [5, 10] (by kernel_rfl)
      · repeat' (first | rfl | with_reducible assumption | assumption | constructor)
      intro w3 f3 s3 hf3
      replace hf3 : f3 = [(5, _), (10, _)] := hf3
      subst hf3
      refine W.cond (b := false) rfl (fun h => by cases h) (fun _ => W.skip ?_)
      exact N.cut ⟨s3, rfl⟩ (sub_keys (by rw [hm]; rfl))
    · have k1 : Kn (decide (v.tmod n < 0)) true := .yes hneg
      have k2 : Kn (IntKind.i64.wrap (v.tmod n + n)) (v % n) := .of (by rw [hm]; exact IntWalk.i64_in _ (by omega))
      apply W.readS LO mixed [0, 1, 5, 10] (by kernel_rfl)
      · repeat' (first | rfl | with_reducible assumption | assumption | constructor)
      intro w3 f3 s3 hf3
      replace hf3 : f3 = [(0, _), (1, _), (5, _), (10, _)] := hf3
      subst hf3
      refine W.cond (b := true) rfl (fun _ => ?_) (fun h => by cases h)
      apply W.readN LO mixed [5] (by kernel_rfl)
      · repeat' (first | rfl | with_reducible assumption | assumption | constructor)
      intro w4 f4 s4 hf4
      replace hf4 : f4 = [(5, _)] := hf4
      subst hf4
      exact N.cut ⟨s3.trans s4, rfl⟩ (sub_keys rfl)
  · rintro w3 _ ⟨s3, rfl⟩
    apply W.readS LO mixed [4] (by kernel_rfl)
    · repeat' (first | rfl | with_reducible assumption | assumption | constructor)
    intro w4 f4 s4 hf4
    replace hf4 : f4 = [(4, _)] := hf4
    subst hf4
    exact W.ret (post LO (rs := [.tmp 4]) rfl (vs := [.int .i64 _]) (.tmp rfl .nil) ⟨rfl, ((s1.trans s2).trans s3).trans s4⟩)

theorem own_slice {w : World} {e : TypeId} {v : Value} {xs : List Value} (h : Own w e v xs) : ∃ a c, v = .slice a xs.length c ∧ xs.length ≤ c ∧ (a = none → xs = [] ∧ c = 0) ∧ ∀ b, a = some b → b = ⟨b.block, 0, none⟩ ∧ v.ownBlock = some b.block := by
  rcases h.2 with ⟨rfl, hn⟩ | ⟨g, cap, cur, rfl, hb, hg, hnc, _⟩
  · refine ⟨none, 0, by rw [hn], by omega, fun _ => ⟨List.eq_nil_of_length_eq_zero hn, rfl⟩, fun b hb => by cases hb⟩
  · exact ⟨some ⟨g, 0, none⟩, cap, rfl, hnc, (fun h => by cases h), fun b hb => by cases hb; exact ⟨rfl, rfl⟩⟩
def Yes (w : World) (e : Ending) (w' : World) : Prop := e = .returned (.bool true) ∧ Mv (fun _ => False) w w'
theorem Rd.nil (w : World) (z : Nat) : Rd w z (.slice none 0 0) 0 [] := ⟨none, 0, rfl, Nat.le_refl _, fun _ => ⟨rfl, rfl⟩, by simp, fun j u hj => by simp at hj⟩
/-- A new row reads as what it was made of. -/
theorem Rd.new {w : World} {b T z n : Nat} {cells : List Value} (h : w.heap[b]? = some (.cells cells.toArray T (0, 0))) (hl : cells.length = n * z) : Rd w z (.slice (some ⟨b, 0, none⟩) n n) n cells := by
  refine ⟨_, _, rfl, Nat.le_refl _, fun h => (by cases h), hl, fun j u hj => ⟨b, 0, rfl, ?_⟩⟩
  unfold World.cell?
  simp only [h]
  rw [Nat.zero_add, List.getElem?_toArray]
  exact hj
def S0 : SetV := ⟨false, .slice none 0 0, []⟩
theorem und_rules : Try.prog.underlying 22 = some (.slice 37) := by kernel_rfl
theorem und_nets : Try.prog.underlying 29 = some (.slice 48) := by kernel_rfl
theorem und_spans : Try.prog.underlying 32 = some (.slice 50) := by kernel_rfl
theorem info_net : ∃ i, Try.prog.info? 48 = some i ∧ i.zero = some (.agg #[.int .u32 0, .int .i64 0]) ∧ i.size = 2 ∧ i.bytes = 16 := info_parts (by kernel_rfl)
theorem info_span : ∃ i, Try.prog.info? 50 = some i ∧ i.zero = some (.agg #[.int .i64 0, .int .i64 0]) ∧ i.size = 2 ∧ i.bytes = 16 := info_parts (by kernel_rfl)
theorem info_rule : ∃ i, Try.prog.info? 37 = some i ∧ i.zero = some (.agg zRule.toArray) ∧ i.size = 15 := by
  have h : (Try.prog.info? 37).map (fun i => (i.zero, i.size)) = some (some (.agg zRule.toArray), 15) := by kernel_rfl
  obtain ⟨i, hi, e⟩ := Option.map_eq_some_iff.1 h
  injection e with e1 e2
  exact ⟨i, hi, e1, e2⟩
def awR (b : Nat) : RuleV := ⟨1, 0, S0, S0, S0, ⟨false, .slice (some ⟨b, 0, none⟩) 1 1, [(80, 80)]⟩, false, 0, .slice none 0 0, 1, 1⟩
def awT : TupV := ⟨6, 1, 2, 5, 80⟩
theorem aw_1 (b : Nat) : (awR b).fits awT 0 = true := by kernel_rfl
theorem aw_2 (b : Nat) : (awR b).fits awT 1 = false := by kernel_rfl
theorem aw_3 (b : Nat) : pickN awT 0 [awR b, awR b] 0 = [0, 1] := by
  simp only [pickN, aw_1, if_true]
  rfl
set_option maxRecDepth 100000 in
set_option maxHeartbeats 4000000 in
theorem awake_walk (w : World) : Calls Try.prog 8 #[] w (Yes w) := by
  obtain ⟨iS, hiS, hzS, hsS, _⟩ := info_span
  obtain ⟨iR, hiR, hzR, hsR⟩ := info_rule
  refine calls_W (n := 26) (vs := []) Try.func8 rfl rfl rfl ?_
  apply W.readS LO mixed [0] (by kernel_rfl)
  · repeat' (first | rfl | with_reducible assumption | assumption | constructor)
  intro w1 f1 s1 hf1
  replace hf1 : f1 = [(0, _)] := hf1
  subst hf1
  refine W.seq (W.list ?_)
  apply Ls.runK LO [3] 1
  · repeat' (first | rfl | with_reducible assumption | assumption | constructor)
  intro w2 f2 s2 hf2
  replace hf2 : f2 = [(3, _)] := hf2
  subst hf2
  refine Ls.buildZ [(.agg (scs (80, 80)).toArray, scs (80, 80))] rfl rfl rfl rfl und_spans hiS hzS hsS rfl rfl rfl rfl rfl rfl (fun p hp => by obtain rfl := List.mem_singleton.1 hp; exact ⟨rfl, rfl⟩) ?_
  have hb3 := heap_alloc_new w2 (.cells (scs (80, 80)).toArray 50)
  have m3 : Mv (fun _ => False) w2 (w2.alloc (.cells (scs (80, 80)).toArray 50)) := (Mv.refl _ w2).alloc _
  show Ls Try.prog 26 _ _ _ (w2.alloc (.cells (scs (80, 80)).toArray 50)) _
  generalize w2.alloc (.cells (scs (80, 80)).toArray 50) = w3 at hb3 m3
  obtain ⟨b, hb⟩ : ∃ b, b = w2.heap.size := ⟨_, rfl⟩
  rw [← hb] at hb3
  rw [← hb]
  have m3 : Mv (fun _ => False) w w3 := (((Mv.refl _ w).same s1).same s2).trans m3
  have hR : RuleAt w3 (awR b) := ⟨Rd.nil _ _, Rd.nil _ _, Rd.nil _ _, Rd.new hb3 rfl, ⟨_, _, _, rfl⟩, (show 0 ≤ 1000000000 by decide), (show 0 ≤ 1000000000 by decide), (show 0 ≤ 1000000000 by decide), (show 1 ≤ 1000000000 by decide)⟩
  clear s1 s2 hb3
  apply Ls.runK LO [6] 2
  · repeat' (first | rfl | with_reducible assumption | assumption | constructor)
  intro w4 f4 s4 hf4
  replace hf4 : f4 = [(6, _)] := hf4
  subst hf4
  have m4 := m3.same s4
  have hR := hR.moved ((Mv.refl _ w3).same s4)
  refine Ls.alloc LO rfl rfl rfl rfl (zs := zRule) rfl ?_
  have hb5 := heap_alloc_new w4 (.cells zRule.toArray 37)
  have m5 : Mv (fun _ => False) w4 (w4.alloc (.cells zRule.toArray 37)) := (Mv.refl _ w4).alloc _
  generalize w4.alloc (.cells zRule.toArray 37) = w5 at hb5 m5
  obtain ⟨p, hp⟩ : ∃ p, p = w4.heap.size := ⟨_, rfl⟩
  rw [← hp] at hb5
  rw [← hp]
  refine Ls.store LO rfl rfl rfl rfl rfl (vs := (awR b).cs) rfl rfl rfl hb5 rfl ?_
  intro w6 hb6 m6 _
  have hb6 : BX w6 p 37 (awR b).cs := hb6
  have m46 : Mv (fun _ => False) w4 w6 := m5.cut m6 fun k hk e => by omega
  have hR := hR.moved m46
  have m6 := m4.trans m46
  clear m3 s4 m4 hb5 m5 m46 hp
  refine Ls.nil (N.to ?_)
  refine W.seq (W.list ?_)
  apply Ls.runK LO [1, 7] 1
  · repeat' (first | rfl | with_reducible assumption | assumption | constructor)
  intro w7 f7 s7 hf7
  replace hf7 : f7 = [(1, _), (7, _)] := hf7
  subst hf7
  refine Ls.alloc LO rfl rfl rfl rfl (zs := [.int .i64 0, .int .u32 0, .int .u32 0, .int .i64 0, .int .i64 0]) rfl ?_
  have hb8 := heap_alloc_new w7 (.cells [Value.int .i64 0, .int .u32 0, .int .u32 0, .int .i64 0, .int .i64 0].toArray 25)
  have m8 : Mv (fun _ => False) w7 (w7.alloc (.cells [Value.int .i64 0, .int .u32 0, .int .u32 0, .int .i64 0, .int .i64 0].toArray 25)) := (Mv.refl _ w7).alloc _
  generalize w7.alloc (.cells [Value.int .i64 0, .int .u32 0, .int .u32 0, .int .i64 0, .int .i64 0].toArray 25) = w8 at hb8 m8
  obtain ⟨q, hq⟩ : ∃ q, q = w7.heap.size := ⟨_, rfl⟩
  rw [← hq] at hb8
  rw [← hq]
  refine Ls.store LO rfl rfl rfl rfl rfl (vs := awT.cs) rfl rfl rfl hb8 rfl ?_
  intro w9 hb9 m9 _
  have hq9 : BX w9 q 25 awT.cs := hb9
  have m79 : Mv (fun _ => False) w7 w9 := m8.cut m9 fun k hk e => by omega
  have m69 := ((Mv.refl (fun _ => False) w6).same s7).trans m79
  have hR := hR.moved m69
  have hp9 := hb6.moved m69 (fun e => e)
  have m9 := m6.trans m69
  clear hb6 s7 hb8 m8 hb9 m79 m69 m6 hq
  refine Ls.nil (N.to ?_)
  refine W.seq (W.list ?_)
  have d1 : CellsAt w9 p 0 15 (awR b).cs := hp9.cells
  have d2 : CellsAt w9 q 0 5 awT.cs := hq9.cells
  apply Ls.runK LO [1, 2, 8, 9] 2
  · repeat' (first | rfl | with_reducible assumption | assumption | constructor)
  intro w10 f10 s10 hf10
  replace hf10 : f10 = [(1, _), (2, _), (8, _), (9, _)] := hf10
  subst hf10
  have m10 := m9.same s10
  refine Ls.call LO rfl rfl rfl rfl rfl (vs := [.agg (awR b).cs.toArray, .agg awT.cs.toArray, .int .i64 0]) rfl (fits_walk (awR b) awT 0 w10 (hR.moved ((Mv.refl _ w9).same s10))) ?_
  rintro _ w11 ⟨rfl, m11⟩
  refine ⟨_, rfl, ?_⟩
  rw [aw_1]
  have m11' := ((Mv.refl (fun _ => False) w9).same s10).trans m11
  have hR11 := hR.moved m11'
  have hp11 := hp9.moved m11' (fun e => e)
  have hq11 := hq9.moved m11' (fun e => e)
  have m11 := m9.trans m11'
  clear d1 d2 m10 m11' hp9 hq9 hR m9 s10
  have d1 : CellsAt w11 p 0 15 (awR b).cs := hp11.cells
  have d2 : CellsAt w11 q 0 5 awT.cs := hq11.cells
  apply Ls.runK LO [1, 2, 11, 12, 13] 3
  · repeat' (first | rfl | with_reducible assumption | assumption | constructor)
  intro w12 f12 s12 hf12
  replace hf12 : f12 = [(1, _), (2, _), (11, _), (12, _), (13, _)] := hf12
  subst hf12
  have m12 := m11.same s12
  refine Ls.call LO rfl rfl rfl rfl rfl (vs := [.agg (awR b).cs.toArray, .agg awT.cs.toArray, .int .i64 1]) rfl (fits_walk (awR b) awT 1 w12 (hR11.moved ((Mv.refl _ w11).same s12))) ?_
  rintro _ w13 ⟨rfl, m13⟩
  refine ⟨_, rfl, ?_⟩
  rw [aw_2]
  have m13' := ((Mv.refl (fun _ => False) w11).same s12).trans m13
  have hR13 := hR11.moved m13'
  have hp13 := hp11.moved m13' (fun e => e)
  have hq13 := hq11.moved m13' (fun e => e)
  have m13 := m11.trans m13'
  clear d1 d2 m12 m13' hp11 hq11 hR11 m11 s12
  have d1 : CellsAt w13 p 0 15 (awR b).cs := hp13.cells
  apply Ls.runK LO [2, 17, 18, 19] 5
  · repeat' (first | rfl | with_reducible assumption | assumption | constructor)
  intro w14 f14 s14 hf14
  replace hf14 : f14 = [(2, _), (17, _), (18, _), (19, _)] := hf14
  subst hf14
  refine Ls.buildZ [(.agg (awR b).cs.toArray, (awR b).cs), (.agg (awR b).cs.toArray, (awR b).cs)] rfl rfl rfl rfl und_rules hiR hzR hsR rfl rfl rfl rfl rfl rfl (fun p hp => by
    simp only [List.mem_cons, List.not_mem_nil, or_false] at hp
    rcases hp with rfl | rfl <;> exact ⟨rfl, rfl⟩) ?_
  have hb15 := heap_alloc_new w14 (.cells ([awR b, awR b].flatMap RuleV.cs).toArray 37)
  have m15 : Mv (fun _ => False) w14 (w14.alloc (.cells ([awR b, awR b].flatMap RuleV.cs).toArray 37)) := (Mv.refl _ w14).alloc _
  show Ls Try.prog 26 _ _ _ (w14.alloc (.cells ([awR b, awR b].flatMap RuleV.cs).toArray 37)) _
  generalize w14.alloc (.cells ([awR b, awR b].flatMap RuleV.cs).toArray 37) = w15 at hb15 m15
  obtain ⟨y, hy⟩ : ∃ y, y = w14.heap.size := ⟨_, rfl⟩
  rw [← hy] at hb15
  rw [← hy]
  have m15' := ((Mv.refl (fun _ => False) w13).same s14).trans m15
  have hR15 := hR13.moved m15'
  have hq15 := hq13.moved m15' (fun e => e)
  have m15 := m13.trans m15'
  have d2 : CellsAt w15 q 0 5 awT.cs := hq15.cells
  apply Ls.runK LO [17, 20, 21] 1
  · repeat' (first | rfl | with_reducible assumption | assumption | constructor)
  intro w16 f16 s16 hf16
  replace hf16 : f16 = [(17, _), (20, _), (21, _)] := hf16
  subst hf16
  have hRs : RulesAt w16 (.slice (some ⟨y, 0, none⟩) 2 2) [awR b, awR b] := RulesAt.moved (w := w15) ⟨Rd.new hb15 rfl, fun r hr => by
    simp only [List.mem_cons, List.not_mem_nil, or_false] at hr
    rcases hr with rfl | rfl <;> exact hR15⟩ ((Mv.refl _ w15).same s16)
  have m16 := m15.same s16
  refine Ls.call LO rfl rfl rfl rfl rfl (vs := [.slice (some ⟨y, 0, none⟩) 2 2, .agg awT.cs.toArray, .int .i64 0]) rfl (pick_walk _ [awR b, awR b] awT 0 w16 hRs (show 2 ≤ 1000000 by decide)) ?_
  rintro _ w17 ⟨v', rfl, ho, _, m17⟩
  refine ⟨_, rfl, ?_⟩
  rw [aw_3] at ho
  obtain ⟨a, c, hv, _, _, _⟩ := own_slice ho
  subst hv
  apply Ls.runK LO [0] 4
  · repeat' (first | rfl | with_reducible assumption | assumption | constructor)
  intro w18 f18 s18 hf18
  replace hf18 : f18 = [(0, _)] := hf18
  subst hf18
  exact Ls.nil (N.to (W.ret (post LO (rs := [.tmp 0]) rfl (vs := [.bool true]) (.tmp rfl .nil) ⟨rfl, (m16.trans m17).same s18⟩)))
end Go.Proofs.Ytbbafhpnlmmjjaa
