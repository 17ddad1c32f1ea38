/- What is proved: the reference's table: whole, bytes, drop, ticks. Conditions: those that stand in each theorem. -/
import Derived.Test.YtnghmaejmfhigaaDefRef1
namespace Go.Proofs.Ytnghmaejmfhigaa
set_option linter.unusedVariables false
set_option linter.unusedSimpArgs false
set_option linter.unusedSectionVars false
open Go.RowKit Go.Maps Go.MapKept Go.ChangeMaps Fw
def RE.ev (now : Int) (x : RE) : EV := ⟨x.parts, if x.all < 0 then 0 else x.all, now - x.at_⟩
def rv (now : Int) (x : RE) : KeyV × EV := (x.key, x.ev now)
/-- What holds of an entry. -/
structure ROk (x : RE) : Prop where
  all : x.all = -1 ∨ (1 ≤ x.all ∧ x.all ≤ 2000 ∧ ∀ q ∈ x.parts, q.1 < x.all)
  ge : ∀ q ∈ x.parts, 0 ≤ q.1 ∧ q.1 ≤ 2000
  nd : (x.parts.map (·.1)).Nodup
theorem ROk.few {x : RE} (h : ROk x) : x.parts.length ≤ 2001 := by
  have := nodup_count 2001 (x.parts.map (·.1)) 0 h.nd (fun y hy => by
    obtain ⟨q, hq, rfl⟩ := List.mem_map.1 hy
    have := h.ge q hq
    omega)
  rwa [List.length_map] at this
theorem ROk.le {x : RE} (h : ROk x) (h1 : 0 ≤ x.all) : (x.parts.length : Int) ≤ x.all := by
  rcases h.all with e | ⟨e1, _, e3⟩
  · omega
  · have := nodup_count x.all.toNat (x.parts.map (·.1)) 0 h.nd (fun y hy => by
      obtain ⟨q, hq, rfl⟩ := List.mem_map.1 hy
      have := h.ge q hq
      have := e3 q hq
      omega)
    rw [List.length_map] at this
    omega
set_option maxRecDepth 100000 in
set_option maxHeartbeats 4000000 in
theorem rwhole_walk (g o : Nat) (x : RE) (now : Int) (w : World) (h : ER w g o x) (hg : g < w.heap.size) (ok : ROk x) :
    Calls Try.prog 26 #[.pointer (some ⟨g, o, none⟩)] w (WholePost (x.ev now) w) := by
  have hfew := ok.few
  refine calls_W (n := 79) (vs := [.pointer (some ⟨g, o, none⟩)]) Try.func26 rfl rfl rfl ?_
  apply W.readS LO mixed [0] (by kernel_rfl)
  · repeat' (first | rfl | with_reducible assumption | assumption | constructor)
  intro w1 f1 s1 hf1
  replace hf1 : f1 = [(0, _)] := hf1
  subst hf1
  have h1 := h.same s1
  have m1 : Mv (fun _ => False) w w1 := (Mv.refl _ w).same s1
  obtain ⟨al, cl, hlv, hlc, _, hblk⟩ := h1.p.slice
  by_cases hno : x.all < 0 ∨ (x.parts.length : Int) < x.all
  · have hw : (x.ev now).whole = none := by
      unfold EV.whole RE.ev
      rw [if_pos]
      simp only
      rcases hno with e | e
      · left; rw [if_pos e]
      · by_cases e2 : x.all < 0
        · left; rw [if_pos e2]
        · right; rw [if_neg e2]; exact e
    refine W.cutS (fun _ _ => False) ?_ (fun _ _ h => h.elim)
    refine W.cutS (fun w' f => Same w1 w' ∧ f = [(23, .bool true)]) ?_ ?_
    · obtain ⟨c4, c5, c6⟩ := h1.cls
      rw [hlv] at c4
      by_cases h0 : x.all < 0
      · have k1 : Kn (decide (x.all < 0)) true := .yes h0
        apply W.readN LO mixed [23] (by kernel_rfl)
        · repeat' (first | rfl | with_reducible assumption | assumption | constructor)
        intro w2 f2 s2 hf2
        replace hf2 : f2 = [(23, _)] := hf2
        subst hf2
        exact N.cut ⟨s2, rfl⟩ (sub_keys rfl)
      · have k1 : Kn (decide (x.all < 0)) false := .no h0
        have k2 : Kn (decide ((x.parts.length : Int) < x.all)) true := .yes (by omega)
        apply W.readN LO mixed [23] (by kernel_rfl)
        · repeat' (first | rfl | with_reducible assumption | assumption | constructor)
        intro w2 f2 s2 hf2
        replace hf2 : f2 = [(23, _)] := hf2
        subst hf2
        exact N.cut ⟨s2, rfl⟩ (sub_keys rfl)
    rintro w2 _ ⟨s2, rfl⟩
    refine W.cond (b := true) rfl (fun _ => ?_) (fun h => by cases h)
    apply W.readS LO mixed [2, 3] (by kernel_rfl)
    · repeat' (first | rfl | with_reducible assumption | assumption | constructor)
    intro w3 f3 s3 hf3
    replace hf3 : f3 = [(2, _), (3, _)] := hf3
    subst hf3
    refine W.ret (N.thenR (post (fn := Try.f26) (R := WholePost (x.ev now) w) LO (rs := [.tmp 2, .tmp 3]) rfl (vs := [.string ⟨#[]⟩, .bool false]) (.tmp rfl (.tmp rfl .nil)) ⟨?_, (m1.same s2).same s3⟩))
    rw [hw]; rfl
  have hall0 : ¬ x.all < 0 := fun e => hno (.inl e)
  have hle := ok.le (by omega)
  have hlen : (x.parts.length : Int) = x.all := by omega
  have hrng : ∀ q ∈ x.parts, 0 ≤ q.1 ∧ q.1 < x.all := fun q hq => by
    rcases ok.all with e | ⟨_, _, e⟩
    · omega
    · exact ⟨(ok.ge q hq).1, e q hq⟩
  obtain ⟨n, hn⟩ : ∃ n : Nat, x.all = n := ⟨x.all.toNat, by omega⟩
  refine W.cutS (fun w' f => Same w1 w' ∧ f = [(0, .pointer (some ⟨g, o, none⟩))]) ?_ ?_
  · obtain ⟨c4, c5, c6⟩ := h1.cls
    rw [hlv] at c4
    have k1 : Kn (decide (x.all < 0)) false := .no hall0
    have k2 : Kn (decide ((x.parts.length : Int) < x.all)) false := .no (by omega)
    apply W.readS LO mixed [0, 23] (by kernel_rfl)
    · repeat' (first | rfl | with_reducible assumption | assumption | constructor)
    intro w2 f2 s2 hf2
    replace hf2 : f2 = [(0, _), (23, _)] := hf2
    subst hf2
    refine W.cond (b := false) rfl (fun h => by cases h) (fun _ => W.skip ?_)
    exact N.cut ⟨s2, rfl⟩ (sub_keys rfl)
  rintro w2 _ ⟨s2, rfl⟩
  have h2 := h1.same s2
  refine W.seq (W.list ?_)
  obtain ⟨c4, c5, c6⟩ := h2.cls
  rw [hn] at c5
  apply Ls.runK LO [0, 27] 4
  · repeat' (first | rfl | with_reducible assumption | assumption | constructor)
  intro w3 f3 s3 hf3
  replace hf3 : f3 = [(0, _), (27, _)] := hf3
  subst hf3
  have h3 := h2.same s3
  refine Ls.makeSlice rfl rfl rfl rfl rfl info_sl8 info_u8 rfl (by omega) (by omega) ?_
  have hb4 := heap_alloc_new w3 (.cells (List.replicate n (Value.int .u8 0)).toArray 5)
  have m4 : Mv (fun _ => False) w3 (w3.alloc (.cells (List.replicate n (Value.int .u8 0)).toArray 5)) := (Mv.refl _ w3).alloc _
  generalize w3.alloc (.cells (List.replicate n (Value.int .u8 0)).toArray 5) = w4 at hb4 m4
  obtain ⟨r, hr⟩ : ∃ r, r = w3.heap.size := ⟨_, rfl⟩
  rw [← hr] at hb4
  rw [← hr]
  have hrw : w.heap.size = r := by rw [hr, s3.heap, s2.heap, s1.heap]
  have hplt : ∀ k, x.lv.ownBlock = some k → k < r := fun k hk => by rw [← hrw]; exact h.p.lt k hk
  have h4 := h3.moved m4 (fun e => e) (fun _ _ e => e)
  have mv4 : Mv (fun _ => False) w w4 := ((m1.same s2).same s3).trans m4
  clear h3 m4 c4 c5 c6 h2 s2 s3 hr m1 s1 h1
  apply Ls.runK LO [0, 4] 1
  · repeat' (first | rfl | with_reducible assumption | assumption | constructor)
  intro w5 f5 s5 hf5
  replace hf5 : f5 = [(0, _), (4, _)] := hf5
  subst hf5
  refine Ls.nil (N.to ?_)
  have h5 := h4.same s5
  have hb5 : w5.heap[r]? = some (.cells (List.replicate n (Value.int .u8 0)).toArray 5 (0, 0)) := by rw [s5.heap]; exact hb4
  have mv5 := mv4.same s5
  clear h4 hb4 mv4 s5
  apply W.readS LO mixed [0, 4, 5] (by kernel_rfl)
  · repeat' (first | rfl | with_reducible assumption | assumption | constructor)
  intro w6 f6 s6 hf6
  replace hf6 : f6 = [(0, _), (4, _), (5, _)] := hf6
  subst hf6
  have h6 := h5.same s6
  rw [← s6.heap] at hb5
  have mv6 := mv5.same s6
  clear h5 mv5 s6
  refine W.cutS (fun w' f => (∃ ys : List Int, ys.length = n ∧ (∀ j : Nat, j < n → ys[j]? = some ((x.parts.lookup (j : Int)).getD 0)) ∧ w'.heap[r]? = some (.cells (ys.map (Value.int .u8)).toArray 5 (0, 0)) ∧ ER w' g o x ∧ Mv (fun _ => False) w w') ∧ f = [(0, .pointer (some ⟨g, o, none⟩)), (4, .slice (some ⟨r, 0, none⟩) n n), (5, .int .i64 x.parts.length)]) ?_ ?_
  ·
    apply W.readS LO mixed [0, 4, 5, 6] (by kernel_rfl)
    · repeat' (first | rfl | with_reducible assumption | assumption | constructor)
    intro w7 f7 s7 hf7
    replace hf7 : f7 = [(0, _), (4, _), (5, _), (6, _)] := hf7
    subst hf7
    refine W.block (W.loop (fun k w' f => ∃ (i : Nat) (ys : List Int), k + i = x.parts.length ∧ ys.length = n ∧ (∀ j : Nat, j < n → ys[j]? = some (((x.parts.take i).lookup (j : Int)).getD 0)) ∧ w'.heap[r]? = some (.cells (ys.map (Value.int .u8)).toArray 5 (0, 0)) ∧ ER w' g o x ∧ Mv (fun _ => False) w w' ∧
      f = [(0, .pointer (some ⟨g, o, none⟩)), (4, .slice (some ⟨r, 0, none⟩) n n), (5, .int .i64 i), (6, .int .i64 i)]) x.parts.length _ ⟨0, List.replicate n 0, rfl, by simp, fun j hj => by rw [List.getElem?_replicate, if_pos hj]; rfl, by rw [s7.heap, hb5, List.map_replicate], h6.same s7, mv6.same s7, rfl⟩ (sub_keys rfl) ?_)
    clear h6 hb5 mv6 s7
    rintro k w8 _ ⟨i, ys, hk, hys, hj, hb8, h8, mv8, rfl⟩
    obtain ⟨c4, c5, c6⟩ := h8.cls
    by_cases hlt : i < x.parts.length
    · have k1 : Kn (decide ((i : Int) < (x.parts.length : Int))) true := .yes (by omega)
      have c4' := c4
      rw [hlv] at c4'
      refine W.seq ?_
      apply W.readS LO mixed [0, 4, 5, 6, 35] (by kernel_rfl)
      · repeat' (first | rfl | with_reducible assumption | assumption | constructor)
      intro w9 f9 s9 hf9
      replace hf9 : f9 = [(0, _), (4, _), (5, _), (6, _), (35, _)] := hf9
      subst hf9
      have h9 := h8.same s9
      refine W.cond (b := true) rfl (fun _ => W.skip (N.to ?_)) (fun h => by cases h)
      clear c4 c4' c5 c6
      obtain ⟨p, hp⟩ : ∃ p, x.parts[i]? = some p := ⟨_, List.getElem?_eq_getElem hlt⟩
      have hpr := hrng p (List.mem_of_getElem? hp)
      refine W.cutS (fun w' f => (∃ ys : List Int, ys.length = n ∧ (∀ j : Nat, j < n → ys[j]? = some (((x.parts.take (i + 1)).lookup (j : Int)).getD 0)) ∧ w'.heap[r]? = some (.cells (ys.map (Value.int .u8)).toArray 5 (0, 0)) ∧ ER w' g o x ∧ Mv (fun _ => False) w w') ∧ f = [(0, .pointer (some ⟨g, o, none⟩)), (4, .slice (some ⟨r, 0, none⟩) n n), (5, .int .i64 (i + 1 : Nat)), (6, .int .i64 i)]) ?_ ?_
      · refine W.block ?_
        have i0 : (0 : Int) ≤ (i : Int) := by omega
        have i1 : (i : Int) < (x.parts.length : Int) := by omega
        have k2 : Kn (decide (p.1 < x.all)) true := .yes hpr.2
        obtain ⟨c4, c5, c6⟩ := h9.cls
        obtain ⟨gp, cp, hv, _, p0, p1⟩ := h9.part hp
        rw [hv] at c4
        apply W.readS LO mixed [0, 4, 5, 6, 50] (by kernel_rfl)
        · repeat' (first | rfl | with_reducible assumption | assumption | constructor)
        intro w10 f10 s10 hf10
        replace hf10 : f10 = [(0, _), (4, _), (5, _), (6, _), (50, _)] := hf10
        subst hf10
        have h10 := h9.same s10
        refine W.cond (b := true) rfl (fun _ => ?_) (fun h => by cases h)
        clear c4 c5 c6 p0 p1
        obtain ⟨c4, c5, c6⟩ := h10.cls
        obtain ⟨gp', cp', hv', _, p0, p1⟩ := h10.part hp
        rw [hv'] at c4
        have j0 : (0 : Int) ≤ p.1 := hpr.1
        have j1 : p.1 < (n : Int) := by omega
        refine W.seq ?_
        apply W.tailK LO mixed [0, 4, 5, 6, 51, 59, 67] 17 (by kernel_rfl)
        · repeat' (first | rfl | with_reducible assumption | assumption | constructor)
        intro w11 f11 s11 hf11
        replace hf11 : f11 = [(0, _), (4, _), (5, _), (6, _), (51, _), (59, _), (67, _)] := hf11
        subst hf11
        have h11 := h10.same s11
        have hb11 : w11.heap[r]? = some (.cells (ys.map (Value.int .u8)).toArray 5 (0, 0)) := by rw [s11.heap, s10.heap, s9.heap]; exact hb8
        apply Ls.runK LO [0, 4, 5, 6, 67, 68] 1
        · repeat' (first | rfl | with_reducible assumption | assumption | constructor)
        intro w11b f11b s11b hf11b
        replace hf11b : f11b = [(0, _), (4, _), (5, _), (6, _), (67, _), (68, _)] := hf11b
        subst hf11b
        have h11 := h11.same s11b
        rw [← s11b.heap] at hb11
        have ei : 0 + p.1.toNat * 1 = p.1.toNat := by omega
        refine Ls.store LO rfl rfl rfl rfl rfl (vs := [.int .u8 p.2]) rfl rfl rfl hb11 (by rw [ei]; exact Nat.ble_eq_true_of_le (by simp [hys]; omega)) ?_
        intro w12 hb12 m12 _
        refine Ls.nil (N.to ?_)
        have h12 := h11.moved m12 (by omega) (fun k hk e => by have := hplt k hk; omega)
        have k3 : Kn (IntKind.i64.wrap ((i : Int) + 1)) ((i + 1 : Nat) : Int) := .of (IntWalk.i64_in _ (by omega))
        apply W.readN LO mixed [0, 4, 5, 6] (by kernel_rfl)
        · repeat' (first | rfl | with_reducible assumption | assumption | constructor)
        intro w13 f13 s13 hf13
        replace hf13 : f13 = [(0, _), (4, _), (5, _), (6, _)] := hf13
        subst hf13
        refine N.inb (N.cut ⟨⟨ys.set p.1.toNat p.2, by simp [hys], fun j hj' => ?_, ?_, h12.same s13, ?_⟩, rfl⟩ (sub_keys rfl))
        · have htk : x.parts.take (i + 1) = x.parts.take i ++ [p] := by
            rw [List.take_add_one, hp]; rfl
          rw [htk, lookup_append, lookup_one]
          by_cases hjp : (j : Int) = p.1
          · have hnone : (x.parts.take i).lookup (j : Int) = none := by
              rw [lookup_none]
              intro q hq e
              obtain ⟨a, ha, rfl⟩ := List.mem_iff_getElem.1 hq
              rw [List.length_take] at ha
              rw [List.getElem_take] at e
              have hnd := List.pairwise_iff_getElem.1 (List.pairwise_map.1 ok.nd) a i (by omega) hlt (by omega)
              have := (List.getElem?_eq_some_iff.1 hp).2
              rw [this] at hnd
              exact hnd (e.trans hjp)
            rw [hnone, if_pos hjp, show p.1.toNat = j by omega, List.getElem?_set_self (by omega)]
            rfl
          · rw [if_neg hjp, List.getElem?_set_ne (by omega), hj j hj']
            simp
        · rw [s13.heap, hb12, ei, wr_one _ _ _ (by simp [hys]; omega), List.map_set]
        · exact ((((mv8.same s9).same s10).same s11).same s11b |>.cut m12 fun k hk e => by omega).same s13
      · rintro w10 _ ⟨⟨ys', hys', hj', hb10, h10, mv10⟩, rfl⟩
        have k5 : Kn (IntKind.i64.wrap ((i : Int) + 1)) ((i + 1 : Nat) : Int) := .of (IntWalk.i64_in _ (by omega))
        apply W.readN LO mixed [0, 4, 5, 6] (by kernel_rfl)
        · repeat' (first | rfl | with_reducible assumption | assumption | constructor)
        intro w11 f11 s11 hf11
        replace hf11 : f11 = [(0, _), (4, _), (5, _), (6, _)] := hf11
        subst hf11
        exact N.round (k - 1) _ (by omega) ⟨i + 1, ys', by omega, hys', hj', by rw [s11.heap]; exact hb10, h10.same s11, mv10.same s11, rfl⟩ (sub_keys rfl)
    · have k1 : Kn (decide ((i : Int) < (x.parts.length : Int))) false := .no (by omega)
      rw [hlv] at c4
      refine W.seq ?_
      apply W.readS LO mixed [0, 4, 5, 35] (by kernel_rfl)
      · repeat' (first | rfl | with_reducible assumption | assumption | constructor)
      intro w9 f9 s9 hf9
      replace hf9 : f9 = [(0, _), (4, _), (5, _), (35, _)] := hf9
      subst hf9
      refine W.cond (b := false) rfl (fun h => by cases h) (fun _ => W.exit ?_)
      have hie : i = x.parts.length := by omega
      subst hie
      refine N.thenE (N.thenE (N.out (N.cut ⟨⟨ys, hys, fun j hjn => ?_, by rw [s9.heap]; exact hb8, h8.same s9, mv8.same s9⟩, rfl⟩ (sub_keys rfl))))
      rw [hj j hjn, List.take_length]
  rintro w7 _ ⟨⟨ys, hys, hj, hb7, h7, mv7⟩, rfl⟩
  have hcv := conv_bytes (P := Try.prog) (d := 9) (c := n) info_sl8 und_u8 und_str hb7 hys
  obtain ⟨c4, c5, c6⟩ := h7.cls
  have k3 : Kn ((x.parts.length : Int) == x.all) true := .of (by rw [hlen]; exact beq_self_eq_true _)
  apply W.readS LO mixed [2, 3] (by kernel_rfl)
  · repeat' (first | rfl | with_reducible assumption | assumption | constructor)
  intro w8 f8 s8 hf8
  replace hf8 : f8 = [(2, _), (3, _)] := hf8
  subst hf8
  refine W.ret (post (fn := Try.f26) (R := WholePost (x.ev now) w) LO (rs := [.tmp 2, .tmp 3]) rfl (vs := [.string (strOfNums ys), .bool true]) (.tmp rfl (.tmp rfl .nil)) ⟨?_, mv7.same s8⟩)
  have hall1 : x.all ≠ 0 := by rcases ok.all with e | e <;> omega
  have hw : (x.ev now).whole = some (strOfNums ys) := by
    unfold EV.whole RE.ev
    simp only
    rw [if_neg hall0, if_neg (by omega)]
    congr 2
    apply List.ext_getElem?
    intro j
    rw [hn, Int.toNat_natCast, List.getElem?_map]
    by_cases hjn : j < n
    · rw [List.getElem?_range hjn, hj j hjn]; rfl
    · rw [List.getElem?_eq_none (by simp; omega), List.getElem?_eq_none (by omega)]; rfl
  rw [hw]
  rfl
set_option maxRecDepth 100000 in
theorem rbytes_says (q : Nat) (vL : Value) (most ticks now : Int) (L : List RE) (w : World) (h : RTAt w q vL most ticks now L) (hl : L.length ≤ 1000) (ok : ∀ x ∈ L, ROk x) :
    Calls Try.prog 19 #[.pointer (some ⟨q, 0, none⟩)] w (Says w (.int .i64 (sumB (L.map (rv now))))) := by
  refine calls_W (n := 26) (vs := [.pointer (some ⟨q, 0, none⟩)]) Try.func19 rfl rfl rfl ?_
  apply W.readS LO mixed [0] (by kernel_rfl)
  · repeat' (first | rfl | with_reducible assumption | assumption | constructor)
  intro w1 f1 s1 hf1
  replace hf1 : f1 = [(0, _)] := hf1
  subst hf1
  apply W.readS LO mixed [0, 3] (by kernel_rfl)
  · repeat' (first | rfl | with_reducible assumption | assumption | constructor)
  intro w2 f2 s2 hf2
  replace hf2 : f2 = [(0, _), (3, _)] := hf2
  subst hf2
  refine W.cutS (fun w' f => Same w w' ∧ f = [(3, .int .i64 (sumB (L.map (rv now))))]) ?_ ?_
  ·
    apply W.readS LO mixed [0, 3, 4] (by kernel_rfl)
    · repeat' (first | rfl | with_reducible assumption | assumption | constructor)
    intro w3 f3 s3 hf3
    replace hf3 : f3 = [(0, _), (3, _), (4, _)] := hf3
    subst hf3
    refine W.block (W.loop (fun k w' f => ∃ i acc : Nat, k + i = L.length ∧ Same w w' ∧ acc + sumB ((L.drop i).map (rv now)) = sumB (L.map (rv now)) ∧ acc ≤ i * 2001 ∧ f = [(0, .pointer (some ⟨q, 0, none⟩)), (3, .int .i64 acc), (4, .int .i64 i)]) L.length _ ⟨0, 0, rfl, (s1.trans s2).trans s3, by simp, by omega, rfl⟩ (sub_keys rfl) ?_)
    rintro k w4 _ ⟨i, acc, hki, s4, hacc, hbd, rfl⟩
    have h4 := h.same s4
    obtain ⟨c0, c1, c2, c3⟩ := h4.cls
    obtain ⟨aL, cL, hvL, _, _, _⟩ := h4.row.slice
    by_cases hlt : i < L.length
    · have k1 : Kn (decide ((i : Int) < (L.length : Int))) true := .yes (by omega)
      have c3' := c3
      rw [hvL] at c3'
      refine W.seq ?_
      apply W.readS LO mixed [0, 3, 4, 11] (by kernel_rfl)
      · repeat' (first | rfl | with_reducible assumption | assumption | constructor)
      intro w5 f5 s5 hf5
      replace hf5 : f5 = [(0, _), (3, _), (4, _), (11, _)] := hf5
      subst hf5
      have h5 := h4.same s5
      refine W.cond (b := true) rfl (fun _ => W.skip (N.to ?_)) (fun h => by cases h)
      clear c0 c1 c2 c3 c3'
      obtain ⟨x, hx⟩ : ∃ x, L[i]? = some x := ⟨_, List.getElem?_eq_getElem hlt⟩
      have hfew := (ok x (List.mem_of_getElem? hx)).few
      obtain ⟨g, c, hv, hg, hnc, hE⟩ := h5.at hx
      obtain ⟨c0, c1, c2, c3⟩ := h5.cls
      rw [hv] at c3
      have i0 : (0 : Int) ≤ (i : Int) := by omega
      have i1 : (i : Int) < (L.length : Int) := by omega
      have ei : 0 + (i : Int).toNat * 7 = 0 + i * 7 := by omega
      obtain ⟨al, cl, hlv, _, _, _⟩ := hE.p.slice
      have c4 : Cl w5 ⟨g, 0 + (i : Int).toNat * 7 + 4, none⟩ (.slice al x.parts.length cl) := by rw [ei, ← hlv]; exact hE.cls.1
      have hdrop : L.drop i = x :: L.drop (i + 1) := by
        have := (List.getElem?_eq_some_iff.1 hx).2
        rw [List.drop_eq_getElem_cons hlt, this]
      have hsum : acc + x.parts.length + sumB ((L.drop (i + 1)).map (rv now)) = sumB (L.map (rv now)) := by
        rw [← hacc, hdrop]
        unfold sumB
        simp only [List.map_cons, List.sum_cons]
        show _ = acc + (x.parts.length + _)
        omega
      have k3 : Kn (IntKind.i64.wrap ((acc : Int) + (x.parts.length : Int))) ((acc + x.parts.length : Nat) : Int) := .of ((IntWalk.i64_in _ (by omega)).trans (by omega))
      refine W.cutS (fun w' f => Same w w' ∧ f = [(0, .pointer (some ⟨q, 0, none⟩)), (3, .int .i64 (acc + x.parts.length : Nat)), (4, .int .i64 i)]) ?_ ?_
      · refine W.block ?_
        apply W.readN LO mixed [0, 3, 4] (by kernel_rfl)
        · repeat' (first | rfl | with_reducible assumption | assumption | constructor)
        intro w6 f6 s6 hf6
        replace hf6 : f6 = [(0, _), (3, _), (4, _)] := hf6
        subst hf6
        exact N.inb (N.cut ⟨(s4.trans s5).trans s6, rfl⟩ (sub_keys rfl))
      rintro w6 _ ⟨s6, rfl⟩
      have k5 : Kn (IntKind.i64.wrap ((i : Int) + 1)) ((i + 1 : Nat) : Int) := .of (IntWalk.i64_in _ (by omega))
      apply W.readN LO mixed [0, 3, 4] (by kernel_rfl)
      · repeat' (first | rfl | with_reducible assumption | assumption | constructor)
      intro w7 f7 s7 hf7
      replace hf7 : f7 = [(0, _), (3, _), (4, _)] := hf7
      subst hf7
      exact N.round (k - 1) _ (by omega) ⟨i + 1, acc + x.parts.length, by omega, s6.trans s7, hsum, by omega, rfl⟩ (sub_keys rfl)
    · have k1 : Kn (decide ((i : Int) < (L.length : Int))) false := .no (by omega)
      rw [hvL] at c3
      refine W.seq ?_
      apply W.readS LO mixed [3, 11] (by kernel_rfl)
      · repeat' (first | rfl | with_reducible assumption | assumption | constructor)
      intro w5 f5 s5 hf5
      replace hf5 : f5 = [(3, _), (11, _)] := hf5
      subst hf5
      refine W.cond (b := false) rfl (fun h => by cases h) (fun _ => W.exit ?_)
      have he : acc = sumB (L.map (rv now)) := by
        rw [List.drop_eq_nil_iff.2 (by omega)] at hacc
        simpa [sumB] using hacc
      rw [he]
      exact N.thenE (N.thenE (N.out (N.cut ⟨s4.trans s5, rfl⟩ (sub_keys rfl))))
  rintro w3 _ ⟨s3, rfl⟩
  apply W.readS LO mixed [2] (by kernel_rfl)
  · repeat' (first | rfl | with_reducible assumption | assumption | constructor)
  intro w4 f4 s4 hf4
  replace hf4 : f4 = [(2, _)] := hf4
  subst hf4
  exact W.ret (post LO (rs := [.tmp 2]) rfl (vs := [.int .i64 _]) (.tmp rfl .nil) ⟨rfl, s3.trans s4⟩)
end Go.Proofs.Ytnghmaejmfhigaa
