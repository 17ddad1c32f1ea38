/- What is proved: all bytes of an entry, if they are there. Conditions: those that stand in each theorem. -/
import Derived.Test.YtnghmaejmfhigaaDefSmall
namespace Go.Proofs.Ytnghmaejmfhigaa
set_option linter.unusedVariables false
set_option linter.unusedSimpArgs false
set_option linter.unusedSectionVars false
open Go.RowKit Go.Maps Go.MapKept Go.ChangeMaps Fw
def EV.whole (e : EV) : Option ByteArray := if e.all = 0 ∨ (e.bytes.length : Int) < e.all then none else some (strOfNums ((List.range e.all.toNat).map fun j : Nat => (e.bytes.lookup (j : Int)).getD 0))
def WholePost (e : EV) (w : World) (en : Ending) (w' : World) : Prop := en = .returned (.tuple #[.string (e.whole.getD ⟨#[]⟩), .bool e.whole.isSome]) ∧ Mv (fun _ => False) w w'
theorem wr_one (cs : List Value) (k : Nat) (v : Value) (hk : k < cs.length) : wr cs k [v] = cs.set k v := by
  unfold wr
  simp only [List.length_singleton]
  rw [List.set_eq_take_append_cons_drop, if_pos hk]
  simp
set_option maxRecDepth 100000 in
set_option maxHeartbeats 2000000 in
theorem whole_walk (b m : Nat) (e : EV) (w : World) (h : EAt w b m e) (ha : 0 ≤ e.all ∧ e.all ≤ 100000) : Calls Try.prog 22 #[.pointer (some ⟨b, 0, none⟩)] w (WholePost e w) := by
  refine calls_W (n := 45) (vs := [.pointer (some ⟨b, 0, none⟩)]) Try.func22 rfl rfl rfl ?_
  apply W.readS LO mixed [0] (by kernel_rfl)
  · repeat' (first | rfl | with_reducible assumption | assumption | constructor)
  intro w1 f1 s1 hf1
  replace hf1 : f1 = [(0, _)] := hf1
  subst hf1
  have h1 := h.same s1
  have m1 : Mv (fun _ => False) w w1 := (Mv.refl _ w).same s1
  have hl := len_same (P := Try.prog) h1.map Try.underlying55
  by_cases hno : e.all = 0 ∨ (e.bytes.length : Int) < e.all
  · have hw : e.whole = none := by unfold EV.whole; rw [if_pos hno]
    refine W.cutS (fun _ _ => False) ?_ (fun _ _ h => h.elim)
    refine W.cutS (fun w' g => Same w1 w' ∧ g = [(22, .bool true)]) ?_ ?_
    · obtain ⟨c0, c1, c2⟩ := h1.blk.cls
      by_cases h0 : e.all = 0
      · have k1 : Kn (e.all == 0) true := .of (by rw [h0]; rfl)
        apply W.readN LO mixed [22] (by kernel_rfl)
        · repeat' (first | rfl | with_reducible assumption | assumption | constructor)
        intro w2 f2 s2 hf2
        replace hf2 : f2 = [(22, _)] := hf2
        subst hf2
        exact N.cut ⟨s2, rfl⟩ (sub_keys rfl)
      · have k1 : Kn (e.all == 0) false := .of (by rw [beq_eq_false_iff_ne]; exact h0)
        have k2 : Kn (decide ((e.bytes.length : Int) < e.all)) true := .yes (by omega)
        apply W.readN LO mixed [22] (by kernel_rfl)
        · repeat' (first | rfl | with_reducible assumption | assumption | constructor)
        intro w2 f2 s2 hf2
        replace hf2 : f2 = [(22, _)] := hf2
        subst hf2
        exact N.cut ⟨s2, rfl⟩ (sub_keys rfl)
    rintro w2 _ ⟨s2, rfl⟩
    refine W.cond (b := true) rfl (fun _ => ?_) (fun h => by cases h)
    apply W.readS LO mixed [2, 3] (by kernel_rfl)
    · repeat' (first | rfl | with_reducible assumption | assumption | constructor)
    intro w3 f3 s3 hf3
    replace hf3 : f3 = [(2, _), (3, _)] := hf3
    subst hf3
    refine W.ret (N.thenR (post (fn := Try.f22) (R := WholePost e w) LO (rs := [.tmp 2, .tmp 3]) rfl (vs := [.string ⟨#[]⟩, .bool false]) (.tmp rfl (.tmp rfl .nil)) ⟨?_, (m1.same s2).same s3⟩))
    rw [hw]; rfl
  have hall : e.all ≠ 0 := fun h => hno (.inl h)
  have hle : e.all ≤ (e.bytes.length : Int) := by omega
  obtain ⟨n, hn⟩ : ∃ n : Nat, e.all = n := ⟨e.all.toNat, by omega⟩
  refine W.cutS (fun w' g => Same w1 w' ∧ g = [(0, .pointer (some ⟨b, 0, none⟩))]) ?_ ?_
  · obtain ⟨c0, c1, c2⟩ := h1.blk.cls
    have k1 : Kn (e.all == 0) false := .of (by rw [beq_eq_false_iff_ne]; exact hall)
    have k2 : Kn (decide ((e.bytes.length : Int) < e.all)) false := .no (by omega)
    apply W.readS LO mixed [0, 22] (by kernel_rfl)
    · repeat' (first | rfl | with_reducible assumption | assumption | constructor)
    intro w2 f2 s2 hf2
    replace hf2 : f2 = [(0, _), (22, _)] := hf2
    subst hf2
    refine W.cond (b := false) rfl (fun h => by cases h) (fun _ => W.skip ?_)
    exact N.cut ⟨s2, rfl⟩ (sub_keys rfl)
  rintro w2 _ ⟨s2, rfl⟩
  have h2 := h1.same s2
  clear hl
  refine W.seq (W.list ?_)
  obtain ⟨c0, c1, c2⟩ := h2.blk.cls
  rw [hn] at c1
  apply Ls.runK LO [0, 26] 4
  · repeat' (first | rfl | with_reducible assumption | assumption | constructor)
  intro w3 f3 s3 hf3
  replace hf3 : f3 = [(0, _), (26, _)] := hf3
  subst hf3
  have h3 := h2.same s3
  refine Ls.makeSlice rfl rfl rfl rfl rfl info_sl8 info_u8 rfl (by omega) (by omega) ?_
  have hb4 := heap_alloc_new w3 (.cells (List.replicate n (Value.int .u8 0)).toArray 5)
  have m4 : Mv (fun _ => False) w3 (w3.alloc (.cells (List.replicate n (Value.int .u8 0)).toArray 5)) := (Mv.refl _ w3).alloc _
  generalize w3.alloc (.cells (List.replicate n (Value.int .u8 0)).toArray 5) = w4 at hb4 m4
  obtain ⟨r, hr⟩ : ∃ r, r = w3.heap.size := ⟨_, rfl⟩
  rw [← hr] at hb4
  rw [← hr]
  have hrb : b < r := by rw [hr]; exact h3.blk.lt
  have hrm : m < r := by rw [hr]; exact h3.map.lt
  have hrw : w.heap.size ≤ r := by rw [hr, s3.heap, s2.heap, s1.heap]; exact Nat.le_refl _
  have h4 := h3.moved m4 (fun e => e) (fun e => e)
  have mv4 : Mv (fun _ => False) w w4 := ((m1.same s2).same s3).trans m4
  clear h3 m4 c0 c1 c2 h2 s2 s3 hr m1 s1 h1
  apply Ls.runK LO [0, 4] 1
  · repeat' (first | rfl | with_reducible assumption | assumption | constructor)
  intro w5 f5 s5 hf5
  replace hf5 : f5 = [(0, _), (4, _)] := hf5
  subst hf5
  refine Ls.nil (N.to ?_)
  have h5 := h4.same s5
  have hb5 : w5.heap[r]? = some (.cells (List.replicate n (Value.int .u8 0)).toArray 5 (0, 0)) := by rw [s5.heap]; exact hb4
  have mv5 := mv4.same s5
  clear h4 hb4 mv4 s5
  refine W.cutS (fun w' g => (∃ ys : List Int, ys.length = n ∧ (∀ j : Nat, j < n → ys[j]? = some ((e.bytes.lookup (j : Int)).getD 0)) ∧ w'.heap[r]? = some (.cells (ys.map (Value.int .u8)).toArray 5 (0, 0)) ∧ Mv (fun _ => False) w w') ∧ g = [(4, .slice (some ⟨r, 0, none⟩) n n)]) ?_ ?_
  ·
    apply W.readS LO mixed [0, 4, 29, 30] (by kernel_rfl)
    · repeat' (first | rfl | with_reducible assumption | assumption | constructor)
    intro w6 f6 s6 hf6
    replace hf6 : f6 = [(0, _), (4, _), (29, _), (30, _)] := hf6
    subst hf6
    refine W.block (W.loop (fun k w' g => ∃ (i : Nat) (ys : List Int), k + i = n ∧ ys.length = n ∧ (∀ j : Nat, j < i → ys[j]? = some ((e.bytes.lookup (j : Int)).getD 0)) ∧ w'.heap[r]? = some (.cells (ys.map (Value.int .u8)).toArray 5 (0, 0)) ∧ EAt w' b m e ∧ Mv (fun _ => False) w w' ∧
      g = [(0, .pointer (some ⟨b, 0, none⟩)), (4, .slice (some ⟨r, 0, none⟩) n n), (29, .int .i64 n), (30, .int .i64 i)]) n _ ⟨0, List.replicate n 0, rfl, by simp, fun j hj => absurd hj (Nat.not_lt_zero j), by rw [s6.heap, hb5, List.map_replicate], h5.same s6, mv5.same s6, rfl⟩ (sub_keys rfl) ?_)
    clear h5 hb5 mv5 s6
    rintro k w7 _ ⟨i, ys, hk, hys, hj, hb7, h7, mv7, rfl⟩
    by_cases hlt : i < n
    · have k1 : Kn (decide ((i : Int) < (n : Int))) true := .yes (by omega)
      apply W.readS LO mixed [0, 4, 29, 30, 31] (by kernel_rfl)
      · repeat' (first | rfl | with_reducible assumption | assumption | constructor)
      intro w8 f8 s8 hf8
      replace hf8 : f8 = [(0, _), (4, _), (29, _), (30, _), (31, _)] := hf8
      subst hf8
      have h8 := h7.same s8
      refine W.seq (W.cond (b := true) rfl (fun _ => W.skip (N.to ?_)) (fun h => by cases h))
      refine W.cutS (fun w' g => (∃ ys : List Int, ys.length = n ∧ (∀ j : Nat, j < i + 1 → ys[j]? = some ((e.bytes.lookup (j : Int)).getD 0)) ∧ w'.heap[r]? = some (.cells (ys.map (Value.int .u8)).toArray 5 (0, 0)) ∧ EAt w' b m e ∧ Mv (fun _ => False) w w') ∧ g = [(0, .pointer (some ⟨b, 0, none⟩)), (4, .slice (some ⟨r, 0, none⟩) n n), (29, .int .i64 n), (30, .int .i64 i)]) ?_ ?_
      · refine W.block ?_
        apply W.readS LO mixed [0, 4, 5, 29, 30] (by kernel_rfl)
        · repeat' (first | rfl | with_reducible assumption | assumption | constructor)
        intro w9 f9 s9 hf9
        replace hf9 : f9 = [(0, _), (4, _), (5, _), (29, _), (30, _)] := hf9
        subst hf9
        have h9 := h8.same s9
        obtain ⟨c0, c1, c2⟩ := h9.blk.cls
        have hlk := look_one (P := Try.prog) h9.map KMi Try.underlying55 zero_u8 (i : Int) (okI_mk (by omega) (by omega)) _ rfl
        have i0 : (0 : Int) ≤ (i : Int) := by omega
        have i1 : (i : Int) < (n : Int) := by omega
        have hval : ((e.bytes.lookup (i : Int)).map (Value.int .u8)).getD (.int .u8 0) = .int .u8 ((e.bytes.lookup (i : Int)).getD 0) := by cases e.bytes.lookup (i : Int) <;> rfl
        rw [hval] at hlk
        refine W.list ?_
        apply Ls.runK LO [0, 4, 29, 30, 40, 41] 9
        · repeat' (first | rfl | with_reducible assumption | assumption | constructor)
        intro w10 f10 s10 hf10
        replace hf10 : f10 = [(0, _), (4, _), (29, _), (30, _), (40, _), (41, _)] := hf10
        subst hf10
        have h10 := h9.same s10
        have hb10 : w10.heap[r]? = some (.cells (ys.map (Value.int .u8)).toArray 5 (0, 0)) := by rw [s10.heap, s9.heap, s8.heap]; exact hb7
        have ei : 0 + ((i : Int)).toNat * 1 = i := by omega
        refine Ls.store LO rfl rfl rfl rfl rfl (vs := [.int .u8 ((e.bytes.lookup (i : Int)).getD 0)]) rfl rfl rfl hb10 (by rw [ei]; exact Nat.ble_eq_true_of_le (by simp [hys]; omega)) ?_
        intro w11 hb11 m11 _
        refine Ls.nil (N.inb (N.cut ⟨⟨ys.set i ((e.bytes.lookup (i : Int)).getD 0), by simp [hys], fun j hj' => ?_, ?_, h10.moved m11 (by omega) (by omega), ?_⟩, rfl⟩ (sub_keys rfl)))
        · by_cases hji : j = i
          · subst hji; rw [List.getElem?_set_self (by omega)]
          · rw [List.getElem?_set_ne (Ne.symm hji)]; exact hj j (by omega)
        · rw [hb11, ei, wr_one _ _ _ (by simp [hys]; omega), List.map_set]
        · exact (((mv7.same s8).same s9).same s10).cut m11 fun k hk e => by omega
      · rintro w9 _ ⟨⟨ys', hys', hj', hb9, h9, mv9⟩, rfl⟩
        have k5 : Kn (IntKind.i64.wrap ((i : Int) + 1)) ((i + 1 : Nat) : Int) := .of (IntWalk.i64_in _ (by omega))
        apply W.readN LO mixed [0, 4, 29, 30] (by kernel_rfl)
        · repeat' (first | rfl | with_reducible assumption | assumption | constructor)
        intro w10 f10 s10 hf10
        replace hf10 : f10 = [(0, _), (4, _), (29, _), (30, _)] := hf10
        subst hf10
        exact N.round (k - 1) _ (by omega) ⟨i + 1, ys', by omega, hys', hj', by rw [s10.heap]; exact hb9, h9.same s10, mv9.same s10, rfl⟩ (sub_keys rfl)
    · have k1 : Kn (decide ((i : Int) < (n : Int))) false := .no (by omega)
      apply W.readS LO mixed [4, 31] (by kernel_rfl)
      · repeat' (first | rfl | with_reducible assumption | assumption | constructor)
      intro w8 f8 s8 hf8
      replace hf8 : f8 = [(4, _), (31, _)] := hf8
      subst hf8
      refine W.seq (W.cond (b := false) rfl (fun h => by cases h) (fun _ => W.exit ?_))
      exact N.thenE (N.thenE (N.out (N.cut ⟨⟨ys, hys, fun j hjn => hj j (by omega), by rw [s8.heap]; exact hb7, mv7.same s8⟩, rfl⟩ (sub_keys rfl))))
  rintro w6 _ ⟨⟨ys, hys, hj, hb6, mv6⟩, rfl⟩
  have hcv := conv_bytes (P := Try.prog) (d := 9) (c := n) info_sl8 und_u8 und_str hb6 hys
  apply W.readS LO mixed [2, 3] (by kernel_rfl)
  · repeat' (first | rfl | with_reducible assumption | assumption | constructor)
  intro w7 f7 s7 hf7
  replace hf7 : f7 = [(2, _), (3, _)] := hf7
  subst hf7
  refine W.ret (post (fn := Try.f22) (R := WholePost e w) LO (rs := [.tmp 2, .tmp 3]) rfl (vs := [.string (strOfNums ys), .bool true]) (.tmp rfl (.tmp rfl .nil)) ⟨?_, mv6.same s7⟩)
  have hw : e.whole = some (strOfNums ys) := by
    unfold EV.whole
    rw [if_neg hno]
    congr 2
    apply List.ext_getElem?
    intro j
    rw [hn, Int.toNat_natCast, List.getElem?_map]
    by_cases hjn : j < n
    · rw [List.getElem?_range hjn, hj j hjn]; rfl
    · rw [List.getElem?_eq_none (by simp; omega), List.getElem?_eq_none (by omega)]; rfl
  rw [hw]
  rfl
end Go.Proofs.Ytnghmaejmfhigaa
