/- What is proved: the law of bounds. Conditions: those that stand in each theorem. -/
import Derived.Test.YtnghmaejmfhigaaDefLaw2
import Derived.Test.YtnghmaejmfhigaaDefBytes
namespace Go.Proofs.Ytnghmaejmfhigaa
set_option linter.unusedVariables false
set_option linter.unusedSimpArgs false
set_option linter.unusedSectionVars false
open Go.RowKit Go.Maps Go.MapKept Go.ChangeMaps Fw
def b8 : ByteArray := ⟨#[49, 50, 51, 52, 53, 54, 55, 56]⟩
def b9 : ByteArray := ⟨#[49, 50, 51, 52, 53, 54, 55, 56, 120]⟩
def bx : ByteArray := ⟨#[120]⟩
def ibn (j : Int) : IPV := ⟨0, j, true, false, 0, 0, 0, 0, 0, ⟨#[]⟩⟩
def ibx (j : Int) : IPV := ⟨0, j, false, false, 8, 0, 0, 0, 0, ⟨#[]⟩⟩
def kbn (j : Int) : KeyV := ⟨0, 0, 0, j⟩
def E1 : EV := addE none (ibn 0) b8
theorem e1_w : E1.whole = none := by kernel_rfl
theorem e1_x : (addE (some E1) (ibx 0) bx).whole = some b9 := by kernel_rfl
theorem e1_all : (decide (0 ≤ E1.all) && decide (E1.all ≤ 2000)) = true := by kernel_rfl
theorem e1_age : E1.age = 0 := by kernel_rfl
theorem e1_len : E1.bytes.length = 8 := by kernel_rfl
def Tn (i : Nat) : List (KeyV × EV) := (List.range i).map fun j : Nat => (kbn j, E1)
theorem Tn_len (i : Nat) : (Tn i).length = i := by unfold Tn; simp
theorem Tn_lk (i : Nat) (x : Int) (h : (i : Int) ≤ x) : (Tn i).lookup (kbn x) = none := by
  rw [lookup_none]
  intro p hp
  obtain ⟨j, hj, rfl⟩ := List.mem_map.1 hp
  intro e
  have : (j : Int) = x := congrArg KeyV.id e
  have := List.mem_range.1 hj
  omega
theorem Tn_all (i : Nat) : allB (Tn i) = true := by
  unfold allB Tn
  rw [List.all_map, List.all_eq_true]
  intro j _
  exact e1_all
theorem fit_n (j : Int) : Fit (ibn j) b8 := ⟨by show ¬ (8 : Nat) = 0; decide, fun _ => by show 8 % 8 = 0; decide, by show (0 : Int) ≤ 0; decide, by show (0 : Int) + 8 ≤ 2000; decide, .inl rfl⟩
theorem bd_add (i m : Nat) (h : i < m) : TVadd m (Tn i) (ibn i) b8 = (Tn (i + 1), ⟨#[]⟩, false, 0) := by
  have e1 : addE none (ibn i) b8 = E1 := addE_congr rfl rfl
  rw [TVadd_new (fit_n i) (Tn_lk i i (Int.le_refl _)) (by rw [Tn_len]; omega) (by rw [e1]; exact e1_w), e1]
  unfold Tn
  rw [List.range_succ, List.map_append]
  rfl
theorem bd_full (i m : Nat) (h : m ≤ i) : TVadd m (Tn m) (ibn i) b8 = (Tn m, ⟨#[]⟩, false, 10) := by
  unfold TVadd
  rw [if_neg (by rintro ⟨h, _⟩; cases h), if_neg, if_neg, if_pos ⟨Tn_lk m i (by omega), by rw [Tn_len]; omega⟩]
  · show ¬ (2000 < 8 ∨ 2000 - ((8 : Nat) : Int) < 0); omega
  · show ¬ ((8 : Nat) = 0 ∨ (true = true ∧ 8 % 8 ≠ 0) ∨ (0 : Int) < 0); omega
theorem Tn_at (m : Nat) (w : Int) (h0 : 0 ≤ w) (h1 : w < m) : (Tn m).lookup (kbn w) = some E1 := by
  cases hl : (Tn m).lookup (kbn w) with
  | none =>
    exfalso
    refine lookup_none.1 hl (kbn w, E1) (List.mem_map.2 ⟨w.toNat, List.mem_range.2 (by omega), ?_⟩) rfl
    rw [show ((w.toNat : Nat) : Int) = w by omega]
  | some e =>
    have : ∀ (l : List (KeyV × EV)), (∀ p ∈ l, p.2 = E1) → l.lookup (kbn w) = some e → e = E1 := by
      intro l
      induction l with
      | nil => intro _ h; cases h
      | cons p r ih =>
        intro h hl
        rw [List.lookup_cons] at hl
        split at hl
        · have := h p List.mem_cons_self
          rw [← this]; exact (Option.some.inj hl).symm
        · exact ih (fun q hq => h q (List.mem_cons_of_mem _ hq)) hl
    rw [this (Tn m) (fun p hp => by obtain ⟨j, _, rfl⟩ := List.mem_map.1 hp; rfl) hl]
def Tw (m : Nat) (w : Int) : List (KeyV × EV) := (Tn m).filter fun p => p.1 != kbn w
theorem Tw_len (m : Nat) (w : Int) (h0 : 0 ≤ w) (h1 : w < m) : ((Tw m w).length : Int) = m - 1 := by
  have : ∀ m : Nat, (((Tn m).filter fun p => p.1 != kbn w).length : Int) = if w < m then (m : Int) - 1 else m := by
    intro m
    induction m with
    | zero => rw [if_neg (by omega)]; rfl
    | succ m ih =>
      have e : Tn (m + 1) = Tn m ++ [(kbn m, E1)] := by unfold Tn; rw [List.range_succ, List.map_append]; rfl
      rw [e, List.filter_append, List.length_append]
      by_cases hw : w = m
      · subst hw
        have hf : ([(kbn (m : Int), E1)] : List (KeyV × EV)).filter (fun p => p.1 != kbn (m : Int)) = [] := by simp
        rw [hf]
        rw [if_neg (by omega)] at ih
        rw [if_pos (by omega)]
        simp only [List.length_nil]
        omega
      · have hne : kbn (m : Int) ≠ kbn w := fun e => hw (congrArg KeyV.id e).symm
        have hf : ([(kbn (m : Int), E1)] : List (KeyV × EV)).filter (fun p => p.1 != kbn w) = [(kbn m, E1)] := by simp [hne]
        rw [hf]
        simp only [List.length_singleton]
        split at ih <;> split <;> omega
  have := this m
  rw [if_pos h1] at this
  exact this
theorem bd_x (m : Nat) (w : Int) (h0 : 0 ≤ w) (h1 : w < m) : TVadd m (Tn m) (ibx w) bx = (Tw m w, b9, true, 0) := by
  have e1 : addE (some E1) (ibx w) bx = addE (some E1) (ibx 0) bx := addE_congr rfl rfl
  rw [TVadd_whole (T := Tn m) (i := ibx w) (s := bx) (e := E1) (x := b9) ⟨by show ¬ (1 : Nat) = 0; decide, (fun h => by cases h), by show (0 : Int) ≤ 8; decide, by show (8 : Int) + 1 ≤ 2000; decide, .inr (by show (0 : Int) < 8; decide)⟩ (Tn_at m w h0 h1) (by rw [e1]; exact e1_x)]
  rfl
theorem Tw_mem {m : Nat} {w : Int} {p : KeyV × EV} (h : p ∈ Tw m w) : p.2 = E1 ∧ ∃ j : Nat, p.1 = kbn j ∧ j < m := by
  obtain ⟨j, hj, rfl⟩ := List.mem_map.1 (List.mem_filter.1 h).1
  exact ⟨rfl, j, rfl, List.mem_range.1 hj⟩
def Ta (m : Nat) (w n : Int) : List (KeyV × EV) := (Tw m w).map fun p => (p.1, agedE n p.2)
theorem Ta_len (m : Nat) (w n : Int) : (Ta m w n).length = (Tw m w).length := List.length_map ..
theorem tick_1 (m : Nat) (w k : Int) : TVtick k (k - 1) (Tw m w) = Ta m w (k - 1) := by
  unfold TVtick Ta
  rw [List.filter_eq_self.2]
  intro p hp
  rw [(Tw_mem hp).1, e1_age]
  exact decide_eq_true (by omega)
theorem Ta_lk (m : Nat) (w n x : Int) (h : (m : Int) ≤ x) : (Ta m w n).lookup (kbn x) = none := by
  rw [lookup_none]
  intro p hp
  obtain ⟨q, hq, rfl⟩ := List.mem_map.1 hp
  obtain ⟨_, j, hj, hjm⟩ := Tw_mem hq
  intro e
  have h1 : q.1 = kbn x := e
  rw [hj] at h1
  have : (j : Int) = x := congrArg KeyV.id h1
  omega
theorem bd_99 (m : Nat) (w n : Int) (hm : m ≤ 8) (h0 : 0 ≤ w) (h1 : w < m) : TVadd m (Ta m w n) (ibn 99) b8 = (Ta m w n ++ [(kbn 99, E1)], ⟨#[]⟩, false, 0) := by
  have e1 : addE none (ibn 99) b8 = E1 := addE_congr rfl rfl
  have hl := Tw_len m w h0 h1
  rw [TVadd_new (fit_n 99) (Ta_lk m w n 99 (by omega)) (by rw [Ta_len]; omega) (by rw [e1]; exact e1_w), e1]
  rfl
theorem tick_2 (m : Nat) (w k : Int) (hk : 2 ≤ k) : TVtick k 1 (Ta m w (k - 1) ++ [(kbn 99, E1)]) = [(kbn 99, agedE 1 E1)] := by
  unfold TVtick
  rw [List.filter_append]
  have h1 : (Ta m w (k - 1)).filter (fun p => decide (p.2.age + 1 < k)) = [] := by
    rw [List.filter_eq_nil_iff]
    intro p hp
    obtain ⟨q, hq, rfl⟩ := List.mem_map.1 hp
    have : (agedE (k - 1) q.2).age = k - 1 := by show q.2.age + (k - 1) = k - 1; rw [(Tw_mem hq).1, e1_age]; omega
    rw [this]
    simp only [decide_eq_true_eq]
    omega
  have h2 : ([(kbn 99, E1)] : List (KeyV × EV)).filter (fun p => decide (p.2.age + 1 < k)) = [(kbn 99, E1)] := by
    rw [List.filter_cons, if_pos (by show decide (E1.age + 1 < k) = true; rw [e1_age]; exact decide_eq_true (by omega))]
    rfl
  rw [h1, h2]
  rfl
theorem age_w (m : Nat) (w : Int) : ageB (Tw m w) = true := by
  unfold ageB
  rw [List.all_eq_true]
  intro p hp
  rw [(Tw_mem hp).1, e1_age]
  rfl
theorem age_a (m : Nat) (w k : Int) (h0 : 1 ≤ k) (h1 : k ≤ 100) : ageB (Ta m w (k - 1) ++ [(kbn 99, E1)]) = true := by
  unfold ageB
  rw [List.all_eq_true]
  intro p hp
  rcases List.mem_append.1 hp with hp | hp
  · obtain ⟨q, hq, rfl⟩ := List.mem_map.1 hp
    have : (agedE (k - 1) q.2).age = k - 1 := by show q.2.age + (k - 1) = k - 1; rw [(Tw_mem hq).1, e1_age]; omega
    rw [this]
    simp only [Bool.and_eq_true, decide_eq_true_eq]
    omega
  · obtain rfl := List.mem_singleton.1 hp
    rw [e1_age]; rfl
theorem all_a (m : Nat) (w n : Int) : allB (Ta m w n) = true := by
  unfold allB
  rw [List.all_eq_true]
  intro p hp
  obtain ⟨q, hq, rfl⟩ := List.mem_map.1 hp
  have : (agedE n q.2).all = E1.all := by show q.2.all = E1.all; rw [(Tw_mem hq).1]
  rw [this]; exact e1_all
def bfr (t : Nat) (m k : Int) : Fr := [(2, .int .i64 0), (7, .int .i64 m), (8, .int .i64 k), (9, .pointer (some ⟨t, 0, none⟩))]
set_option maxRecDepth 100000 in
set_option maxHeartbeats 4000000 in
theorem bounds_walk (most ticks n : Int) (w : World) (h1 : -9223372036854775808 ≤ most ∧ most ≤ 9223372036854775807) (h2 : -9223372036854775808 ≤ ticks ∧ ticks ≤ 9223372036854775807) (h3 : -9223372036854775808 ≤ n ∧ n ≤ 9223372036854775807) :
    Calls Try.prog 6 #[.int .i64 most, .int .i64 ticks, .int .i64 n] w (Yes w) := by
  refine calls_W (n := 141) (vs := [.int .i64 most, .int .i64 ticks, .int .i64 n]) Try.func6 rfl rfl rfl ?_
  apply W.readS LO mixed [0, 1, 2] (by kernel_rfl)
  · repeat' (first | rfl | with_reducible assumption | assumption | constructor)
  intro w1 f1 s1 hf1
  replace hf1 : f1 = [(0, _), (1, _), (2, _)] := hf1
  subst hf1
  have q1 : ∀ w', Same w1 w' → Calls Try.prog 10 #[.int .i64 most, .int .i64 8] w' fun e w'' => e = .returned (.int .i64 (most % 8)) ∧ Same w1 w'' := quiet_of (w := w1) fun w' _ => place00_says most 8 w' (by decide) (by decide) h1.1 h1.2
  have q2 : ∀ w', Same w1 w' → Calls Try.prog 10 #[.int .i64 ticks, .int .i64 9] w' fun e w'' => e = .returned (.int .i64 (ticks % 9)) ∧ Same w1 w'' := quiet_of (w := w1) fun w' _ => place00_says ticks 9 w' (by decide) (by decide) h2.1 h2.2
  obtain ⟨m, hm⟩ : ∃ m : Nat, (m : Int) = 1 + most % 8 := ⟨(1 + most % 8).toNat, by omega⟩
  obtain ⟨k, hk⟩ : ∃ k : Int, k = 2 + ticks % 9 := ⟨_, rfl⟩
  have hmr : 1 ≤ m ∧ m ≤ 8 := by omega
  have hkr : 2 ≤ k ∧ k ≤ 10 := by omega
  have k1 : Kn (IntKind.i64.wrap (1 + most % 8)) (m : Int) := .of (by rw [← hm]; exact IntWalk.i64_in _ (by omega))
  have k2 : Kn (IntKind.i64.wrap (2 + ticks % 9)) k := .of (by rw [← hk]; exact IntWalk.i64_in _ (by omega))
  apply W.readS LO mixed [2, 7, 8] (by kernel_rfl)
  · repeat' (first | rfl | with_reducible assumption | assumption | constructor)
  intro w2 f2 s2 hf2
  replace hf2 : f2 = [(2, _), (7, _), (8, _)] := hf2
  subst hf2
  clear q1 q2 k1 k2 hm hk
  refine W.seq (W.list ?_)
  apply Ls.runK LO [2, 7, 8, 27, 28] 2
  · repeat' (first | rfl | with_reducible assumption | assumption | constructor)
  intro w3 f3 s3 hf3
  replace hf3 : f3 = [(2, _), (7, _), (8, _), (27, _), (28, _)] := hf3
  subst hf3
  refine Ls.call LO rfl rfl rfl rfl rfl (vs := [.int .i64 m, .int .i64 k]) rfl (ts_new w w3 m k ((((Mv.refl _ w).same s1).same s2).same s3)) ?_
  rintro _ w4 ⟨t, rfl, hS⟩
  refine ⟨_, rfl, ?_⟩
  rw [show max 1 (min (m : Int) 32) = (m : Int) by omega, show max 1 (min k 100000) = k by omega] at hS
  apply Ls.runK LO [2, 7, 8, 9] 1
  · repeat' (first | rfl | with_reducible assumption | assumption | constructor)
  intro w5 f5 s5 hf5
  replace hf5 : f5 = [(2, _), (7, _), (8, _), (9, _)] := hf5
  subst hf5
  refine Ls.nil (N.to ?_)
  have hS : TS w w5 t m k (Tn 0) := hS.same s5
  clear s1 s2 s3 s5
  refine W.cutS (fun w' g => TS w w' t m k (Tn 0) ∧ g = [(2, .int .i64 n), (7, .int .i64 m), (8, .int .i64 k), (9, .pointer (some ⟨t, 0, none⟩))]) ?_ ?_
  ·
    apply W.readS LO mixed [2, 7, 8, 9, 31] (by kernel_rfl)
    · repeat' (first | rfl | with_reducible assumption | assumption | constructor)
    intro w6 f6 s6 hf6
    replace hf6 : f6 = [(2, _), (7, _), (8, _), (9, _), (31, _)] := hf6
    subst hf6
    refine W.cond (b := false) rfl (fun h => by cases h) (fun _ => W.skip ?_)
    exact N.cut ⟨hS.same s6, rfl⟩ (sub_keys rfl)
  rintro w6 _ ⟨hS, rfl⟩
  refine W.cutS (fun w' g => TS w w' t m k (Tn m) ∧ g = [(2, .int .i64 n), (7, .int .i64 m), (8, .int .i64 k), (9, .pointer (some ⟨t, 0, none⟩))]) ?_ ?_
  ·
    apply W.readS LO mixed [2, 7, 8, 9, 10] (by kernel_rfl)
    · repeat' (first | rfl | with_reducible assumption | assumption | constructor)
    intro w7 f7 s7 hf7
    replace hf7 : f7 = [(2, _), (7, _), (8, _), (9, _), (10, _)] := hf7
    subst hf7
    refine W.block (W.loop (fun q w' g => ∃ i : Nat, q + i = m + 3 ∧ TS w w' t m k (Tn (min i m)) ∧ g = [(2, .int .i64 n), (7, .int .i64 m), (8, .int .i64 k), (9, .pointer (some ⟨t, 0, none⟩)), (10, .int .i64 i)]) (m + 3) _ ⟨0, rfl, by rw [Nat.zero_min]; exact hS.same s7, rfl⟩ (sub_keys rfl) ?_)
    clear hS s7
    rintro q w8 _ ⟨i, hqi, hS, rfl⟩
    have ka : Kn (IntKind.i64.wrap ((m : Int) + 3)) ((m : Int) + 3) := .of (IntWalk.i64_in _ (by omega))
    by_cases hlt : i < m + 3
    · have k1 : Kn (decide ((i : Int) < (m : Int) + 3)) true := .yes (by omega)
      refine W.seq ?_
      apply W.readS LO mixed [2, 7, 8, 9, 10, 35] (by kernel_rfl)
      · repeat' (first | rfl | with_reducible assumption | assumption | constructor)
      intro w9 f9 s9 hf9
      replace hf9 : f9 = [(2, _), (7, _), (8, _), (9, _), (10, _), (35, _)] := hf9
      subst hf9
      have hS := hS.same s9
      refine W.cond (b := true) rfl (fun _ => W.skip (N.to ?_)) (fun h => by cases h)
      refine W.cutS (fun w' g => TS w w' t m k (Tn (min (i + 1) m)) ∧ g = [(2, .int .i64 n), (7, .int .i64 m), (8, .int .i64 k), (9, .pointer (some ⟨t, 0, none⟩)), (10, .int .i64 i)]) ?_ ?_
      · refine W.block ?_
        refine W.seq (W.list ?_)
        apply Ls.runK LO [2, 7, 8, 9, 10, 39, 41] 3
        · repeat' (first | rfl | with_reducible assumption | assumption | constructor)
        intro w10 f10 s10 hf10
        replace hf10 : f10 = [(2, _), (7, _), (8, _), (9, _), (10, _), (39, _), (41, _)] := hf10
        subst hf10
        refine Ls.call LO rfl rfl rfl rfl rfl (vs := [.pointer (some ⟨t, 0, none⟩), .agg (ipVs (ibn i)).toArray, .string b8]) rfl (ts_add w w10 t m k (Tn (min i m)) (ibn i) b8 (hS.same s10) (ipok (ibn i) rfl rfl rfl (by show (Lit.int .i64 (i : Int)).wf = true; exact WalkArith.wf_i64 (by omega)) (by show (-9223372036854775808 : Int) ≤ 0 ∧ (0 : Int) ≤ 9223372036854775807; decide)) (by decide) (Tn_all _)) ?_
        rintro _ w11 ⟨rfl, hS⟩
        refine ⟨_, rfl, ?_⟩
        by_cases him : i < m
        · rw [Nat.min_eq_left (Nat.le_of_lt him), bd_add i m him] at hS ⊢
          apply Ls.runK LO [2, 7, 8, 9, 10, 12, 13] 7
          · repeat' (first | rfl | with_reducible assumption | assumption | constructor)
          intro w12 f12 s12 hf12
          replace hf12 : f12 = [(2, _), (7, _), (8, _), (9, _), (10, _), (12, _), (13, _)] := hf12
          subst hf12
          refine Ls.nil (N.to ?_)
          have hS : TS w w12 t m k (Tn (i + 1)) := hS.same s12
          have ql := quiet_of (w := w12) fun w' s' => ts_len w w' t m k _ (hS.same s')
          rw [Tn_len] at ql
          have k3 : Kn (decide ((i : Int) < (m : Int))) true := .yes (by omega)
          have k4 : Kn (IntKind.i64.wrap ((i : Int) + 1)) ((i + 1 : Nat) : Int) := .of (IntWalk.i64_in _ (by omega))
          have k5 : Kn (if (m : Int) < ((i + 1 : Nat) : Int) then (m : Int) else ((i + 1 : Nat) : Int)) ((i + 1 : Nat) : Int) := .of (by rw [if_neg (by omega)])
          have k6 : Kn (((i + 1 : Nat) : Int) != ((i + 1 : Nat) : Int)) false := .of (by simp)
          apply W.readS LO mixed [2, 7, 8, 9, 10, 71] (by kernel_rfl)
          · repeat' (first | rfl | with_reducible assumption | assumption | constructor)
          intro w13 f13 s13 hf13
          replace hf13 : f13 = [(2, _), (7, _), (8, _), (9, _), (10, _), (71, _)] := hf13
          subst hf13
          refine W.cond (b := false) rfl (fun h => by cases h) (fun _ => W.skip ?_)
          refine N.inb (N.cut ⟨?_, rfl⟩ (sub_keys rfl))
          rw [Nat.min_eq_left him]; exact hS.same s13
        · rw [Nat.min_eq_right (Nat.le_of_not_lt him), bd_full i m (Nat.le_of_not_lt him)] at hS ⊢
          apply Ls.runK LO [2, 7, 8, 9, 10, 12, 13] 7
          · repeat' (first | rfl | with_reducible assumption | assumption | constructor)
          intro w12 f12 s12 hf12
          replace hf12 : f12 = [(2, _), (7, _), (8, _), (9, _), (10, _), (12, _), (13, _)] := hf12
          subst hf12
          refine Ls.nil (N.to ?_)
          have hS : TS w w12 t m k (Tn m) := hS.same s12
          have ql := quiet_of (w := w12) fun w' s' => ts_len w w' t m k _ (hS.same s')
          rw [Tn_len] at ql
          have k3 : Kn (decide ((i : Int) < (m : Int))) false := .no (by omega)
          have k4 : Kn (IntKind.i64.wrap ((i : Int) + 1)) ((i + 1 : Nat) : Int) := .of (IntWalk.i64_in _ (by omega))
          have k5 : Kn (if (m : Int) < ((i + 1 : Nat) : Int) then (m : Int) else ((i + 1 : Nat) : Int)) (m : Int) := .of (by rw [if_pos (by omega)])
          have k6 : Kn ((m : Int) != (m : Int)) false := .of (by simp)
          apply W.readS LO mixed [2, 7, 8, 9, 10, 71] (by kernel_rfl)
          · repeat' (first | rfl | with_reducible assumption | assumption | constructor)
          intro w13 f13 s13 hf13
          replace hf13 : f13 = [(2, _), (7, _), (8, _), (9, _), (10, _), (71, _)] := hf13
          subst hf13
          refine W.cond (b := false) rfl (fun h => by cases h) (fun _ => W.skip ?_)
          refine N.inb (N.cut ⟨?_, rfl⟩ (sub_keys rfl))
          rw [Nat.min_eq_right (by omega)]; exact hS.same s13
      · rintro w10 _ ⟨hS, rfl⟩
        have k5 : Kn (IntKind.i64.wrap ((i : Int) + 1)) ((i + 1 : Nat) : Int) := .of (IntWalk.i64_in _ (by omega))
        apply W.readN LO mixed [2, 7, 8, 9, 10] (by kernel_rfl)
        · repeat' (first | rfl | with_reducible assumption | assumption | constructor)
        intro w11 f11 s11 hf11
        replace hf11 : f11 = [(2, _), (7, _), (8, _), (9, _), (10, _)] := hf11
        subst hf11
        exact N.round (q - 1) _ (by omega) ⟨i + 1, by omega, hS.same s11, rfl⟩ (sub_keys rfl)
    · have k1 : Kn (decide ((i : Int) < (m : Int) + 3)) false := .no (by omega)
      refine W.seq ?_
      apply W.readS LO mixed [2, 7, 8, 9, 35] (by kernel_rfl)
      · repeat' (first | rfl | with_reducible assumption | assumption | constructor)
      intro w9 f9 s9 hf9
      replace hf9 : f9 = [(2, _), (7, _), (8, _), (9, _), (35, _)] := hf9
      subst hf9
      refine W.cond (b := false) rfl (fun h => by cases h) (fun _ => W.exit ?_)
      refine N.thenE (N.thenE (N.out (N.cut ⟨?_, rfl⟩ (sub_keys rfl))))
      rw [Nat.min_eq_right (by omega)] at hS
      exact hS.same s9
  rintro w7 _ ⟨hS, rfl⟩
  have q1 : ∀ w', Same w7 w' → Calls Try.prog 10 #[.int .i64 n, .int .i64 m] w' fun e w'' => e = .returned (.int .i64 (n % m)) ∧ Same w7 w'' := quiet_of (w := w7) fun w' _ => place00_says n m w' (by omega) (by omega) h3.1 h3.2
  have hw0 : 0 ≤ n % (m : Int) := Int.emod_nonneg _ (by omega)
  have hw1 : n % (m : Int) < m := Int.emod_lt_of_pos _ (by omega)
  generalize n % (m : Int) = v at q1 hw0 hw1
  apply W.readS LO mixed [7, 8, 9, 14] (by kernel_rfl)
  · repeat' (first | rfl | with_reducible assumption | assumption | constructor)
  intro w8 f8 s8' hf8
  replace hf8 : f8 = [(7, _), (8, _), (9, _), (14, _)] := hf8
  subst hf8
  have hS := hS.same s8'
  clear q1 s8'
  refine W.seq (W.list ?_)
  apply Ls.runK LO [7, 8, 9, 76, 78] 3
  · repeat' (first | rfl | with_reducible assumption | assumption | constructor)
  intro w9 f9 s9 hf9
  replace hf9 : f9 = [(7, _), (8, _), (9, _), (76, _), (78, _)] := hf9
  subst hf9
  refine Ls.call LO rfl rfl rfl rfl rfl (vs := [.pointer (some ⟨t, 0, none⟩), .agg (ipVs (ibx v)).toArray, .string bx]) rfl (ts_add w w9 t m k (Tn m) (ibx v) bx (hS.same s9) (ipok (ibx v) rfl rfl rfl (by show (Lit.int .i64 v).wf = true; exact WalkArith.wf_i64 (by omega)) (by show (-9223372036854775808 : Int) ≤ 8 ∧ (8 : Int) ≤ 9223372036854775807; decide)) (by decide) (Tn_all _)) ?_
  rintro _ w10 ⟨rfl, hS⟩
  refine ⟨_, rfl, ?_⟩
  rw [bd_x m v hw0 hw1] at hS ⊢
  apply Ls.runK LO [7, 8, 9, 15, 16, 17] 7
  · repeat' (first | rfl | with_reducible assumption | assumption | constructor)
  intro w11 f11 s11 hf11
  replace hf11 : f11 = [(7, _), (8, _), (9, _), (15, _), (16, _), (17, _)] := hf11
  subst hf11
  refine Ls.nil (N.to ?_)
  have hS := hS.same s11
  have hTl := Tw_len m v hw0 hw1
  refine W.cutS (fun w' g => TS w w' t m k (Tw m v) ∧ g = [(7, .int .i64 m), (8, .int .i64 k), (9, .pointer (some ⟨t, 0, none⟩))]) ?_ ?_
  · have ql := quiet_of (w := w11) fun w' s' => ts_len w w' t m k _ (hS.same s')
    rw [hTl] at ql
    have kw : Kn (b9.toList == (⟨#[49, 50, 51, 52, 53, 54, 55, 56, 120]⟩ : ByteArray).toList) true := .of (beq_self_eq_true _)
    have k4 : Kn (IntKind.i64.wrap ((m : Int) - 1)) ((m : Int) - 1) := .of (IntWalk.i64_in _ (by omega))
    have k6 : Kn ((m : Int) - 1 != (m : Int) - 1) false := .of (by simp)
    apply W.readS LO mixed [7, 8, 9, 99] (by kernel_rfl)
    · repeat' (first | rfl | with_reducible assumption | assumption | constructor)
    intro w12 f12 s12 hf12
    replace hf12 : f12 = [(7, _), (8, _), (9, _), (99, _)] := hf12
    subst hf12
    refine W.cond (b := false) rfl (fun h => by cases h) (fun _ => W.skip ?_)
    exact N.cut ⟨hS.same s12, rfl⟩ (sub_keys rfl)
  rintro w12 _ ⟨hS, rfl⟩
  refine W.cutS (fun w' g => TS w w' t m k (Ta m v (k - 1)) ∧ g = [(7, .int .i64 m), (9, .pointer (some ⟨t, 0, none⟩))]) ?_ ?_
  · refine W.seq (W.list ?_)
    have k4 : Kn (IntKind.i64.wrap (k - 1)) (k - 1) := .of (IntWalk.i64_in _ (by omega))
    apply Ls.runK LO [7, 9, 100, 102] 3
    · repeat' (first | rfl | with_reducible assumption | assumption | constructor)
    intro w13 f13 s13 hf13
    replace hf13 : f13 = [(7, _), (9, _), (100, _), (102, _)] := hf13
    subst hf13
    refine Ls.call LO rfl rfl rfl rfl rfl (vs := [.pointer (some ⟨t, 0, none⟩), .int .i64 (k - 1)]) rfl (ts_tick w w13 t m k (k - 1) (Tw m v) (hS.same s13) (by omega) (age_w m v)) ?_
    rintro _ w14 ⟨rfl, hS⟩
    refine ⟨_, rfl, ?_⟩
    rw [show max 0 (min (k - 1) 100000) = k - 1 by omega, tick_1] at hS ⊢
    rw [show ((Tw m v).length : Int) - ((Ta m v (k - 1)).length : Int) = 0 by rw [Ta_len]; omega]
    have ql := quiet_of (w := w14) fun w' s' => ts_len w w' t m k _ (hS.same s')
    rw [Ta_len, hTl] at ql
    have k4 : Kn (IntKind.i64.wrap ((m : Int) - 1)) ((m : Int) - 1) := .of (IntWalk.i64_in _ (by omega))
    have k6 : Kn ((m : Int) - 1 != (m : Int) - 1) false := .of (by simp)
    apply Ls.runK LO [7, 9, 111] 8
    · repeat' (first | rfl | with_reducible assumption | assumption | constructor)
    intro w15 f15 s15 hf15
    replace hf15 : f15 = [(7, _), (9, _), (111, _)] := hf15
    subst hf15
    refine Ls.nil (N.to ?_)
    refine W.cond (b := false) rfl (fun h => by cases h) (fun _ => W.skip ?_)
    exact N.cut ⟨hS.same s15, rfl⟩ (sub_keys rfl)
  rintro w13 _ ⟨hS, rfl⟩
  refine W.seq (W.list ?_)
  apply Ls.runK LO [7, 9, 113, 114] 2
  · repeat' (first | rfl | with_reducible assumption | assumption | constructor)
  intro w14 f14 s14 hf14
  replace hf14 : f14 = [(7, _), (9, _), (113, _), (114, _)] := hf14
  subst hf14
  refine Ls.call LO rfl rfl rfl rfl rfl (vs := [.pointer (some ⟨t, 0, none⟩), .agg (ipVs (ibn 99)).toArray, .string b8]) rfl (ts_add w w14 t m k _ (ibn 99) b8 (hS.same s14) (ipok (ibn 99) rfl rfl rfl rfl (by show (-9223372036854775808 : Int) ≤ 0 ∧ (0 : Int) ≤ 9223372036854775807; decide)) (by decide) (all_a _ _ _)) ?_
  rintro _ w15 ⟨rfl, hS⟩
  refine ⟨_, rfl, ?_⟩
  rw [bd_99 m v (k - 1) hmr.2 hw0 hw1] at hS ⊢
  apply Ls.runK LO [7, 9, 20] 7
  · repeat' (first | rfl | with_reducible assumption | assumption | constructor)
  intro w16 f16 s16 hf16
  replace hf16 : f16 = [(7, _), (9, _), (20, _)] := hf16
  subst hf16
  refine Ls.nil (N.to ?_)
  have hS := hS.same s16
  refine W.seq (W.list ?_)
  apply Ls.runK LO [7, 9, 121, 122] 4
  · repeat' (first | rfl | with_reducible assumption | assumption | constructor)
  intro w17 f17 s17 hf17
  replace hf17 : f17 = [(7, _), (9, _), (121, _), (122, _)] := hf17
  subst hf17
  refine Ls.call LO rfl rfl rfl rfl rfl (vs := [.pointer (some ⟨t, 0, none⟩), .int .i64 1]) rfl (ts_tick w w17 t m k 1 _ (hS.same s17) (by rw [List.length_append, Ta_len, List.length_singleton]; omega) (age_a m v k (by omega) (by omega))) ?_
  rintro _ w18 ⟨rfl, hS⟩
  refine ⟨_, rfl, ?_⟩
  rw [show max (0 : Int) (min 1 100000) = 1 by decide, tick_2 m v k hkr.1] at hS ⊢
  rw [show ((Ta m v (k - 1) ++ [(kbn 99, E1)]).length : Int) - (([(kbn 99, agedE 1 E1)] : List (KeyV × EV)).length : Int) = (m : Int) - 1 by rw [List.length_append, Ta_len, List.length_singleton, List.length_singleton]; omega]
  have ql := quiet_of (w := w18) fun w' s' => ts_len w w' t m k _ (hS.same s')
  have k4 : Kn (IntKind.i64.wrap ((m : Int) - 1)) ((m : Int) - 1) := .of (IntWalk.i64_in _ (by omega))
  have k6 : Kn ((m : Int) - 1 == (m : Int) - 1) true := .of (beq_self_eq_true _)
  apply Ls.runK LO [9, 133, 134] 11
  · repeat' (first | rfl | with_reducible assumption | assumption | constructor)
  intro w19 f19 s19 hf19
  replace hf19 : f19 = [(9, _), (133, _), (134, _)] := hf19
  subst hf19
  have hsb : sumB [(kbn 99, agedE 1 E1)] = 8 := by
    show E1.bytes.length + 0 = 8
    rw [e1_len]
  refine Ls.call LO rfl rfl rfl rfl rfl (vs := [.pointer (some ⟨t, 0, none⟩)]) rfl (ts_bytes w w19 t m k _ (hS.same s19) (by rw [hsb]; decide)) ?_
  rintro _ w20 ⟨rfl, hS, _⟩
  refine ⟨_, rfl, ?_⟩
  rw [hsb]
  apply Ls.runK LO [138] 3
  · repeat' (first | rfl | with_reducible assumption | assumption | constructor)
  intro w21 f21 s21 hf21
  replace hf21 : f21 = [(138, _)] := hf21
  subst hf21
  refine Ls.call LO rfl rfl rfl rfl rfl (vs := []) rfl (awake_walk w21) ?_
  rintro _ w22 ⟨rfl, hm22⟩
  refine ⟨_, rfl, ?_⟩
  apply Ls.runK LO [6] 2
  · repeat' (first | rfl | with_reducible assumption | assumption | constructor)
  intro w23 f23 s23 hf23
  replace hf23 : f23 = [(6, _)] := hf23
  subst hf23
  refine Ls.nil (N.to (W.ret (post LO (rs := [.tmp 6]) rfl (vs := [.bool true]) (.tmp rfl .nil) ⟨rfl, ((hS.mv.same s21).trans hm22).same s23⟩)))
theorem bounds_law (most ticks n : Int) (w : World) (h0 : (Lit.int .i64 most).wf = true) (h1 : (Lit.int .i64 ticks).wf = true) (h2 : (Lit.int .i64 n).wf = true) : Calls Try.prog 6 #[.int .i64 most, .int .i64 ticks, .int .i64 n] w (Yes w) := bounds_walk most ticks n w (bounds_i64 h0) (bounds_i64 h1) (bounds_i64 h2)
end Go.Proofs.Ytnghmaejmfhigaa
