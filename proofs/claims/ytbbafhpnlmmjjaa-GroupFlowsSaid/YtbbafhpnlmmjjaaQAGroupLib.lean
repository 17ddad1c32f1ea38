/- What is proved: what the program's sets of addresses, lists of ports and rules come to, in closed form. Conditions: those that stand in each theorem. -/
import Derived.Test.YtbbafhpnlmmjjaaHAx2
import Derived.Test.YtbbafhpnlmmjjaaHAx3
import Derived.Test.YtbbafhpnlmmjjaaHAx1
namespace Go.Proofs.Ytbbafhpnlmmjjaa.QA
open Go.RowKit Go.Proofs.Ytbbafhpnlmmjjaa.HA Go.Proofs.YtbbafhpnlmmjjaaW.PrintWords Go.Proofs.YtbbafhpnlmmjjaaW.PrintLast Go.Proofs.YtbbafhpnlmmjjaaW.PrintMore
set_option linter.unusedVariables false
set_option linter.unusedSimpArgs false
def okNet (x : S48) : Bool := decide (0 ≤ x.f1 ∧ x.f1 ≤ 32)
def okSpan (x : S50) : Bool := decide (0 ≤ x.f0 ∧ x.f0 ≤ x.f1 ∧ x.f1 ≤ 65535)
def inNet (x : S48) (a : Int) : Bool := Go.bits .and .u32 a (maskAt x.f1.toNat) == Go.bits .and .u32 x.f0 (maskAt x.f1.toNat)
def inSpan (x : S50) (a : Int) : Bool := decide (x.f0 ≤ a ∧ a ≤ x.f1)
theorem rd48 (l : List S48) (i : Nat) (h : i < l.length) : rd_T48 l (i : Int) = l[i] := by
  unfold rd_T48
  simp [List.getD, List.getElem?_eq_getElem h]
theorem rd50 (l : List S50) (i : Nat) (h : i < l.length) : rd_T50 l (i : Int) = l[i] := by
  unfold rd_T50
  simp [List.getD, List.getElem?_eq_getElem h]
theorem rd37 (l : List S37) (i : Nat) (h : i < l.length) : rd_T37 l (i : Int) = l[i] := by
  unfold rd_T37
  simp [List.getD, List.getElem?_eq_getElem h]
theorem word_next (i n : Nat) (h : i < n) (hn : n ≤ 140737488355328) : wrap64 ((i : Int) + 1) = ((i + 1 : Nat) : Int) := by unfold wrap64; omega
theorem ck_loop (l : List S48) (hl : l.length ≤ 140737488355328) : ∀ (d i : Nat) (b : Bool), i + d = l.length → Ev (fun k => cidr_Check.l0 k b l (l.length : Int) (i : Int)) (b && (l.drop i).all okNet) := by
  intro d
  induction d with
  | zero =>
    intro i b hi
    refine ⟨1, fun k hk => ?_⟩
    obtain ⟨k, rfl⟩ : ∃ n, k = n + 1 := ⟨k - 1, by omega⟩
    simp only [cidr_Check.l0]
    rw [if_neg (by omega), List.drop_of_length_le (by omega)]
    simp
  | succ d ih =>
    intro i b hi
    have hlt : i < l.length := by omega
    obtain ⟨K, q⟩ := ih (i + 1) (b && okNet l[i]) (by omega)
    refine ⟨K + 1, fun k hk => ?_⟩
    obtain ⟨k, rfl⟩ : ∃ n, k = n + 1 := ⟨k - 1, by omega⟩
    have e : cidr_Check.l0 k (b && okNet l[i]) l (l.length : Int) ((i + 1 : Nat) : Int) = some ((b && okNet l[i]) && (l.drop (i + 1)).all okNet) := q k (by omega)
    simp only [cidr_Check.l0]
    rw [if_pos (by omega), if_pos (Int.natCast_nonneg _), if_pos (by omega), rd48 l i hlt, word_next i l.length hlt hl, List.drop_eq_getElem_cons hlt, List.all_cons, ← Bool.and_assoc, ← e]
    cases b
    · rw [if_neg Bool.false_ne_true, Bool.false_and]
    · rw [if_pos rfl, Bool.true_and]
      by_cases h0 : l[i].f1 ≥ 0
      · rw [if_pos h0]
        congr 1
        unfold okNet
        exact decide_eq_decide.mpr ⟨fun h => ⟨h0, h⟩, fun h => h.2⟩
      · rw [if_neg h0]
        congr 1
        unfold okNet
        exact (decide_eq_false (fun h => h0 h.1)).symm
theorem ck_ev (b : Bool) (l : List S48) (hl : l.length ≤ 140737488355328) : Ev (fun k => cidr_Check.f k b l) (decide (l.length ≤ 4) && l.all okNet) := by
  obtain ⟨K, q⟩ := ck_loop l hl l.length 0 (decide ((l.length : Int) ≤ 4)) (by omega)
  refine ⟨K, fun k hk => ?_⟩
  have e := q k hk
  rw [List.drop_zero] at e
  show cidr_Check.l0 k (decide ((l.length : Int) ≤ 4)) l (l.length : Int) 0 = _
  refine Eq.trans e ?_
  congr 2
  exact decide_eq_decide.mpr ⟨fun h => by omega, fun h => by omega⟩
theorem has_some (x : S48) (a : Int) (h : okNet x = true) : cidr_has.f x.f0 x.f1 a = some (inNet x a) := by
  unfold okNet at h
  have h := of_decide_eq_true h
  unfold cidr_has.f
  rw [if_pos (by omega)]
  rfl
theorem hn_loop (l : List S48) (a : Int) (no : Bool) (l2 : List S48) (hl : l.length ≤ 140737488355328) (hok : l.all okNet = true) : ∀ (d i : Nat) (b : Bool), i + d = l.length → Ev (fun k => cidr_Has.l0 k a b l (l.length : Int) (i : Int) no l2) ((b || (l.drop i).any (inNet · a)) != no) := by
  intro d
  induction d with
  | zero =>
    intro i b hi
    refine ⟨1, fun k hk => ?_⟩
    obtain ⟨k, rfl⟩ : ∃ n, k = n + 1 := ⟨k - 1, by omega⟩
    simp only [cidr_Has.l0]
    rw [if_neg (by omega), List.drop_of_length_le (by omega)]
    simp
  | succ d ih =>
    intro i b hi
    have hlt : i < l.length := by omega
    obtain ⟨K, q⟩ := ih (i + 1) (b || inNet l[i] a) (by omega)
    have hx : okNet l[i] = true := List.all_eq_true.mp hok _ (List.getElem_mem hlt)
    refine ⟨K + 1, fun k hk => ?_⟩
    obtain ⟨k, rfl⟩ : ∃ n, k = n + 1 := ⟨k - 1, by omega⟩
    have e : cidr_Has.l0 k a (b || inNet l[i] a) l (l.length : Int) ((i + 1 : Nat) : Int) no l2 = some (((b || inNet l[i] a) || (l.drop (i + 1)).any (inNet · a)) != no) := q k (by omega)
    simp only [cidr_Has.l0]
    rw [if_pos (by omega), if_pos (Int.natCast_nonneg _), if_pos (by omega), rd48 l i hlt, word_next i l.length hlt hl, List.drop_eq_getElem_cons hlt, List.any_cons, ← Bool.or_assoc, ← e]
    cases b
    · rw [if_neg Bool.false_ne_true, has_some _ a hx, Option.bind_some, Bool.false_or]
    · rw [if_pos rfl, Bool.true_or]
def setHas (no : Bool) (l : List S48) (a : Int) : Bool := if l.length ≤ 4 ∧ l.all okNet = true then ((decide (l.length = 0) || l.any (inNet · a)) != no) else false
theorem hn_ev (no : Bool) (l : List S48) (a : Int) (hl : l.length ≤ 140737488355328) : Ev (fun k => cidr_Has.f k no l a) (setHas no l a) := by
  obtain ⟨K1, q1⟩ := ck_ev no l hl
  unfold setHas
  by_cases h : l.length ≤ 4 ∧ l.all okNet = true
  · obtain ⟨K2, q2⟩ := hn_loop l a no l hl h.2 l.length 0 ((l.length : Int) == 0) (by omega)
    refine ⟨K1 + K2, fun k hk => ?_⟩
    have e1 : cidr_Check.f k no l = some (decide (l.length ≤ 4) && l.all okNet) := q1 k (by omega)
    have e2 : cidr_Has.l0 k a ((l.length : Int) == 0) l (l.length : Int) 0 no l = some ((((l.length : Int) == 0) || (l.drop 0).any (inNet · a)) != no) := q2 k (by omega)
    rw [decide_eq_true h.1, h.2, Bool.and_self] at e1
    simp only [cidr_Has.f]
    rw [e1, Option.bind_some, if_pos rfl, if_pos h, e2, List.drop_zero]
    congr 3
    rw [Bool.eq_iff_iff]
    simp
  · refine ⟨K1, fun k hk => ?_⟩
    have e1 : cidr_Check.f k no l = some (decide (l.length ≤ 4) && l.all okNet) := q1 k (by omega)
    simp only [cidr_Has.f]
    rw [e1, Option.bind_some, if_neg h, if_neg]
    intro h2
    rw [Bool.and_eq_true] at h2
    exact h ⟨of_decide_eq_true h2.1, h2.2⟩
theorem cp_loop (l : List S50) (hl : l.length ≤ 140737488355328) : ∀ (d i : Nat) (b : Bool), i + d = l.length → Ev (fun k => ports_Check.l0 k b l (l.length : Int) (i : Int)) (b && (l.drop i).all okSpan) := by
  intro d
  induction d with
  | zero =>
    intro i b hi
    refine ⟨1, fun k hk => ?_⟩
    obtain ⟨k, rfl⟩ : ∃ n, k = n + 1 := ⟨k - 1, by omega⟩
    simp only [ports_Check.l0]
    rw [if_neg (by omega), List.drop_of_length_le (by omega)]
    simp
  | succ d ih =>
    intro i b hi
    have hlt : i < l.length := by omega
    obtain ⟨K, q⟩ := ih (i + 1) (b && okSpan l[i]) (by omega)
    refine ⟨K + 1, fun k hk => ?_⟩
    obtain ⟨k, rfl⟩ : ∃ n, k = n + 1 := ⟨k - 1, by omega⟩
    have e : ports_Check.l0 k (b && okSpan l[i]) l (l.length : Int) ((i + 1 : Nat) : Int) = some ((b && okSpan l[i]) && (l.drop (i + 1)).all okSpan) := q k (by omega)
    simp only [ports_Check.l0]
    rw [if_pos (by omega), if_pos (Int.natCast_nonneg _), if_pos (by omega), rd50 l i hlt, word_next i l.length hlt hl, List.drop_eq_getElem_cons hlt, List.all_cons, ← Bool.and_assoc, ← e]
    cases b
    · rw [if_neg Bool.false_ne_true, Bool.false_and]
    · rw [if_pos rfl, Bool.true_and]
      by_cases h0 : l[i].f0 ≥ 0
      · rw [if_pos h0]
        by_cases h1 : l[i].f0 ≤ l[i].f1
        · rw [if_pos h1]
          congr 1
          unfold okSpan
          exact decide_eq_decide.mpr ⟨fun h => ⟨h0, h1, h⟩, fun h => h.2.2⟩
        · rw [if_neg h1]
          congr 1
          unfold okSpan
          exact (decide_eq_false (fun h => h1 h.2.1)).symm
      · rw [if_neg h0]
        congr 1
        unfold okSpan
        exact (decide_eq_false (fun h => h0 h.1)).symm
theorem cp_ev (b : Bool) (l : List S50) (hl : l.length ≤ 140737488355328) : Ev (fun k => ports_Check.f k b l) (decide (l.length ≤ 4) && l.all okSpan) := by
  obtain ⟨K, q⟩ := cp_loop l hl l.length 0 (decide ((l.length : Int) ≤ 4)) (by omega)
  refine ⟨K, fun k hk => ?_⟩
  have e := q k hk
  rw [List.drop_zero] at e
  show ports_Check.l0 k (decide ((l.length : Int) ≤ 4)) l (l.length : Int) 0 = _
  refine Eq.trans e ?_
  congr 2
  exact decide_eq_decide.mpr ⟨fun h => by omega, fun h => by omega⟩
theorem hp_loop (l : List S50) (a : Int) (no : Bool) (l2 : List S50) (hl : l.length ≤ 140737488355328) : ∀ (d i : Nat) (b : Bool), i + d = l.length → Ev (fun k => ports_Has.l0 k a b l (l.length : Int) (i : Int) no l2) ((b || (l.drop i).any (inSpan · a)) != no) := by
  intro d
  induction d with
  | zero =>
    intro i b hi
    refine ⟨1, fun k hk => ?_⟩
    obtain ⟨k, rfl⟩ : ∃ n, k = n + 1 := ⟨k - 1, by omega⟩
    simp only [ports_Has.l0]
    rw [if_neg (by omega), List.drop_of_length_le (by omega)]
    simp
  | succ d ih =>
    intro i b hi
    have hlt : i < l.length := by omega
    obtain ⟨K, q⟩ := ih (i + 1) (b || inSpan l[i] a) (by omega)
    refine ⟨K + 1, fun k hk => ?_⟩
    obtain ⟨k, rfl⟩ : ∃ n, k = n + 1 := ⟨k - 1, by omega⟩
    have e : ports_Has.l0 k a (b || inSpan l[i] a) l (l.length : Int) ((i + 1 : Nat) : Int) no l2 = some (((b || inSpan l[i] a) || (l.drop (i + 1)).any (inSpan · a)) != no) := q k (by omega)
    simp only [ports_Has.l0]
    rw [if_pos (by omega), if_pos (Int.natCast_nonneg _), if_pos (by omega), rd50 l i hlt, word_next i l.length hlt hl, List.drop_eq_getElem_cons hlt, List.any_cons, ← Bool.or_assoc, ← e]
    cases b
    · rw [if_neg Bool.false_ne_true, Bool.false_or]
      by_cases h0 : a ≥ l[i].f0
      · rw [if_pos h0]
        congr 1
        unfold inSpan
        exact decide_eq_decide.mpr ⟨fun h => ⟨h0, h⟩, fun h => h.2⟩
      · rw [if_neg h0]
        congr 1
        unfold inSpan
        exact (decide_eq_false (fun h => h0 h.1)).symm
    · rw [if_pos rfl, Bool.true_or]
def portHas (no : Bool) (l : List S50) (a : Int) : Bool := if (l.length ≤ 4 ∧ l.all okSpan = true) ∧ 0 ≤ a ∧ a ≤ 65535 then ((decide (l.length = 0) || l.any (inSpan · a)) != no) else false
theorem hp_j0 (no : Bool) (l : List S50) (a : Int) (k : Nat) : ports_Has.j0 (k + 1) a true no l = some false := by
  simp only [ports_Has.j0, if_true]
theorem hp_ev (no : Bool) (l : List S50) (a : Int) (hl : l.length ≤ 140737488355328) : Ev (fun k => ports_Has.f k no l a) (portHas no l a) := by
  obtain ⟨K1, q1⟩ := cp_ev no l hl
  obtain ⟨K2, q2⟩ := hp_loop l a no l hl l.length 0 ((l.length : Int) == 0) (by omega)
  unfold portHas
  refine ⟨K1 + K2 + 1, fun k hk => ?_⟩
  obtain ⟨k, rfl⟩ : ∃ n, k = n + 1 := ⟨k - 1, by omega⟩
  have e1 : ports_Check.f (k + 1) no l = some (decide (l.length ≤ 4) && l.all okSpan) := q1 (k + 1) (by omega)
  have e2 : ports_Has.l0 k a ((l.length : Int) == 0) l (l.length : Int) 0 no l = some ((((l.length : Int) == 0) || (l.drop 0).any (inSpan · a)) != no) := q2 k (by omega)
  simp only [ports_Has.f]
  by_cases h : l.length ≤ 4 ∧ l.all okSpan = true
  · rw [decide_eq_true h.1, h.2, Bool.and_self] at e1
    rw [e1, Option.bind_some, if_pos rfl]
    by_cases h0 : a < 0
    · rw [if_pos h0, hp_j0, if_neg (fun h => by omega)]
    by_cases h1 : a > 65535
    · rw [if_neg h0, decide_eq_true h1, hp_j0, if_neg (fun h => by omega)]
    rw [if_neg h0, decide_eq_false h1, if_pos ⟨h, by omega, by omega⟩]
    simp only [ports_Has.j0, Bool.false_eq_true, if_false]
    rw [e2, List.drop_zero]
    congr 3
    rw [Bool.eq_iff_iff]
    simp
  · rw [e1, Option.bind_some, if_neg, hp_j0, if_neg (fun h2 => h h2.1)]
    intro h2
    rw [Bool.and_eq_true] at h2
    exact h ⟨of_decide_eq_true h2.1, h2.2⟩
/-- What a rule's numbers and lists are held to. -/
def small (r : S37) : Prop := r.f2.f1.length ≤ 140737488355328 ∧ r.f3.f1.length ≤ 140737488355328 ∧ r.f4.f1.length ≤ 140737488355328 ∧ r.f5.f1.length ≤ 140737488355328
def sendB (r : S37) (a p : Int) : Bool := setHas r.f2.f0 r.f2.f1 a && portHas r.f3.f0 r.f3.f1 p
def recvB (r : S37) (a p : Int) : Bool := setHas r.f4.f0 r.f4.f1 a && portHas r.f5.f0 r.f5.f1 p
def wayB (r : S37) (a p b q : Int) : Bool := (sendB r a p && recvB r b q) || (r.f6 && sendB r b q && recvB r a p)
def flowB (r : S37) (dir : Int) : Bool := decide (r.f7 = 0 ∨ r.f7 = 1 ∧ dir = 0 ∨ r.f7 = 2 ∧ dir = 1)
def fitsB (r : S37) (pr src dst sp dp dir : Int) : Bool :=
  if dir < 0 ∨ dir > 1 ∨ r.f1 ≠ 0 ∧ r.f1 ≠ pr then false else (if dir = 1 then wayB r dst dp src sp else wayB r src sp dst dp) && flowB r dir
end Go.Proofs.Ytbbafhpnlmmjjaa.QA
