/- What is proved: the plain statement of GroupFlows: a rule for the server's side fits the client's direction alone, one for the client's the other, one for any both; so by themselves and among others. Conditions: numbers of their kinds, sizes as the row gives them, nothing else. -/
import Derived.Test.YtbbafhpnlmmjjaaQAGroupAwake
import Derived.Test.YtbbafhpnlmmjjaaQAPlaceLib
import Derived.Test.YtbbafhpnlmmjjaaHAx7
namespace Go.Proofs.Ytbbafhpnlmmjjaa.Pure
open Go.RowKit Go.Proofs.Ytbbafhpnlmmjjaa.QA Go.Proofs.Ytbbafhpnlmmjjaa.HA Go.Proofs.YtbbafhpnlmmjjaaW.PrintWords Go.Proofs.YtbbafhpnlmmjjaaW.PrintLast Go.Proofs.YtbbafhpnlmmjjaaW.PrintMore
set_option linter.unusedVariables false
set_option linter.unusedSimpArgs false
def ru (fl sid : Int) : S37 := ⟨1, 0, ⟨false, []⟩, ⟨false, []⟩, ⟨false, []⟩, ⟨false, []⟩, false, fl, [], sid, 1⟩
theorem ru_small (fl sid : Int) : small (ru fl sid) := ⟨Nat.zero_le _, Nat.zero_le _, Nat.zero_le _, Nat.zero_le _⟩
theorem set_empty (a : Int) : setHas false [] a = true := rfl
theorem port_empty (p : Int) (h : 0 ≤ p ∧ p ≤ 65535) : portHas false [] p = true := by
  unfold portHas
  rw [if_pos ⟨⟨by decide, rfl⟩, h.1, h.2⟩]
  rfl
theorem ru_fits (fl sid pr src dst sp dp dir : Int) (h1 : 0 ≤ sp ∧ sp ≤ 65535) (h2 : 0 ≤ dp ∧ dp ≤ 65535) (hd : dir = 0 ∨ dir = 1) : fitsB (ru fl sid) pr src dst sp dp dir = decide (fl = 0 ∨ fl = 1 + dir) := by
  have s : ∀ a p b q, 0 ≤ p ∧ p ≤ 65535 → 0 ≤ q ∧ q ≤ 65535 → wayB (ru fl sid) a p b q = true := fun a p b q hp hq => by
    unfold wayB sendB recvB
    show ((setHas false [] a && portHas false [] p) && (setHas false [] b && portHas false [] q) || _) = true
    rw [set_empty, set_empty, port_empty p hp, port_empty q hq]
    rfl
  unfold fitsB
  rw [if_neg (show ¬ (dir < 0 ∨ dir > 1 ∨ (ru fl sid).f1 ≠ 0 ∧ (ru fl sid).f1 ≠ pr) from fun h => by
    have : (ru fl sid).f1 = 0 := rfl
    omega), s dst dp src sp h2 h1, s src sp dst dp h1 h2]
  have e : (if dir = 1 then true else true) = true := by split <;> rfl
  rw [e, Bool.true_and]
  unfold flowB
  show decide (fl = 0 ∨ fl = 1 ∧ dir = 0 ∨ fl = 2 ∧ dir = 1) = _
  exact decide_eq_decide.mpr ⟨fun h => by omega, fun h => by omega⟩
def good (R : List S37) : Prop := R.length ≤ 30 ∧ ∀ r ∈ R, ∃ fl sid, r = ru fl sid
theorem word_len (n : Nat) (h : n ≤ 1000) : wrap64 ((n : Int) + 1) = ((n + 1 : Nat) : Int) := by unfold wrap64; omega
theorem word_dir (d : Int) (h : d = 0 ∨ d = 1) : wrap64 (1 + d) = 1 + d := by unfold wrap64; omega
theorem good_small {R : List S37} (h : good R) : ∀ r ∈ R, small r := fun r hr => by
  obtain ⟨fl, sid, rfl⟩ := h.2 r hr
  exact ru_small fl sid
theorem rd_mid (P : List Int) (x : Int) (Q : List Int) : rd (P ++ x :: Q) (P.length : Int) = x := by
  unfold rd
  simp [List.getD]
theorem l2_ev (R : List S37) (hR : good R) (pr src dst sp dp dir : Int) (h1 : 0 ≤ sp ∧ sp ≤ 65535) (h2 : 0 ≤ dp ∧ dp ≤ 65535) (hd : dir = 0 ∨ dir = 1) (hn : Ev (fun k => rampartlaw18_GroupFlows.l1 k R (wrap64 (dir + 1)) pr src dst sp dp) true) :
    ∀ (d i : Nat) (P : List Int), i + d = R.length → P.length ≤ i → Ev (fun k => rampartlaw18_GroupFlows.l2 k R dir (P ++ picks (fitsB · pr src dst sp dp dir) (R.drop i) i) (P.length : Int) (i : Int) pr src dst sp dp) true := by
  intro d
  induction d with
  | zero =>
    intro i P hi hP
    obtain ⟨K, q⟩ := hn
    refine ⟨K + 1, fun k hk => ?_⟩
    obtain ⟨k, rfl⟩ : ∃ n, k = n + 1 := ⟨k - 1, by omega⟩
    have e : rampartlaw18_GroupFlows.l1 k R (wrap64 (dir + 1)) pr src dst sp dp = some true := q k (by omega)
    have e0 : P ++ picks (fitsB · pr src dst sp dp dir) (R.drop i) i = P := by
      rw [List.drop_of_length_le (by omega)]
      simp [picks]
    show rampartlaw18_GroupFlows.l2 (k + 1) R dir (P ++ picks (fitsB · pr src dst sp dp dir) (R.drop i) i) (P.length : Int) (i : Int) pr src dst sp dp = some true
    rw [e0]
    simp only [rampartlaw18_GroupFlows.l2]
    rw [if_neg (by omega), if_pos trivial, e]
  | succ d ih =>
    intro i P hi hP
    have hlt : i < R.length := by omega
    have hl30 := hR.1
    have hi30 : i ≤ 1000 := by omega
    have hP30 : P.length ≤ 1000 := by omega
    have hiR : (i : Int) < (R.length : Int) := by omega
    obtain ⟨fl, sid, hr⟩ := hR.2 _ (List.getElem_mem hlt)
    obtain ⟨K1, q1⟩ := fits_ev R[i] pr src dst sp dp dir (good_small hR _ (List.getElem_mem hlt))
    obtain ⟨K2, q2⟩ := ih (i + 1) (P ++ [(i : Int)]) (by omega) (by simp; omega)
    obtain ⟨K3, q3⟩ := ih (i + 1) P (by omega) (by omega)
    have hf : fitsB R[i] pr src dst sp dp dir = decide (fl = 0 ∨ fl = 1 + dir) := by rw [hr]; exact ru_fits fl sid pr src dst sp dp dir h1 h2 hd
    have h7 : R[i].f7 = fl := by rw [hr]; rfl
    have wd := word_dir dir hd
    have wi := word_len i hi30
    have wP : wrap64 ((P.length : Int) + 1) = (((P ++ [(i : Int)]).length : Nat) : Int) := by
      rw [List.length_append]
      exact word_len P.length hP30
    have HF := Aside0.mk hf
    have H7 := Aside0.mk h7
    have HRR := Aside0.mk hr
    clear hf h7 hr
    refine ⟨K1 + K2 + K3 + 3, fun k hk => ?_⟩
    obtain ⟨k, rfl⟩ : ∃ n, k = n + 3 := ⟨k - 3, by omega⟩
    have e1 : group_Fits.f (k + 1) R[i].f0 R[i].f1 R[i].f2.f0 R[i].f2.f1 R[i].f3.f0 R[i].f3.f1 R[i].f4.f0 R[i].f4.f1 R[i].f5.f0 R[i].f5.f1 R[i].f6 R[i].f7 R[i].f8 R[i].f9 R[i].f10 pr src dst sp dp dir = some (fitsB R[i] pr src dst sp dp dir) := q1 (k + 1) (by omega)
    have e2 : rampartlaw18_GroupFlows.l2 k R dir ((P ++ [(i : Int)]) ++ picks (fitsB · pr src dst sp dp dir) (R.drop (i + 1)) (i + 1)) (((P ++ [(i : Int)]).length : Nat) : Int) ((i + 1 : Nat) : Int) pr src dst sp dp = some true := q2 k (by omega)
    have e3 : rampartlaw18_GroupFlows.l2 k R dir (P ++ picks (fitsB · pr src dst sp dp dir) (R.drop (i + 1)) (i + 1)) (P.length : Int) ((i + 1 : Nat) : Int) pr src dst sp dp = some true := q3 k (by omega)
    have ed : R.drop i = R[i] :: R.drop (i + 1) := List.drop_eq_getElem_cons hlt
    have hpk : picks (fitsB · pr src dst sp dp dir) (R.drop i) i = if fitsB R[i] pr src dst sp dp dir = true then (i : Int) :: picks (fitsB · pr src dst sp dp dir) (R.drop (i + 1)) (i + 1) else picks (fitsB · pr src dst sp dp dir) (R.drop (i + 1)) (i + 1) := by
      rw [ed]; rfl
    obtain ⟨Q, hQ⟩ : ∃ Q, picks (fitsB · pr src dst sp dp dir) (R.drop (i + 1)) (i + 1) = Q := ⟨_, rfl⟩
    rw [hQ] at e2 e3 hpk
    obtain ⟨X, hX⟩ : ∃ X, P ++ picks (fitsB · pr src dst sp dp dir) (R.drop i) i = X := ⟨_, rfl⟩
    have j4 : ∀ b : Bool, b = fitsB R[i] pr src dst sp dp dir → rampartlaw18_GroupFlows.j4 (k + 2) R dir X (P.length : Int) (i : Int) b pr src dst sp dp = some true := by
      intro b hb
      have hne : (fitsB R[i] pr src dst sp dp dir != b) = false := by rw [hb]; exact bne_self_eq_false _
      simp only [rampartlaw18_GroupFlows.j4]
      rw [if_pos (Int.natCast_nonneg _), if_pos hiR, rd37 R i hlt, e1, Option.bind_some, hne, if_neg Bool.false_ne_true]
      cases b
      · rw [if_neg Bool.false_ne_true]
        simp only [rampartlaw18_GroupFlows.j5, Bool.false_eq_true, if_false]
        rw [← hb, if_neg Bool.false_ne_true] at hpk
        rw [wi, ← hX, hpk]
        exact e3
      · rw [← hb, if_pos rfl] at hpk
        have hXl : X = P ++ (i : Int) :: Q := by rw [← hX, hpk]
        have hlen : X.length = P.length + (Q.length + 1) := by rw [hXl]; simp
        have hrd : rd X (P.length : Int) = (i : Int) := by rw [hXl]; exact rd_mid P (i : Int) Q
        rw [if_pos rfl, if_neg (show ¬ (P.length : Int) ≥ (X.length : Int) by omega), if_pos (Int.natCast_nonneg _), if_pos (show (P.length : Int) < (X.length : Int) by omega), hrd, show ((i : Int) != (i : Int)) = false from bne_self_eq_false _]
        simp only [rampartlaw18_GroupFlows.j5, Bool.false_eq_true, if_false, if_true]
        rw [wi, wP, hXl]
        rw [List.append_assoc] at e2
        exact e2
    show rampartlaw18_GroupFlows.l2 (k + 3) R dir (P ++ picks (fitsB · pr src dst sp dp dir) (R.drop i) i) (P.length : Int) (i : Int) pr src dst sp dp = some true
    rw [hX]
    simp only [rampartlaw18_GroupFlows.l2]
    rw [if_pos hiR, if_pos (Int.natCast_nonneg _), rd37 R i hlt, H7.out, wd]
    by_cases c : fl = 0
    · rw [if_pos c]
      exact j4 true (by rw [HF.out, decide_eq_true (Or.inl c)])
    · rw [if_neg c]
      refine j4 _ ?_
      rw [HF.out]
      rw [Bool.eq_iff_iff]
      simp [c]
theorem l1_ev (R : List S37) (hR : good R) (pr src dst sp dp : Int) (h1 : 0 ≤ sp ∧ sp ≤ 65535) (h2 : 0 ≤ dp ∧ dp ≤ 65535) : Ev (fun k => rampartlaw18_GroupFlows.l1 k R 0 pr src dst sp dp) true := by
  have hl30 := hR.1
  have s2 : Ev (fun k => rampartlaw18_GroupFlows.l1 k R 2 pr src dst sp dp) true := by
    obtain ⟨K, q⟩ := grAwake_ev
    refine ⟨K + 1, fun k hk => ?_⟩
    obtain ⟨k, rfl⟩ : ∃ n, k = n + 1 := ⟨k - 1, by omega⟩
    have e : rampartlaw18_awake.f k = some true := q k (by omega)
    simp only [rampartlaw18_GroupFlows.l1]
    rw [if_neg (by decide), e, Option.bind_some]
  have step : ∀ dir : Int, (dir = 0 ∨ dir = 1) → Ev (fun k => rampartlaw18_GroupFlows.l1 k R (wrap64 (dir + 1)) pr src dst sp dp) true → Ev (fun k => rampartlaw18_GroupFlows.l1 k R dir pr src dst sp dp) true := by
    intro dir hd hn
    obtain ⟨K1, q1⟩ := pick_ev R pr src dst sp dp dir (by omega) (good_small hR)
    obtain ⟨K2, q2⟩ := l2_ev R hR pr src dst sp dp dir h1 h2 hd hn R.length 0 [] (by omega) (by simp)
    refine ⟨K1 + K2 + 1, fun k hk => ?_⟩
    obtain ⟨k, rfl⟩ : ∃ n, k = n + 1 := ⟨k - 1, by omega⟩
    have e1 : group_Pick.f k R pr src dst sp dp dir = some (picks (fitsB · pr src dst sp dp dir) R 0) := q1 k (by omega)
    have e2 : rampartlaw18_GroupFlows.l2 k R dir (picks (fitsB · pr src dst sp dp dir) R 0) 0 0 pr src dst sp dp = some true := q2 k (by omega)
    simp only [rampartlaw18_GroupFlows.l1]
    rw [if_pos (by omega), e1, Option.bind_some]
    exact e2
  have w1 : wrap64 ((0 : Int) + 1) = 1 := by unfold wrap64; omega
  have w2 : wrap64 ((1 : Int) + 1) = 2 := by unfold wrap64; omega
  exact step 0 (Or.inl rfl) (by rw [w1]; exact step 1 (Or.inr rfl) (by rw [w2]; exact s2))
theorem l0_ev (l : List Int) (hv : ∀ (j : Nat) (h : j < l.length), -9223372036854775808 ≤ l[j] ∧ l[j] ≤ 9223372036854775807) (pr src dst sp dp : Int) (h1 : 0 ≤ sp ∧ sp ≤ 65535) (h2 : 0 ≤ dp ∧ dp ≤ 65535) :
    ∀ (d i : Nat) (R : List S37), i + d = 30 → R.length = i → good R → Ev (fun k => rampartlaw18_GroupFlows.l0 k l R (i : Int) pr src dst sp dp) true := by
  have out : ∀ R, good R → Ev (fun k => rampartlaw18_GroupFlows.j1 k R pr src dst sp dp) true := fun R hR => by
    obtain ⟨K, q⟩ := l1_ev R hR pr src dst sp dp h1 h2
    refine ⟨K + 1, fun k hk => ?_⟩
    obtain ⟨k, rfl⟩ : ∃ n, k = n + 1 := ⟨k - 1, by omega⟩
    simp only [rampartlaw18_GroupFlows.j1]
    exact q k (by omega)
  intro d
  induction d with
  | zero =>
    intro i R hi hRl hR
    obtain ⟨K, q⟩ := out R hR
    refine ⟨K + 1, fun k hk => ?_⟩
    obtain ⟨k, rfl⟩ : ∃ n, k = n + 1 := ⟨k - 1, by omega⟩
    have e : rampartlaw18_GroupFlows.j1 k R pr src dst sp dp = some true := q k (by omega)
    simp only [rampartlaw18_GroupFlows.l0]
    by_cases c : (i : Int) < (l.length : Int)
    · rw [if_pos c, if_neg (by omega), e]
    · rw [if_neg c, e]
  | succ d ih =>
    intro i R hi hRl hR
    by_cases c : (i : Int) < (l.length : Int)
    · have hlt : i < l.length := by omega
      have hr : rd l (i : Int) = l[i] := by
        unfold rd
        simp [List.getD, List.getElem?_eq_getElem hlt]
      have hp := at_some l[i] 3 (by omega) (by omega) (hv i hlt)
      have wi : wrap64 ((i : Int) + 1) = ((i + 1 : Nat) : Int) := by unfold wrap64; omega
      obtain ⟨K, q⟩ := ih (i + 1) (R ++ [ru (l[i] % 3) (wrap64 (1 + (i : Int)))]) (by omega) (by simp; omega) ⟨by simp; omega, fun r hr2 => by
        rcases List.mem_append.1 hr2 with h | h
        · exact hR.2 r h
        · have : r = ru (l[i] % 3) (wrap64 (1 + (i : Int))) := by simpa using h
          exact ⟨_, _, this⟩⟩
      refine ⟨K + 1, fun k hk => ?_⟩
      obtain ⟨k, rfl⟩ : ∃ n, k = n + 1 := ⟨k - 1, by omega⟩
      have e : rampartlaw18_GroupFlows.l0 k l (R ++ [ru (l[i] % 3) (wrap64 (1 + (i : Int)))]) ((i + 1 : Nat) : Int) pr src dst sp dp = some true := q k (by omega)
      simp only [rampartlaw18_GroupFlows.l0]
      rw [if_pos c, if_pos (by omega), if_pos (Int.natCast_nonneg _), hr, hp, Option.bind_some, if_pos (by omega), wi]
      exact e
    · obtain ⟨K, q⟩ := out R hR
      refine ⟨K + 1, fun k hk => ?_⟩
      obtain ⟨k, rfl⟩ : ∃ n, k = n + 1 := ⟨k - 1, by omega⟩
      have e : rampartlaw18_GroupFlows.j1 k R pr src dst sp dp = some true := q k (by omega)
      simp only [rampartlaw18_GroupFlows.l0]
      rw [if_neg c, e]
theorem GroupFlows (l : List Int) (p s d sp dp : Int) (hl : ∀ n ∈ l, (Lit.int .i64 n).wf = true) (_ : (Lit.int .i64 p).wf = true) (_ : (Lit.int .u32 s).wf = true) (_ : (Lit.int .u32 d).wf = true) (h3 : (Lit.int .i64 sp).wf = true) (h4 : (Lit.int .i64 dp).wf = true) :
    ∃ k, rampartlaw18_GroupFlows.f k l p s d sp dp = some true := by
  have h3 := bounds_i64 h3
  have h4 := bounds_i64 h4
  have a1 := at_some sp 65536 (by omega) (by omega) h3
  have a2 := at_some dp 65536 (by omega) (by omega) h4
  have r1 : 0 ≤ sp % 65536 ∧ sp % 65536 ≤ 65535 := by omega
  have r2 : 0 ≤ dp % 65536 ∧ dp % 65536 ≤ 65535 := by omega
  generalize sp % 65536 = x at a1 r1
  generalize dp % 65536 = y at a2 r2
  obtain ⟨K, q⟩ := l0_ev l (fun j h => bounds_i64 (hl _ (List.getElem_mem h))) 6 s d x y r1 r2 30 0 [] rfl rfl ⟨Nat.zero_le _, fun r hr => by cases hr⟩
  refine ⟨K, ?_⟩
  have e : rampartlaw18_GroupFlows.l0 K l ([] : List S37) 0 6 s d x y = some true := q K (Nat.le_refl _)
  simp only [rampartlaw18_GroupFlows.f]
  rw [a1, Option.bind_some, a2, Option.bind_some]
  exact e
end Go.Proofs.Ytbbafhpnlmmjjaa.Pure
