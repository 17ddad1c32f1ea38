/- What is proved: the law of ends. Conditions: those that stand in each theorem. -/
import Derived.Test.YtieolnekccacbaaDirLaw2
namespace Go.Proofs.Ytieolnekccacbaa
set_option linter.unusedVariables false
set_option linter.unusedSimpArgs false
set_option linter.unusedSectionVars false
open Go.RowKit Go.Maps Go.MapKept Go.ChangeMaps Fw
def em : ByteArray := ⟨#[]⟩
def es1 (start : Int) (N : Nat) : DS := ⟨start, 200, 200, 0, [], em, N, false⟩
def es2 (start : Int) (text : ByteArray) : DS := ⟨start, 200, 200, text.size, [], text, text.size, true⟩
theorem extract_same (s : ByteArray) (a : Nat) : s.extract a a = em := by
  apply empty_of
  rw [ByteArray.size_extract]
  omega
theorem extract_app (a b : ByteArray) : (a ++ b).extract 0 a.size = a := by
  apply ByteArray.ext
  rw [ByteArray.data_extract, ByteArray.data_append]
  show (a.data ++ b.data).extract 0 a.data.size = a.data
  rw [Array.extract_append_left, Array.extract_size]
theorem filter_none0 {l : List (Int × Int)} {pl : Int} : l.filter (fun q => !(decide (pl ≤ q.1) && decide (q.1 < pl + ((0 : Nat) : Int)))) = l := by
  apply List.filter_eq_self.2
  intro q _
  simp only [Bool.not_eq_true', Bool.and_eq_false_iff, decide_eq_false_iff_not]
  omega
theorem keep_200 (s : ByteArray) (h : s.size ≤ 200) : keep s 200 = s := keep_self (by simpa using h)
theorem end_first (start : Int) (hs : 0 ≤ start ∧ start < 4294967296) (N : Nat) (hN : N ≤ 50) :
    (DS.new start 200 200).push ((start + N) % 4294967296) em true = if N = 0 then (es2 start em, ⟨1, 0, em, true⟩) else (es1 start N, ⟨4, 0, em, false⟩) := by
  unfold DS.push
  rw [if_neg (by intro h; cases h.2)]
  have e : plc (DS.new start 200 200).start ((start + (N : Int)) % 4294967296) (DS.new start 200 200).pl = N := plc_at hs (Int.le_refl 0) (by show _ ≤ (N : Int) - 0; omega) (by show (N : Int) - 0 < _; omega)
  rw [e]
  have t : (DS.new start 200 200).trim N ((N : Int) + em.size) em true = ((N : Int), em, true) := by
    unfold DS.trim
    rw [if_pos (by show (-1 : Int) < 0; decide)]
    show ((N : Int) + ((0 : Nat) : Int), em, true) = _
    rw [Int.ofNat_zero, Int.add_zero]
  rw [t, if_neg (by show ¬ (0 : Int) + 200 < (N : Int); omega)]
  have hfn : (N : Int) = if true = true ∧ (DS.new start 200 200).fin < 0 ∧ (DS.new start 200 200).pl ≤ N ∧ far (DS.new start 200 200).held N = false then (N : Int) else (DS.new start 200 200).fin :=
    (if_pos ⟨rfl, by show (-1 : Int) < 0; decide, by show (0 : Int) ≤ N; omega, rfl⟩).symm
  have hE : (ins (DS.new start 200 200).held N em.data.toList (DS.new start 200 200).pl).lookup ((DS.new start 200 200).pl + ((0 : Nat) : Int)) = none ∨ (DS.new start 200 200).pl + ((0 : Nat) : Int) = N := .inl rfl
  by_cases h0 : N = 0
  · subst h0
    have h4 : es2 start em = ⟨start, 200, 200, 0 + ((0 : Nat) : Int), (ins [] ((0 : Nat) : Int) em.data.toList 0).filter (fun q => !(decide ((0 : Int) ≤ q.1) && decide (q.1 < 0 + ((0 : Nat) : Int)))), keep (em ++ strOfNums []) 200, ((0 : Nat) : Int), false || true⟩ := by
      rw [filter_none0, app_none]; rfl
    have := push2_eq (DS.new start 200 200) ((0 : Nat) : Int) ((0 : Nat) : Int) em true ((0 : Nat) : Int) hfn List.nodup_nil 0 (fun _ => 0) (fun i hi => absurd hi (Nat.not_lt_zero i)) hE true rfl (es2 start em) h4
    rw [this, if_pos (.inr rfl)]; rfl
  · have h4 : es1 start N = ⟨start, 200, 200, 0 + ((0 : Nat) : Int), (ins [] (N : Int) em.data.toList 0).filter (fun q => !(decide ((0 : Int) ≤ q.1) && decide (q.1 < 0 + ((0 : Nat) : Int)))), keep (em ++ strOfNums []) 200, (N : Int), false || false⟩ := by
      rw [filter_none0, app_none]; rfl
    have hl : false = (decide ((DS.new start 200 200).pl + ((0 : Nat) : Int) = (N : Int)) && !(DS.new start 200 200).done) := by
      rw [decide_eq_false (by show ¬ (0 : Int) + ((0 : Nat) : Int) = N; omega)]; rfl
    have := push2_eq (DS.new start 200 200) (N : Int) (N : Int) em true (N : Int) hfn List.nodup_nil 0 (fun _ => 0) (fun i hi => absurd hi (Nat.not_lt_zero i)) hE false hl (es1 start N) h4
    rw [this, if_neg (by simp), if_pos (by show (0 : Int) + ((0 : Nat) : Int) < N; omega), if_neg h0]; rfl
theorem end_text (start : Int) (hs : 0 ≤ start ∧ start < 4294967296) (text more : ByteArray) (hN : 1 ≤ text.size ∧ text.size ≤ 50) (hM : 1 ≤ more.size ∧ more.size ≤ 50) :
    (es1 start text.size).push start (text ++ more) false = (es2 start text, ⟨1, 0, text, true⟩) := by
  unfold DS.push
  rw [if_neg (by rw [ByteArray.size_append]; omega)]
  have e : plc (es1 start text.size).start start (es1 start text.size).pl = 0 := by
    have := plc_at (start := start) (o := 0) (near := 0) hs (by decide) (by decide) (by decide)
    rw [Int.add_zero, Int.emod_eq_of_lt hs.1 hs.2] at this
    exact this
  rw [e]
  have t : (es1 start text.size).trim 0 ((0 : Int) + (text ++ more).size) (text ++ more) false = ((text.size : Int), text, false) := by
    unfold DS.trim
    rw [if_neg (by show ¬ (text.size : Int) < 0; omega), if_neg (by show ¬ (0 : Int) + (text ++ more).size ≤ text.size; rw [ByteArray.size_append]; omega)]
    have e1 : max (text.size : Int) 0 = text.size := by omega
    show (max (text.size : Int) 0, (text ++ more).extract 0 (max (text.size : Int) 0 - 0).toNat, false) = _
    rw [e1, show ((text.size : Int) - 0).toNat = text.size by omega, extract_app]
  rw [t, if_neg (by show ¬ (0 : Int) + 200 < (text.size : Int); omega)]
  have hfn : (text.size : Int) = if false = true ∧ (es1 start text.size).fin < 0 ∧ (es1 start text.size).pl ≤ text.size ∧ far (es1 start text.size).held text.size = false then (text.size : Int) else (es1 start text.size).fin :=
    (if_neg (by intro h; cases h.1)).symm
  have hT : ∀ i : Nat, i < text.size → (ins (es1 start text.size).held 0 text.data.toList (es1 start text.size).pl).lookup ((es1 start text.size).pl + i) = some ((fun i : Nat => byteAt text.data.toList (((0 : Nat) : Int) + (i : Int))) i) ∧ (es1 start text.size).pl + i ≠ text.size := by
    intro i hi
    refine ⟨?_, by show (0 : Int) + i ≠ text.size; omega⟩
    show (ins [] 0 text.data.toList 0).lookup (0 + (i : Int)) = _
    rw [text_at, if_pos (by omega)]
    rfl
  have hE : (ins (es1 start text.size).held 0 text.data.toList (es1 start text.size).pl).lookup ((es1 start text.size).pl + (text.size : Int)) = none ∨ (es1 start text.size).pl + (text.size : Int) = text.size := by
    right
    show (0 : Int) + (text.size : Int) = _
    omega
  have hout : strOfNums ((List.range text.size).map fun i : Nat => byteAt text.data.toList (((0 : Nat) : Int) + (i : Int))) = text := by
    rw [nums_part text text.size 0 (by omega), Nat.zero_add]
    exact ByteArray.extract_zero_size
  have h4 : es2 start text = ⟨start, 200, 200, 0 + (text.size : Int), (ins [] 0 text.data.toList 0).filter (fun q => !(decide (0 ≤ q.1) && decide (q.1 < 0 + (text.size : Int)))), keep (em ++ strOfNums ((List.range text.size).map fun i : Nat => byteAt text.data.toList (((0 : Nat) : Int) + (i : Int)))) 200, text.size, false || true⟩ := by
    unfold es2
    rw [hout, show em = ⟨#[]⟩ from rfl, none_app, keep_200 _ (by omega)]
    congr 1
    · omega
    · symm
      apply List.filter_eq_nil_iff.2
      intro q hq
      have hm := lookup_of_mem (ins_nodup text.data.toList [] 0 0 List.nodup_nil) hq
      rw [text_at] at hm
      by_cases h2 : 0 ≤ q.1 ∧ q.1 < (text.size : Int)
      · simp only [Bool.not_eq_true, Bool.not_eq_false', Bool.and_eq_true, decide_eq_true_eq]; omega
      · rw [if_neg h2] at hm; cases hm
  have hl : true = (decide ((es1 start text.size).pl + (text.size : Int) = text.size) && !(es1 start text.size).done) := by
    rw [decide_eq_true (by show (0 : Int) + (text.size : Int) = text.size; omega)]; rfl
  rw [push2_eq (es1 start text.size) 0 text.size text false text.size hfn List.nodup_nil text.size _ hT hE true hl _ h4]
  rw [if_pos (.inr rfl), hout]; rfl
theorem end_old (start : Int) (text : ByteArray) (hN : text.size ≤ 50) (fin : Bool) : (es2 start text).push2 text.size text.size em fin = (es2 start text, ⟨2, text.size, em, fin⟩) := by
  have hfn : (text.size : Int) = if fin = true ∧ (es2 start text).fin < 0 ∧ (es2 start text).pl ≤ text.size ∧ far (es2 start text).held text.size = false then (text.size : Int) else (es2 start text).fin := by
    split <;> rfl
  have h4 : es2 start text = ⟨start, 200, 200, text.size + ((0 : Nat) : Int), (ins [] (text.size : Int) em.data.toList text.size).filter (fun q => !(decide ((text.size : Int) ≤ q.1) && decide (q.1 < (text.size : Int) + ((0 : Nat) : Int)))), keep (text ++ strOfNums []) 200, text.size, true || false⟩ := by
    rw [filter_none0, app_none, keep_200 _ (by omega)]; unfold es2; congr 1
  have hl : false = (decide ((es2 start text).pl + ((0 : Nat) : Int) = text.size) && !(es2 start text).done) := by
    show false = (_ && false)
    rw [Bool.and_false]
  have := push2_eq (es2 start text) text.size text.size em fin text.size hfn List.nodup_nil 0 (fun _ => 0) (fun i hi => absurd hi (Nat.not_lt_zero i)) (.inl rfl) false hl (es2 start text) h4
  rw [this, if_neg (by simp), if_neg (by show ¬ (text.size : Int) + ((0 : Nat) : Int) < text.size; omega), if_pos (by show (0 : Int) ≤ text.size ∧ (text.size : Int) + ((0 : Nat) : Int) - 200 ≤ text.size; omega), extract_same]
  congr 2
  show (fin && true && decide ((text.size : Int) = text.size)) = fin
  rw [decide_eq_true rfl, Bool.and_true, Bool.and_true]
theorem end_more (start : Int) (hs : 0 ≤ start ∧ start < 4294967296) (text more : ByteArray) (hN : text.size ≤ 50) (hM : 1 ≤ more.size ∧ more.size ≤ 50) :
    (es2 start text).push ((start + text.size) % 4294967296) more true = (es2 start text, ⟨2, text.size, em, false⟩) := by
  unfold DS.push
  rw [if_neg (by omega)]
  have e : plc (es2 start text).start ((start + (text.size : Int)) % 4294967296) (es2 start text).pl = text.size := plc_at hs (by show (0 : Int) ≤ text.size; omega) (by show _ ≤ (text.size : Int) - text.size; omega) (by show (text.size : Int) - text.size < _; omega)
  rw [e]
  have t : (es2 start text).trim text.size ((text.size : Int) + more.size) more true = ((text.size : Int), em, false) := by
    unfold DS.trim
    rw [if_neg (by show ¬ (text.size : Int) < 0; omega), if_neg (by show ¬ (text.size : Int) + more.size ≤ text.size; omega)]
    have e1 : max (text.size : Int) text.size = text.size := by omega
    show (max (text.size : Int) text.size, more.extract 0 (max (text.size : Int) text.size - text.size).toNat, false) = _
    rw [e1, show ((text.size : Int) - text.size).toNat = 0 by omega, extract_same]
  rw [t, if_neg (by show ¬ (text.size : Int) + 200 < (text.size : Int); omega)]
  exact end_old start text hN false
theorem end_again (start : Int) (hs : 0 ≤ start ∧ start < 4294967296) (text : ByteArray) (hN : text.size ≤ 50) :
    (es2 start text).push ((start + text.size) % 4294967296) em true = (es2 start text, ⟨2, text.size, em, true⟩) := by
  unfold DS.push
  rw [if_neg (by intro h; cases h.2)]
  have e : plc (es2 start text).start ((start + (text.size : Int)) % 4294967296) (es2 start text).pl = text.size := plc_at hs (by show (0 : Int) ≤ text.size; omega) (by show _ ≤ (text.size : Int) - text.size; omega) (by show (text.size : Int) - text.size < _; omega)
  rw [e]
  have t : (es2 start text).trim text.size ((text.size : Int) + em.size) em true = ((text.size : Int), em, true) := by
    unfold DS.trim
    have e1 : (text.size : Int) + em.size = text.size := by show (text.size : Int) + ((0 : Nat) : Int) = _; omega
    rw [if_neg (by show ¬ (text.size : Int) < 0; omega), e1, if_pos (by show (text.size : Int) ≤ text.size; omega)]
    show ((text.size : Int), em, true && decide ((text.size : Int) = text.size)) = _
    rw [decide_eq_true rfl]; rfl
  rw [t, if_neg (by show ¬ (text.size : Int) + 200 < (text.size : Int); omega)]
  exact end_old start text hN true
theorem es1_can (start : Int) (N : Nat) (hN : N ≤ 50) (n : Nat) (h1 : n ≤ 200) : Can (es1 start N) n :=
  ⟨Int.le_refl 0, by show (0 : Int) ≤ _; decide, by show (-1 : Int) ≤ N; omega, by show (N : Int) ≤ _; omega, by omega, by show (0 : Int) ≤ 200; decide, by show (200 : Int) ≤ 1024; decide, ⟨by show 0 + n ≤ _; omega, by show (0 : Int) ≤ 200; decide, by show (200 : Int) ≤ 1024; decide, rfl⟩⟩
theorem es2_can (start : Int) (text : ByteArray) (hN : text.size ≤ 50) (n : Nat) (h1 : n ≤ 200) : Can (es2 start text) n :=
  ⟨by show (0 : Int) ≤ text.size; omega, by show (text.size : Int) ≤ _; omega, by show (-1 : Int) ≤ text.size; omega, by show (text.size : Int) ≤ _; omega, by omega, by show (0 : Int) ≤ 200; decide, by show (200 : Int) ≤ 1024; decide, ⟨by show 0 + n ≤ _; omega, by show (0 : Int) ≤ 200; decide, by show (200 : Int) ≤ 1024; decide, by show (text.size : Int) = min (200 : Int) (text.size : Int); omega⟩⟩
/-! ### The walk -/
def efr (p : Nat) (start : Int) (text more : ByteArray) (fin : Bool) : Fr := [(0, .int .u32 start), (1, .string text), (2, .string more), (3, .bool fin), (9, .pointer (some ⟨p, 0, none⟩)), (10, .int .i64 text.size)]
set_option maxRecDepth 100000 in
set_option maxHeartbeats 4000000 in
theorem ends_walk (start : Int) (text more : ByteArray) (early : Bool) (w : World) (hs : 0 ≤ start ∧ start < 4294967296) :
    Calls Try.prog 5 #[.int .u32 start, .string text, .string more, .bool early] w (Yes w) := by
  refine calls_W (n := 168) (vs := [.int .u32 start, .string text, .string more, .bool early]) Try.func5 rfl rfl rfl ?_
  apply W.readS LO mixed [0, 1, 2, 3] (by kernel_rfl)
  · repeat' (first | rfl | with_reducible assumption | assumption | constructor)
  intro w1 f1 s1 hf1
  replace hf1 : f1 = [(0, _), (1, _), (2, _), (3, _)] := hf1
  subst hf1
  refine W.cutS (fun w' g => (Same w w' ∧ g = [(0, .int .u32 start), (1, .string text), (2, .string more), (3, .bool early)]) ∧ text.size ≤ 50 ∧ 1 ≤ more.size ∧ more.size ≤ 50) ?_ ?_
  · by_cases hsz : text.size ≤ 50 ∧ 1 ≤ more.size ∧ more.size ≤ 50
    · have k1 : Kn (decide (50 < (text.size : Int))) false := .no (by omega)
      have k2 : Kn (decide (50 < (more.size : Int))) false := .no (by omega)
      have k3 : Kn (decide ((more.size : Int) < 1)) false := .no (by omega)
      apply W.readS LO mixed [0, 1, 2, 3, 27] (by kernel_rfl)
      · repeat' (first | rfl | with_reducible assumption | assumption | constructor)
      intro w4 f4 s4 hf4
      replace hf4 : f4 = [(0, _), (1, _), (2, _), (3, _), (27, _)] := hf4
      subst hf4
      refine W.cond (b := false) rfl (fun h => by cases h) (fun _ => W.skip ?_)
      exact N.cut ⟨⟨s1.trans s4, rfl⟩, hsz⟩ (sub_keys rfl)
    · refine W.cutS (fun w' g => Same w w' ∧ g = [(27, .bool true)]) ?_ ?_
      · by_cases h1 : 50 < text.size
        · have k1 : Kn (decide (50 < (text.size : Int))) true := .yes (by omega)
          apply W.readN LO mixed [27] (by kernel_rfl)
          · repeat' (first | rfl | with_reducible assumption | assumption | constructor)
          intro w4 f4 s4 hf4
          replace hf4 : f4 = [(27, _)] := hf4
          subst hf4
          exact N.cut ⟨s1.trans s4, rfl⟩ (sub_keys rfl)
        · have k1 : Kn (decide (50 < (text.size : Int))) false := .no (by omega)
          by_cases h2 : 50 < more.size
          · have k2 : Kn (decide (50 < (more.size : Int))) true := .yes (by omega)
            apply W.readN LO mixed [27] (by kernel_rfl)
            · repeat' (first | rfl | with_reducible assumption | assumption | constructor)
            intro w4 f4 s4 hf4
            replace hf4 : f4 = [(27, _)] := hf4
            subst hf4
            exact N.cut ⟨s1.trans s4, rfl⟩ (sub_keys rfl)
          · have k2 : Kn (decide (50 < (more.size : Int))) false := .no (by omega)
            have k3 : Kn (decide ((more.size : Int) < 1)) true := .yes (by omega)
            apply W.readN LO mixed [27] (by kernel_rfl)
            · repeat' (first | rfl | with_reducible assumption | assumption | constructor)
            intro w4 f4 s4 hf4
            replace hf4 : f4 = [(27, _)] := hf4
            subst hf4
            exact N.cut ⟨s1.trans s4, rfl⟩ (sub_keys rfl)
      rintro w5 _ ⟨s5, rfl⟩
      refine W.cond (b := true) rfl (fun _ => ?_) (fun h => by cases h)
      refine W.seq (W.list ?_)
      refine Ls.call LO rfl rfl rfl rfl rfl (vs := []) rfl (awake_walk w5) ?_
      rintro _ w6 ⟨rfl, hm6⟩
      refine ⟨_, rfl, ?_⟩
      apply Ls.runK LO [8] 1
      · repeat' (first | rfl | with_reducible assumption | assumption | constructor)
      intro w7 f7 s7 hf7
      replace hf7 : f7 = [(8, _)] := hf7
      subst hf7
      refine Ls.nil (N.to (W.ret (N.thenR (post LO (rs := [.tmp 8]) rfl (vs := [.bool true]) (.tmp rfl .nil) ⟨rfl, ((((Mv.refl _ w).same s5).trans hm6)).same s7⟩))))
  rintro w2 _ ⟨⟨s2, rfl⟩, hN, hM⟩
  refine W.seq (W.list ?_)
  apply Ls.runK LO [0, 1, 2, 3, 29] 1
  · repeat' (first | rfl | with_reducible assumption | assumption | constructor)
  intro w4 f4 s4 hf4
  replace hf4 : f4 = [(0, _), (1, _), (2, _), (3, _), (29, _)] := hf4
  subst hf4
  refine Ls.call LO rfl rfl rfl rfl rfl (vs := [.int .u32 start, .int .i64 200, .int .i64 200]) rfl (start_walk start 200 200 w4) ?_
  rintro _ w5 ⟨p, m, rfl, hD, hp, hm, hmv4⟩
  refine ⟨_, rfl, ?_⟩
  apply Ls.runK LO [0, 1, 2, 3, 9] 1
  · repeat' (first | rfl | with_reducible assumption | assumption | constructor)
  intro w6 f6 s6 hf6
  replace hf6 : f6 = [(0, _), (1, _), (2, _), (3, _), (9, _)] := hf6
  subst hf6
  refine Ls.nil (N.to ?_)
  have hD := hD.same s6
  have hmv : Mv (fun _ => False) w w6 := ((((Mv.refl _ w).same s2).same s4).trans hmv4).same s6
  have hp : w.heap.size ≤ p := by rw [s4.heap, s2.heap] at hp; exact hp
  have hm : w.heap.size ≤ m := by rw [s4.heap, s2.heap] at hm; exact hm
  clear hmv4 s1 s2 s4 s6
  refine W.cutS (fun w' g => Same w6 w' ∧ g = [(0, .int .u32 start), (1, .string text), (2, .string more), (3, .bool early), (9, .pointer (some ⟨p, 0, none⟩))]) ?_ ?_
  ·
    apply W.readS LO mixed [0, 1, 2, 3, 9, 32] (by kernel_rfl)
    · repeat' (first | rfl | with_reducible assumption | assumption | constructor)
    intro w4 f4 s4 hf4
    replace hf4 : f4 = [(0, _), (1, _), (2, _), (3, _), (9, _), (32, _)] := hf4
    subst hf4
    refine W.cond (b := false) rfl (fun h => by cases h) (fun _ => W.skip ?_)
    exact N.cut ⟨s4, rfl⟩ (sub_keys rfl)
  rintro w7 _ ⟨s7, rfl⟩
  have hD := hD.same s7
  have hmv := hmv.same s7
  apply W.readS LO mixed [0, 1, 2, 3, 9, 10] (by kernel_rfl)
  · repeat' (first | rfl | with_reducible assumption | assumption | constructor)
  intro w8 f8 s8 hf8
  replace hf8 : f8 = [(0, _), (1, _), (2, _), (3, _), (9, _), (10, _)] := hf8
  subst hf8
  have hD := hD.same s8
  have hmv := hmv.same s8
  clear s7 s8
  have hst : (start + (text.size : Int)) % 4294967296 = (start + (text.size : Int)) % 4294967296 := rfl
  have kc : Kn (IntKind.u32.wrap (text.size : Int)) (text.size : Int) := .of (by show (text.size : Int) % 4294967296 = text.size; omega)
  have ka : Kn (IntKind.u32.wrap (start + (text.size : Int))) ((start + (text.size : Int)) % 4294967296) := .of rfl
  have cut : ∀ (d : DS) (w8 w9 : World) (k : DirAt w8 p m d) (hh : Mv (fun _ => False) w w8) (h : Mv (fun k => k = p ∨ k = m) w8 w9), Mv (fun _ => False) w w9 := fun d w8 w9 _ hh h => hh.cut h fun i hi e => by rcases e with e | e <;> omega
  -- the end, told first
  refine W.cutS (fun w' g => (∃ d, DirAt w' p m d ∧ (early = false ∧ d = DS.new start 200 200 ∨ early = true ∧ text.size = 0 ∧ d = es2 start em ∨ early = true ∧ text.size ≠ 0 ∧ d = es1 start text.size)) ∧ Mv (fun _ => False) w w' ∧ g = efr p start text more early) ?_ ?_
  ·
    apply W.readS LO mixed [0, 1, 2, 3, 9, 10, 35] (by kernel_rfl)
    · repeat' (first | rfl | with_reducible assumption | assumption | constructor)
    intro w9 f9 s9 hf9
    replace hf9 : f9 = [(0, _), (1, _), (2, _), (3, _), (9, _), (10, _), (35, _)] := hf9
    subst hf9
    have hD := hD.same s9
    have hmv := hmv.same s9
    refine W.cond (b := early) rfl (fun he => ?_) (fun he => W.skip (N.cut ⟨⟨_, hD, .inl ⟨he, rfl⟩⟩, hmv, rfl⟩ (sub_keys rfl)))
    subst he
    refine W.seq (W.list ?_)
    apply Ls.runK LO [0, 1, 2, 3, 9, 10, 36, 40] 5
    · repeat' (first | rfl | with_reducible assumption | assumption | constructor)
    intro w10 f10 s10 hf10
    replace hf10 : f10 = [(0, _), (1, _), (2, _), (3, _), (9, _), (10, _), (36, _), (40, _)] := hf10
    subst hf10
    have hD := hD.same s10
    have hmv := hmv.same s10
    refine Ls.pushed (sq := (start + text.size) % 4294967296) (s := em) (fin := true) rfl rfl rfl rfl rfl rfl rfl rfl rfl rfl rfl rfl rfl hD (new_can _ _ _ _ (by decide)) ?_
    rw [end_first start hs text.size hN]
    intro w11 r hD11 hG11 hrp hrm hr hm11
    have hmv11 := cut _ _ _ hD hmv hm11
    refine Ls.nil (N.to ?_)
    obtain ⟨a0, a1, a2, a3⟩ := hG11.cls
    refine W.cutS (fun w' g => Same w11 w' ∧ g = (66, .bool false) :: efr p start text more true) ?_ ?_
    · by_cases h0 : text.size = 0
      · have k1 : Kn (decide (0 < (text.size : Int))) false := .no (by omega)
        apply W.readN LO mixed [66, 0, 1, 2, 3, 9, 10] (by kernel_rfl)
        · repeat' (first | rfl | with_reducible assumption | assumption | constructor)
        intro w12 f12 s12 hf12
        replace hf12 : f12 = [(66, _), (0, _), (1, _), (2, _), (3, _), (9, _), (10, _)] := hf12
        subst hf12
        exact N.cut ⟨s12, rfl⟩ (sub_keys rfl)
      · have k1 : Kn (decide (0 < (text.size : Int))) true := .yes (by omega)
        rw [if_neg h0] at hD11 a0 a1 a2 a3
        have q1 := quiet_of (w := w11) fun w' s' => done_says p m (es1 start text.size) w' (hD11.same s')
        apply W.readN LO mixed [66, 0, 1, 2, 3, 9, 10] (by kernel_rfl)
        · repeat' (first | rfl | with_reducible assumption | assumption | constructor)
        intro w12 f12 s12 hf12
        replace hf12 : f12 = [(66, _), (0, _), (1, _), (2, _), (3, _), (9, _), (10, _)] := hf12
        subst hf12
        exact N.cut ⟨s12, rfl⟩ (sub_keys rfl)
    rintro w12 _ ⟨s12, rfl⟩
    refine W.cond (b := false) rfl (fun h => by cases h) (fun _ => W.skip ?_)
    refine N.cut ⟨⟨_, hD11.same s12, ?_⟩, hmv11.same s12, rfl⟩ (sub_keys rfl)
    by_cases h0 : text.size = 0
    · right; left; rw [if_pos h0]; exact ⟨rfl, h0, rfl⟩
    · right; right; rw [if_neg h0]; exact ⟨rfl, h0, rfl⟩
  rintro w9 _ ⟨⟨d, hD, hd⟩, hmv, rfl⟩
  -- the text
  refine W.cutS (fun w' g => (early = true ∧ DirAt w' p m (es2 start text)) ∧ Mv (fun _ => False) w w' ∧ g = efr p start text more early) ?_ ?_
  · refine W.cutS (fun w' g => (DirAt w' p m d ∧ Mv (fun _ => False) w w') ∧ g = (72, .bool (decide (0 < (text.size : Int)) || !early)) :: efr p start text more early) ?_ ?_
    · cases hb : decide (0 < (text.size : Int)) with
      | true =>
        have k1 : Kn (decide (0 < (text.size : Int))) true := .of hb
        apply W.readN LO mixed [72, 0, 1, 2, 3, 9, 10] (by kernel_rfl)
        · repeat' (first | rfl | with_reducible assumption | assumption | constructor)
        intro w12 f12 s12 hf12
        replace hf12 : f12 = [(72, _), (0, _), (1, _), (2, _), (3, _), (9, _), (10, _)] := hf12
        subst hf12
        exact N.cut ⟨⟨hD.same s12, hmv.same s12⟩, rfl⟩ (sub_keys rfl)
      | false =>
        have k1 : Kn (decide (0 < (text.size : Int))) false := .of hb
        apply W.readN LO mixed [72, 0, 1, 2, 3, 9, 10] (by kernel_rfl)
        · repeat' (first | rfl | with_reducible assumption | assumption | constructor)
        intro w12 f12 s12 hf12
        replace hf12 : f12 = [(72, _), (0, _), (1, _), (2, _), (3, _), (9, _), (10, _)] := hf12
        subst hf12
        exact N.cut ⟨⟨hD.same s12, hmv.same s12⟩, rfl⟩ (sub_keys rfl)
    rintro w10 _ ⟨⟨hD, hmv⟩, rfl⟩
    refine W.cond (b := decide (0 < (text.size : Int)) || !early) rfl (fun hc => ?_) (fun hc => W.skip ?_)
    · refine W.seq (W.list ?_)
      have g1 : text.size + more.size ≤ 9223372036854775807 := by omega
      apply Ls.runK LO [0, 1, 2, 3, 9, 10, 73, 74, 77] 5
      · repeat' (first | rfl | with_reducible assumption | assumption | constructor)
      intro w11 f11 s11 hf11
      replace hf11 : f11 = [(0, _), (1, _), (2, _), (3, _), (9, _), (10, _), (73, _), (74, _), (77, _)] := hf11
      subst hf11
      have hD := hD.same s11
      have hmv := hmv.same s11
      have hcan : Can d (text ++ more).size := by
        rw [ByteArray.size_append]
        rcases hd with ⟨_, rfl⟩ | ⟨_, _, rfl⟩ | ⟨_, _, rfl⟩
        · exact new_can _ _ _ _ (by omega)
        · exact es2_can start em (by decide) _ (by omega)
        · exact es1_can start _ hN _ (by omega)
      refine Ls.pushed (sq := start) (s := text ++ more) (fin := false) rfl rfl rfl rfl rfl rfl rfl rfl rfl rfl rfl rfl rfl hD hcan ?_
      intro w13 r hD13 hG13 hrp hrm hr hm13
      have hmv13 := cut _ _ _ hD hmv hm13
      refine Ls.nil (N.to ?_)
      cases early with
      | false =>
        obtain rfl : d = DS.new start 200 200 := by
          rcases hd with ⟨_, h⟩ | ⟨h, _⟩ | ⟨h, _⟩
          · exact h
          · cases h
          · cases h
        rw [push_first start 200 200 hs (text ++ more) (by rw [ByteArray.size_append]; omega) (by rw [ByteArray.size_append]; omega)] at hD13 hG13
        refine W.cutS (fun _ _ => False) ?_ (fun _ _ h => h.elim)
        apply W.readS LO mixed [1, 2, 9, 12, 80] (by kernel_rfl)
        · repeat' (first | rfl | with_reducible assumption | assumption | constructor)
        intro w14 f14 s14 hf14
        replace hf14 : f14 = [(1, _), (2, _), (9, _), (12, _), (80, _)] := hf14
        subst hf14
        refine W.cond (b := true) rfl (fun _ => ?_) (fun h => by cases h)
        have hD14 := hD13.same s14
        obtain ⟨a0, a1, a2, a3⟩ := (hG13.same s14).cls
        have hmv14 := hmv13.same s14
        have ks : Kn ((text ++ more).toList == (text ++ more).toList) true := .of (beq_self_eq_true _)
        have q1 := quiet_of (w := w14) fun w' s' => done_says p m _ w' (hD14.same s')
        refine W.seq (W.list ?_)
        apply Ls.runK LO [97] 17
        · repeat' (first | rfl | with_reducible assumption | assumption | constructor)
        intro w15 f15 s15 hf15
        replace hf15 : f15 = [(97, _)] := hf15
        subst hf15
        refine Ls.call LO rfl rfl rfl rfl rfl (vs := []) rfl (awake_walk w15) ?_
        rintro _ w16 ⟨rfl, hm16⟩
        refine ⟨_, rfl, ?_⟩
        apply Ls.runK LO [8] 2
        · repeat' (first | rfl | with_reducible assumption | assumption | constructor)
        intro w17 f17 s17 hf17
        replace hf17 : f17 = [(8, _)] := hf17
        subst hf17
        refine Ls.nil (N.to (W.ret (post LO (rs := [.tmp 8]) rfl (vs := [.bool true]) (.tmp rfl .nil) ⟨rfl, (((hmv14.same s15).trans hm16)).same s17⟩)))
      | true =>
        obtain ⟨h0, rfl⟩ : text.size ≠ 0 ∧ d = es1 start text.size := by
          rcases hd with ⟨h, _⟩ | ⟨_, h, _⟩ | ⟨_, h⟩
          · cases h
          · simp [h] at hc
          · exact h
        rw [end_text start hs text more (by omega) hM] at hD13 hG13
        refine W.cutS (fun w' g => Same w13 w' ∧ g = (12, .pointer (some ⟨r, 0, none⟩)) :: efr p start text more true) ?_ ?_
        ·
          apply W.readS LO mixed [12, 0, 1, 2, 3, 9, 10, 80] (by kernel_rfl)
          · repeat' (first | rfl | with_reducible assumption | assumption | constructor)
          intro w14 f14 s14 hf14
          replace hf14 : f14 = [(12, _), (0, _), (1, _), (2, _), (3, _), (9, _), (10, _), (80, _)] := hf14
          subst hf14
          refine W.cond (b := false) rfl (fun h => by cases h) (fun _ => W.skip ?_)
          exact N.cut ⟨s14, rfl⟩ (sub_keys rfl)
        rintro w14 _ ⟨s14, rfl⟩
        have hD14 := hD13.same s14
        obtain ⟨a0, a1, a2, a3⟩ := (hG13.same s14).cls
        have hmv14 := hmv13.same s14
        have ks : Kn (text.toList == text.toList) true := .of (beq_self_eq_true _)
        apply W.readS LO mixed [0, 1, 2, 3, 9, 10, 113] (by kernel_rfl)
        · repeat' (first | rfl | with_reducible assumption | assumption | constructor)
        intro w15 f15 s15 hf15
        replace hf15 : f15 = [(0, _), (1, _), (2, _), (3, _), (9, _), (10, _), (113, _)] := hf15
        subst hf15
        refine W.cond (b := false) rfl (fun h => by cases h) (fun _ => W.skip ?_)
        exact N.cut ⟨⟨rfl, hD14.same s15⟩, hmv14.same s15, rfl⟩ (sub_keys rfl)
    · refine N.cut ⟨?_, hmv, rfl⟩ (sub_keys rfl)
      rcases hd with ⟨rfl, h⟩ | ⟨rfl, h0, rfl⟩ | ⟨_, h, _⟩
      · simp at hc
      · exact ⟨rfl, by rw [empty_of h0]; exact hD⟩
      · exfalso
        have := of_decide_eq_false (Bool.or_eq_false_iff.1 hc).1
        omega
  rintro w10 _ ⟨⟨rfl, hD⟩, hmv, rfl⟩
  -- told again
  refine W.seq (W.list ?_)
  apply Ls.runK LO [0, 2, 9, 10, 114, 118, 119] 6
  · repeat' (first | rfl | with_reducible assumption | assumption | constructor)
  intro w11 f11 s11 hf11
  replace hf11 : f11 = [(0, _), (2, _), (9, _), (10, _), (114, _), (118, _), (119, _)] := hf11
  subst hf11
  have hD := hD.same s11
  have hmv := hmv.same s11
  refine Ls.pushed (sq := (start + text.size) % 4294967296) (s := more) (fin := true) rfl rfl rfl rfl rfl rfl rfl rfl rfl rfl rfl rfl rfl hD (es2_can start text hN _ (by omega)) ?_
  rw [end_more start hs text more hN hM]
  intro w12 r hD12 hG12 hrp hrm hr hm12
  have hmv12 := cut _ _ _ hD hmv hm12
  refine Ls.nil (N.to ?_)
  refine W.seq (W.list ?_)
  apply Ls.runK LO [9, 10, 13, 121, 125] 5
  · repeat' (first | rfl | with_reducible assumption | assumption | constructor)
  intro w13 f13 s13 hf13
  replace hf13 : f13 = [(9, _), (10, _), (13, _), (121, _), (125, _)] := hf13
  subst hf13
  have hD := hD12.same s13
  have hmv := hmv12.same s13
  have hG := hG12.same s13
  have hr' : r < w13.heap.size := (Array.getElem?_eq_some_iff.1 hG).1
  refine Ls.pushed (sq := (start + text.size) % 4294967296) (s := em) (fin := true) rfl rfl rfl rfl rfl rfl rfl rfl rfl rfl rfl rfl rfl hD (es2_can start text hN _ (by decide)) ?_
  rw [end_again start hs text hN]
  intro w14 r2 hD14 hG14 hrp14 hrm14 hr14 hm14
  have hmv14 := cut _ _ _ hD hmv hm14
  have hG := hG.moved hm14 (fun e => by rcases e with e | e <;> omega)
  refine Ls.nil (N.to ?_)
  obtain ⟨a0, a1, a2, a3⟩ := hG.cls
  obtain ⟨b0, b1, b2, b3⟩ := hG14.cls
  have ks : Kn (em.toList == em.toList) true := .of (beq_self_eq_true _)
  have kt : Kn ((text.size : Int) == text.size) true := .of (beq_self_eq_true _)
  have q1 := quiet_of (w := w14) fun w' s' => done_says p m (es2 start text) w' (hD14.same s')
  have q2 := quiet_of (w := w14) fun w' s' => at_says p m (es2 start text) w' (hD14.same s')
  refine W.seq (W.list ?_)
  apply Ls.runK LO [165] 39
  · repeat' (first | rfl | with_reducible assumption | assumption | constructor)
  intro w15 f15 s15 hf15
  replace hf15 : f15 = [(165, _)] := hf15
  subst hf15
  refine Ls.call LO rfl rfl rfl rfl rfl (vs := []) rfl (awake_walk w15) ?_
  rintro _ w16 ⟨rfl, hm16⟩
  refine ⟨_, rfl, ?_⟩
  apply Ls.runK LO [8] 2
  · repeat' (first | rfl | with_reducible assumption | assumption | constructor)
  intro w17 f17 s17 hf17
  replace hf17 : f17 = [(8, _)] := hf17
  subst hf17
  refine Ls.nil (N.to (W.ret (post LO (rs := [.tmp 8]) rfl (vs := [.bool true]) (.tmp rfl .nil) ⟨rfl, ((hmv14.same s15).trans hm16).same s17⟩)))
theorem ends_law (start : Int) (text more : ByteArray) (early : Bool) (w : World) (h0 : (Lit.int .u32 start).wf = true) (_ : text.size ≤ 140737488351232) (_ : more.size ≤ 140737488351232) :
    Calls Try.prog 5 #[.int .u32 start, .string text, .string more, .bool early] w (Yes w) := ends_walk start text more early w (by have := bounds_u32 h0; omega)
end Go.Proofs.Ytieolnekccacbaa
