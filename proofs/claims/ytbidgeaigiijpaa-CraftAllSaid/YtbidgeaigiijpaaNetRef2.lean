/- What is proved: the reference's sum of a text. Conditions: those that stand in each theorem. -/
import Derived.Test.YtbidgeaigiijpaaNetRef1
namespace Go.Proofs.Ytbidgeaigiijpaa
set_option linter.unusedVariables false
set_option linter.unusedSimpArgs false
set_option linter.unusedSectionVars false
open Go.RowKit Fw Nt
theorem drop_two (s : ByteArray) (j : Nat) (h : j + 1 < s.size) (hj : j % 2 = 0) : wsum (s.data.toList.drop j) 0 = bt s (j : Int) * 256 + bt s ((j + 1 : Nat) : Int) + wsum (s.data.toList.drop (j + 2)) 0 := by
  rw [List.drop_eq_getElem_cons (by simpa using (show j < s.size by omega)), List.drop_eq_getElem_cons (by simpa using h)]
  simp only [wsum]
  rw [← bt_get s j (by omega), ← bt_get s (j + 1) h, wsum_even _ (0 + 1 + 1) 0 (by omega), show j + 1 + 1 = j + 2 from rfl]
  have : wt 0 = 256 := rfl
  have h2 : wt (0 + 1) = 1 := rfl
  rw [this, h2]
  omega
theorem drop_last (s : ByteArray) (j : Nat) (h : j < s.size) (h2 : ¬ j + 1 < s.size) : wsum (s.data.toList.drop j) 0 = bt s (j : Int) * 256 := by
  rw [List.drop_eq_getElem_cons (by simpa using h), List.drop_of_length_le (by simp; omega)]
  simp only [wsum]
  rw [← bt_get s j h]
  have : wt 0 = 256 := rfl
  rw [this]
  omega
theorem shl8 {x y : Int} (h : x * 256 = y) (hr : -9223372036854775808 ≤ y ∧ y ≤ 9223372036854775807) : Kn (IntKind.i64.wrap (x * 2 ^ (min (8 : Int).toNat IntKind.i64.bits))) y := .of (by
  rw [show (2 : Int) ^ (min (8 : Int).toNat IntKind.i64.bits) = 256 from rfl, h]; exact IntWalk.i64_in _ (by omega))
set_option maxRecDepth 100000 in
set_option maxHeartbeats 4000000 in
theorem rof_says (s : ByteArray) (w : World) (hs : s.size ≤ 1000000000000) : Calls Try.prog 66 #[.string s] w (Says w (.int .i64 (sumOf s.data.toList))) := by
  refine calls_W (n := 34) (vs := [.string s]) Try.func66 rfl rfl rfl ?_
  apply W.readS LO mixed [0] (by kernel_rfl)
  · repeat' (first | rfl | with_reducible assumption | assumption | constructor)
  intro w1 f1 s1 hf1
  replace hf1 : f1 = [(0, _)] := hf1
  subst hf1
  apply W.readS LO mixed [0, 3] (by kernel_rfl)
  · repeat' (first | rfl | with_reducible assumption | assumption | constructor)
  intro w2 f2 s2 hf2
  replace hf2 : f2 = [(0, _), (3, _)] := hf2
  subst hf2
  obtain ⟨R, hR⟩ : ∃ R, R = red (wsum s.data.toList 0) := ⟨_, rfl⟩
  have hRr := red_range (wsum_nonneg s.data.toList 0)
  rw [← hR] at hRr
  have s2 := s1.trans s2
  refine W.cutS (fun w' g => Same w w' ∧ g = [(3, .int .i64 R)]) ?_ ?_
  ·
    apply W.readS LO mixed [0, 3, 4] (by kernel_rfl)
    · repeat' (first | rfl | with_reducible assumption | assumption | constructor)
    intro w3 f3 s3 hf3
    replace hf3 : f3 = [(0, _), (3, _), (4, _)] := hf3
    subst hf3
    refine W.block (W.loop (fun k w' g => ∃ (j : Nat) (v : Int), k = s.size + 2 - j ∧ j ≤ s.size + 1 ∧ j % 2 = 0 ∧ 0 ≤ v ∧ v ≤ 65535 ∧ red (v + wsum (s.data.toList.drop j) 0) = R ∧ Same w w' ∧ g = [(0, .string s), (3, .int .i64 v), (4, .int .i64 (j : Int))]) (s.size + 2) _ ⟨0, 0, rfl, by omega, rfl, by decide, by decide, by rw [hR, List.drop_zero, Int.zero_add], s2.trans s3, rfl⟩ (sub_keys rfl) ?_)
    clear s1 s2 s3
    rintro k w4 _ ⟨j, v, hk, hj1, hj2, v0, v1, hv, s4, rfl⟩
    by_cases hlt : j < s.size
    · have k1 : Kn (decide ((j : Int) < (s.size : Int))) true := .yes (by omega)
      refine W.seq ?_
      apply W.readS LO mixed [0, 3, 4, 9] (by kernel_rfl)
      · repeat' (first | rfl | with_reducible assumption | assumption | constructor)
      intro w5 f5 s5 hf5
      replace hf5 : f5 = [(0, _), (3, _), (4, _), (9, _)] := hf5
      subst hf5
      refine W.cond (b := true) rfl (fun _ => W.skip (N.to ?_)) (fun h => by cases h)
      have s5 := s4.trans s5
      have hb := bt_range s (j : Int)
      have i0 : (0 : Int) ≤ (j : Int) := by omega
      have i1 : (j : Int) < (s.size : Int) := by omega
      have p8 : (0 : Int) ≤ 8 := by decide
      obtain ⟨x0, hx0⟩ : ∃ x0, x0 = bt s (j : Int) * 256 := ⟨_, rfl⟩
      have q1 : Kn (IntKind.i64.wrap (bt s (j : Int))) (bt s (j : Int)) := i64k (by omega)
      have q2 : Kn (IntKind.i64.wrap (bt s (j : Int) * 2 ^ (min (8 : Int).toNat IntKind.i64.bits))) x0 := shl8 hx0.symm (by omega)
      have q3 : Kn (IntKind.i64.wrap ((j : Int) + 1)) ((j + 1 : Nat) : Int) := i64k (by omega)
      refine W.cutS (fun w' g => ∃ v' : Int, (0 ≤ v' ∧ v' ≤ 65535 ∧ red (v' + wsum (s.data.toList.drop (j + 2)) 0) = R) ∧ Same w w' ∧ g = [(0, .string s), (3, .int .i64 v'), (4, .int .i64 (j : Int))]) ?_ ?_
      · refine W.block ?_
        apply W.readS LO mixed [0, 3, 4, 5] (by kernel_rfl)
        · repeat' (first | rfl | with_reducible assumption | assumption | constructor)
        intro w6 f6 s6 hf6
        replace hf6 : f6 = [(0, _), (3, _), (4, _), (5, _)] := hf6
        subst hf6
        have s6 := s5.trans s6
        refine W.cutS (fun w' g => ∃ x : Int, (0 ≤ x ∧ x ≤ 65535 ∧ red (v + x + wsum (s.data.toList.drop (j + 2)) 0) = R) ∧ Same w w' ∧ g = [(0, .string s), (3, .int .i64 v), (4, .int .i64 (j : Int)), (5, .int .i64 x)]) ?_ ?_
        · by_cases h2 : j + 1 < s.size
          · have k2 : Kn (decide (((j + 1 : Nat) : Int) < (s.size : Int))) true := .yes (by omega)
            have hb2 := bt_range s ((j + 1 : Nat) : Int)
            have i2 : (0 : Int) ≤ ((j + 1 : Nat) : Int) := by omega
            have i3 : ((j + 1 : Nat) : Int) < (s.size : Int) := by omega
            obtain ⟨x1, hx1⟩ : ∃ x1, x1 = bt s ((j + 1 : Nat) : Int) := ⟨_, rfl⟩
            have q4 : Kn (IntKind.i64.wrap (bt s ((j + 1 : Nat) : Int))) x1 := .of (by rw [hx1]; exact IntWalk.i64_in _ (by omega))
            have q5 : Kn (IntKind.i64.wrap (x0 + x1)) (x0 + x1) := i64k (by omega)
            have hd := drop_two s j h2 hj2
            rw [← hx0, ← hx1] at hd
            rw [hd] at hv
            apply W.readS LO mixed [0, 3, 4, 5, 21] (by kernel_rfl)
            · repeat' (first | rfl | with_reducible assumption | assumption | constructor)
            intro w7 f7 s7 hf7
            replace hf7 : f7 = [(0, _), (3, _), (4, _), (5, _), (21, _)] := hf7
            subst hf7
            refine W.cond (b := true) rfl (fun _ => ?_) (fun h => by cases h)
            apply W.readN LO mixed [0, 3, 4, 5] (by kernel_rfl)
            · repeat' (first | rfl | with_reducible assumption | assumption | constructor)
            intro w8 f8 s8 hf8
            replace hf8 : f8 = [(0, _), (3, _), (4, _), (5, _)] := hf8
            subst hf8
            exact N.cut ⟨x0 + x1, ⟨by omega, by omega, by rw [← hv]; congr 1; omega⟩, (s6.trans s7).trans s8, rfl⟩ (sub_keys rfl)
          · have k2 : Kn (decide (((j + 1 : Nat) : Int) < (s.size : Int))) false := .no (by omega)
            have hd := drop_last s j hlt h2
            rw [← hx0] at hd
            rw [hd] at hv
            have he : s.data.toList.drop (j + 2) = [] := List.drop_of_length_le (by rw [list_len]; omega)
            have hw0 : wsum ([] : List UInt8) 0 = 0 := rfl
            apply W.readS LO mixed [0, 3, 4, 5, 21] (by kernel_rfl)
            · repeat' (first | rfl | with_reducible assumption | assumption | constructor)
            intro w7 f7 s7 hf7
            replace hf7 : f7 = [(0, _), (3, _), (4, _), (5, _), (21, _)] := hf7
            subst hf7
            refine W.cond (b := false) rfl (fun h => by cases h) (fun _ => W.skip ?_)
            exact N.cut ⟨x0, ⟨by omega, by omega, by rw [he, hw0, Int.add_zero]; exact hv⟩, s6.trans s7, rfl⟩ (sub_keys rfl)
        clear s5 s6
        rintro w7 _ ⟨x, ⟨x0', x1', hxv⟩, s7, rfl⟩
        have qa := quiet_of (w := w7) fun w' s' => radd_says v x w'
        rw [show v % 65536 + x % 65536 = v + x by omega] at qa
        have hrr := red_range (v := v + x) (by omega)
        obtain ⟨y, hy⟩ : ∃ y, y = red (v + x) := ⟨_, rfl⟩
        rw [← hy] at qa hrr
        apply W.readN LO mixed [0, 3, 4] (by kernel_rfl)
        · repeat' (first | rfl | with_reducible assumption | assumption | constructor)
        intro w8 f8 s8 hf8
        replace hf8 : f8 = [(0, _), (3, _), (4, _)] := hf8
        subst hf8
        exact N.inb (N.cut ⟨y, ⟨hrr.1, hrr.2, by rw [hy, red_add (by omega) (wsum_nonneg _ _)]; exact hxv⟩, s7.trans s8, rfl⟩ (sub_keys rfl))
      · clear s5
        rintro w6 _ ⟨v', ⟨a0, a1, hv'⟩, s6, rfl⟩
        have k9 : Kn (IntKind.i64.wrap ((j : Int) + 2)) ((j + 2 : Nat) : Int) := i64k (by omega)
        apply W.readN LO mixed [0, 3, 4] (by kernel_rfl)
        · repeat' (first | rfl | with_reducible assumption | assumption | constructor)
        intro w7 f7 s7 hf7
        replace hf7 : f7 = [(0, _), (3, _), (4, _)] := hf7
        subst hf7
        exact N.round (k - 2) _ (by omega) ⟨j + 2, v', by omega, by omega, by omega, a0, a1, hv', s6.trans s7, rfl⟩ (sub_keys rfl)
    · have k1 : Kn (decide ((j : Int) < (s.size : Int))) false := .no (by omega)
      have he : s.data.toList.drop j = [] := List.drop_of_length_le (by rw [list_len]; omega)
      have hw0 : wsum ([] : List UInt8) 0 = 0 := rfl
      rw [he, hw0, Int.add_zero, red_small v0 v1] at hv
      refine W.seq ?_
      apply W.readS LO mixed [3, 9] (by kernel_rfl)
      · repeat' (first | rfl | with_reducible assumption | assumption | constructor)
      intro w5 f5 s5 hf5
      replace hf5 : f5 = [(3, _), (9, _)] := hf5
      subst hf5
      refine W.cond (b := false) rfl (fun h => by cases h) (fun _ => W.exit ?_)
      rw [hv]
      exact N.thenE (N.thenE (N.out (N.cut ⟨s4.trans s5, rfl⟩ (sub_keys rfl))))
  rintro w3 _ ⟨s3, rfl⟩
  have k1 : Kn (IntKind.i64.wrap (65535 - R)) (65535 - R) := i64k (by omega)
  apply W.readS LO mixed [2] (by kernel_rfl)
  · repeat' (first | rfl | with_reducible assumption | assumption | constructor)
  intro w4 f4 s4 hf4
  replace hf4 : f4 = [(2, _)] := hf4
  subst hf4
  refine W.ret (post LO (rs := [.tmp 2]) rfl (vs := [.int .i64 (65535 - R)]) (.tmp rfl .nil) ⟨?_, s3.trans s4⟩)
  unfold sumOf
  rw [← hR]
  rfl
end Go.Proofs.Ytbidgeaigiijpaa
