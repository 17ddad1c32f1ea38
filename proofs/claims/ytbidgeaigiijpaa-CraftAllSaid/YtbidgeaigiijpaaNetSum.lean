/- What is proved: the sum of the net, a number's bytes, bytes' number: walked. Conditions: those that stand in each theorem. -/
import Derived.Test.YtbidgeaigiijpaaNetBase
import Derived.Test.YtbidgeaigiijpaaNetPl
namespace Go.Proofs.Ytbidgeaigiijpaa
set_option linter.unusedVariables false
set_option linter.unusedSimpArgs false
set_option linter.unusedSectionVars false
open Go.RowKit Fw Nt
theorem i64k {x : Int} (h : -9223372036854775808 ≤ x ∧ x ≤ 9223372036854775807) : Kn (IntKind.i64.wrap x) x := .of (IntWalk.i64_in _ (by omega))
theorem remk {a b : Int} (h : 0 ≤ a) : Kn (a.tmod b) (a % b) := .of (Int.tmod_eq_emod_of_nonneg h)
theorem wr_one (cs : List Value) (i : Nat) (v : Value) (h : i < cs.length) : wr cs i [v] = cs.set i v := by
  unfold wr
  rw [List.set_eq_take_append_cons_drop, if_pos h]
  simp
theorem fdivk {a b c : Int} (h : 0 ≤ b) (e : a / b = c) : Kn (a.fdiv b) c := .of (by rw [Int.fdiv_eq_ediv_of_nonneg _ h]; exact e)
theorem info_sl8 : Try.prog.underlying 24 = some (.slice 5) := by kernel_rfl
theorem info_u8 : (Try.prog.info? 5).map (fun i => (i.zero, i.size, i.bytes)) = some (some (.int .u8 0), 1, 1) := by kernel_rfl
theorem und_u8 : Try.prog.underlying 5 = some (.int .u8) := by kernel_rfl
theorem und_str : Try.prog.underlying 9 = some .string := by kernel_rfl
theorem und_strs : Try.prog.underlying 89 = some (.slice 9) := by kernel_rfl
set_option maxRecDepth 100000 in
set_option maxHeartbeats 4000000 in
theorem fold_says (v : Int) (w : World) (h0 : 0 ≤ v) (h1 : v < 4611686018427387904) : Calls Try.prog 70 #[.int .i64 v] w (Says w (.int .i64 (red v))) := by
  refine calls_W (n := 11) (vs := [.int .i64 v]) Try.func70 rfl rfl rfl ?_
  apply W.readS LO mixed [0] (by kernel_rfl)
  · repeat' (first | rfl | with_reducible assumption | assumption | constructor)
  intro w1 f1 s1 hf1
  replace hf1 : f1 = [(0, _)] := hf1
  subst hf1
  refine W.cutS (fun w' g => Same w w' ∧ g = [(0, .int .i64 (red v))]) ?_ ?_
  · refine W.block (W.loop (fun k w' g => ∃ x : Int, k = x.toNat ∧ 0 ≤ x ∧ x < 4611686018427387904 ∧ red x = red v ∧ Same w w' ∧ g = [(0, .int .i64 x)]) v.toNat _ ⟨v, rfl, h0, h1, rfl, s1, rfl⟩ (sub_keys rfl) ?_)
    clear s1
    rintro k w2 _ ⟨x, rfl, x0, x1, hx, s2, rfl⟩
    by_cases hlt : 65535 < x
    · have k1 : Kn (decide (65535 < x)) true := .yes hlt
      refine W.seq ?_
      apply W.readS LO mixed [0, 4] (by kernel_rfl)
      · repeat' (first | rfl | with_reducible assumption | assumption | constructor)
      intro w3 f3 s3 hf3
      replace hf3 : f3 = [(0, _), (4, _)] := hf3
      subst hf3
      refine W.cond (b := true) rfl (fun _ => W.skip (N.to ?_)) (fun h => by cases h)
      refine W.block ?_
      have k2 : Kn (bits .and .i64 x 65535) (x % 65536) := .of (and_low x0 (by omega))
      have k3 : Kn (x.fdiv (2 ^ (min (16 : Int).toNat IntKind.i64.bits))) (x / 65536) := fdivk (by decide) rfl
      have k4 : Kn (IntKind.i64.wrap (x % 65536 + x / 65536)) (x % 65536 + x / 65536) := i64k (by omega)
      have b16 : (0 : Int) ≤ 16 := by decide
      apply W.readN LO mixed [0] (by kernel_rfl)
      · repeat' (first | rfl | with_reducible assumption | assumption | constructor)
      intro w4 f4 s4 hf4
      replace hf4 : f4 = [(0, _)] := hf4
      subst hf4
      exact N.inb (N.round (x % 65536 + x / 65536).toNat _ (by omega) ⟨_, rfl, by omega, by omega, by rw [red_step x0, hx], (s2.trans s3).trans s4, rfl⟩ (sub_keys rfl))
    · have k1 : Kn (decide (65535 < x)) false := .no hlt
      refine W.seq ?_
      apply W.readS LO mixed [0, 4] (by kernel_rfl)
      · repeat' (first | rfl | with_reducible assumption | assumption | constructor)
      intro w3 f3 s3 hf3
      replace hf3 : f3 = [(0, _), (4, _)] := hf3
      subst hf3
      refine W.cond (b := false) rfl (fun h => by cases h) (fun _ => W.exit ?_)
      exact N.thenE (N.thenE (N.out (N.cut ⟨s2.trans s3, by rw [← hx, red_small x0 (by omega)]⟩ (sub_keys rfl))))
  rintro w2 _ ⟨s2, rfl⟩
  apply W.readS LO mixed [2] (by kernel_rfl)
  · repeat' (first | rfl | with_reducible assumption | assumption | constructor)
  intro w3 f3 s3 hf3
  replace hf3 : f3 = [(2, _)] := hf3
  subst hf3
  exact W.ret (post LO (rs := [.tmp 2]) rfl (vs := [.int .i64 (red v)]) (.tmp rfl .nil) ⟨rfl, s2.trans s3⟩)
/-- A row of texts. -/
def StrsAt (w : World) (v : Value) (l : List ByteArray) : Prop := Rd w 1 v l.length (l.flatMap fun s => [Value.string s])
theorem StrsAt.moved {w w' : World} {v : Value} {l : List ByteArray} (h : StrsAt w v l) (m : Mv (fun _ => False) w w') : StrsAt w' v l := Rd.moved h m
theorem StrsAt.same {w w' : World} {v : Value} {l : List ByteArray} (h : StrsAt w v l) (s : Same w w') : StrsAt w' v l := h.moved ((Mv.refl _ w).same s)
theorem cat_take (l : List ByteArray) (i : Nat) (s : ByteArray) (h : l[i]? = some s) : cat (l.take (i + 1)) = cat (l.take i) ++ s.data.toList := by
  rw [List.take_add_one, h]
  have : ∀ a b : List ByteArray, cat (a ++ b) = cat a ++ cat b := fun a b => by
    induction a with
    | nil => rfl
    | cons x a ih => simp only [List.cons_append, cat, ih, List.append_assoc]
  rw [this]
  simp [cat]
theorem cat_le (l : List ByteArray) (i : Nat) : (cat (l.take i)).length ≤ (cat l).length := by
  have : ∀ a b : List ByteArray, cat (a ++ b) = cat a ++ cat b := fun a b => by
    induction a with
    | nil => rfl
    | cons x a ih => simp only [List.cons_append, cat, ih, List.append_assoc]
  have h := this (l.take i) (l.drop i)
  rw [List.take_append_drop] at h
  rw [h, List.length_append]
  omega
theorem red_wsum_add (a b : List UInt8) (p : Int) (h : p = a.length) : red (red (wsum a 0) + wsum b p) = red (wsum (a ++ b) 0) := by
  rw [red_add (wsum_nonneg a 0) (wsum_nonneg b p), wsum_append, Int.zero_add, h]
theorem shlk (b p : Int) (hb : 0 ≤ b ∧ b ≤ 255) (hp : 0 ≤ p) : 0 ≤ 8 * (1 - p % 2) ∧ Kn (IntKind.i64.wrap (b * 2 ^ (min (8 * (1 - p % 2)).toNat IntKind.i64.bits))) (b * wt p) := by
  rcases (show p % 2 = 0 ∨ p % 2 = 1 by omega) with h | h
  · rw [h]
    refine ⟨by decide, .of ?_⟩
    have e : (2 : Int) ^ (min (8 * (1 - 0) : Int).toNat IntKind.i64.bits) = 256 := by decide
    rw [e]
    unfold wt
    rw [if_pos h]
    exact IntWalk.i64_in _ (by omega)
  · rw [h]
    refine ⟨by decide, .of ?_⟩
    have e : (2 : Int) ^ (min (8 * (1 - 1) : Int).toNat IntKind.i64.bits) = 1 := by decide
    rw [e]
    unfold wt
    rw [if_neg (by omega)]
    exact IntWalk.i64_in _ (by omega)
set_option maxRecDepth 100000 in
set_option maxHeartbeats 4000000 in
theorem of_says (v : Value) (l : List ByteArray) (w : World) (h : StrsAt w v l) (hl : l.length ≤ 1000000) (hc : (cat l).length ≤ 1000000000000) : Calls Try.prog 51 #[v] w (Says w (.int .i64 (sumOf (cat l)))) := by
  obtain ⟨a, c, hv⟩ := h.len
  subst hv
  refine calls_W (n := 38) (vs := [.slice a l.length c]) Try.func51 rfl rfl rfl ?_
  apply W.readS LO mixed [0] (by kernel_rfl)
  · repeat' (first | rfl | with_reducible assumption | assumption | constructor)
  intro w1 f1 s1 hf1
  replace hf1 : f1 = [(0, _)] := hf1
  subst hf1
  apply W.readS LO mixed [0, 3, 4] (by kernel_rfl)
  · repeat' (first | rfl | with_reducible assumption | assumption | constructor)
  intro w2 f2 s2 hf2
  replace hf2 : f2 = [(0, _), (3, _), (4, _)] := hf2
  subst hf2
  have s2 := s1.trans s2
  clear s1
  refine W.cutS (fun w' g => Same w w' ∧ g = [(3, .int .i64 (red (wsum (cat l) 0)))]) ?_ ?_
  ·
    apply W.readS LO mixed [3, 4, 8, 9, 10] (by kernel_rfl)
    · repeat' (first | rfl | with_reducible assumption | assumption | constructor)
    intro w3 f3 s3 hf3
    replace hf3 : f3 = [(3, _), (4, _), (8, _), (9, _), (10, _)] := hf3
    subst hf3
    refine W.block (W.loop (fun k w' g => ∃ i : Nat, k + i = l.length ∧ Same w w' ∧ g = [(3, .int .i64 (red (wsum (cat (l.take i)) 0))), (4, .int .i64 (cat (l.take i)).length), (8, .slice a l.length c), (9, .int .i64 l.length), (10, .int .i64 i)]) l.length _ ⟨0, rfl, s2.trans s3, rfl⟩ (sub_keys rfl) ?_)
    clear s2 s3
    rintro k w4 _ ⟨i, hk, s4, rfl⟩
    have hcl := cat_le l i
    by_cases hlt : i < l.length
    · have k1 : Kn (decide ((i : Int) < (l.length : Int))) true := .yes (by omega)
      apply W.readS LO mixed [3, 4, 8, 9, 10, 11] (by kernel_rfl)
      · repeat' (first | rfl | with_reducible assumption | assumption | constructor)
      intro w5 f5 s5 hf5
      replace hf5 : f5 = [(3, _), (4, _), (8, _), (9, _), (10, _), (11, _)] := hf5
      subst hf5
      have s5 := s4.trans s5
      clear s4
      refine W.seq (W.cond (b := true) rfl (fun _ => W.skip (N.to ?_)) (fun h => by cases h))
      obtain ⟨s, hs⟩ : ∃ s, l[i]? = some s := ⟨_, List.getElem?_eq_getElem hlt⟩
      have hct := cat_take l i s hs
      have hcl1 := cat_le l (i + 1)
      rw [hct, List.length_append] at hcl1
      obtain ⟨A, hA⟩ : ∃ A, A = cat (l.take i) := ⟨_, rfl⟩
      rw [← hA] at hct hcl hcl1
      rw [← hA]
      have hsl : s.data.toList.length = s.size := list_len s
      refine W.cutS (fun w' g => Same w w' ∧ g = [(3, .int .i64 (red (wsum (A ++ s.data.toList) 0))), (4, .int .i64 (A ++ s.data.toList).length), (8, .slice a l.length c), (9, .int .i64 l.length), (10, .int .i64 i)]) ?_ ?_
      · refine W.block ?_
        obtain ⟨b, o, c', hv', hcell⟩ := (h.same s5).at (f := fun s => [Value.string s]) (fun _ => rfl) (by decide) hs
        injection hv' with ea _ ec
        subst ea ec
        have i0 : (0 : Int) ≤ (i : Int) := by omega
        have i1 : (i : Int) < (l.length : Int) := by omega
        have cx : Cl w5 ⟨b, o + (i : Int).toNat * 1, none⟩ (.string s) := by
          cases hcell with | cons hc _ => exact hc
        apply W.readS LO mixed [3, 4, 6, 8, 9, 10] (by kernel_rfl)
        · repeat' (first | rfl | with_reducible assumption | assumption | constructor)
        intro w6 f6 s6 hf6
        replace hf6 : f6 = [(3, _), (4, _), (6, _), (8, _), (9, _), (10, _)] := hf6
        subst hf6
        have s6 := s5.trans s6
        clear s5 cx hcell
        apply W.readS LO mixed [3, 4, 6, 8, 9, 10, 15, 16] (by kernel_rfl)
        · repeat' (first | rfl | with_reducible assumption | assumption | constructor)
        intro w7 f7 s7 hf7
        replace hf7 : f7 = [(3, _), (4, _), (6, _), (8, _), (9, _), (10, _), (15, _), (16, _)] := hf7
        subst hf7
        refine W.block (W.loop (fun k w' g => ∃ j : Nat, k + j = s.size ∧ Same w w' ∧ g = [(3, .int .i64 (red (wsum (A ++ s.data.toList.take j) 0))), (4, .int .i64 (A ++ s.data.toList.take j).length), (6, .string s), (8, .slice (some ⟨b, o, none⟩) l.length c), (9, .int .i64 l.length), (10, .int .i64 i), (15, .int .i64 s.size), (16, .int .i64 j)]) s.size _ ⟨0, rfl, s6.trans s7, by rw [List.take_zero, List.append_nil]⟩ (sub_keys rfl) ?_)
        clear s6 s7
        rintro k' w8 _ ⟨j, hkj, s8, rfl⟩
        by_cases hj : j < s.size
        · have k1 : Kn (decide ((j : Int) < (s.size : Int))) true := .yes (by omega)
          apply W.readS LO mixed [3, 4, 6, 8, 9, 10, 15, 16, 17] (by kernel_rfl)
          · repeat' (first | rfl | with_reducible assumption | assumption | constructor)
          intro w9 f9 s9 hf9
          replace hf9 : f9 = [(3, _), (4, _), (6, _), (8, _), (9, _), (10, _), (15, _), (16, _), (17, _)] := hf9
          subst hf9
          have s9 := s8.trans s9
          clear s8
          refine W.seq (W.cond (b := true) rfl (fun _ => W.skip (N.to ?_)) (fun h => by cases h))
          have hjl : j < s.data.toList.length := by omega
          have htk : s.data.toList.take (j + 1) = s.data.toList.take j ++ [s.data.toList[j]] := List.take_succ_eq_append_getElem hjl
          obtain ⟨B, hB⟩ : ∃ B, B = A ++ s.data.toList.take j := ⟨_, rfl⟩
          have hBl : B.length = A.length + j := by rw [hB, List.length_append, List.length_take]; omega
          have hBs : A ++ s.data.toList.take (j + 1) = B ++ [s.data.toList[j]] := by rw [htk, hB, List.append_assoc]
          rw [← hB]
          have hbt := bt_get s j hj
          have hbr := bt_range s (j : Int)
          have hnew : red (red (wsum B 0) + bt s (j : Int) * wt (B.length : Int)) = red (wsum (A ++ s.data.toList.take (j + 1)) 0) := by
            rw [hBs, ← red_wsum_add B [s.data.toList[j]] (B.length : Int) rfl]
            simp only [wsum, Int.add_zero]
            rw [hbt]
          have hlen : (A ++ s.data.toList.take (j + 1)).length = B.length + 1 := by rw [hBs, List.length_append]; rfl
          obtain ⟨p, hp⟩ : ∃ p : Int, p = (B.length : Int) := ⟨_, rfl⟩
          obtain ⟨x, hx⟩ : ∃ x : Int, x = red (wsum B 0) := ⟨_, rfl⟩
          have hxr := red_range (wsum_nonneg B 0)
          have hxr : 0 ≤ x ∧ x ≤ 65535 := by rw [hx]; exact hxr
          rw [← hp, ← hx] at hnew
          rw [← hp, ← hx]
          refine W.cutS (fun w' g => Same w w' ∧ g = [(3, .int .i64 (red (x + bt s (j : Int) * wt p))), (4, .int .i64 (p + 1)), (6, .string s), (8, .slice (some ⟨b, o, none⟩) l.length c), (9, .int .i64 l.length), (10, .int .i64 i), (15, .int .i64 s.size), (16, .int .i64 j)]) ?_ ?_
          · refine W.block ?_
            apply W.readS LO mixed [3, 4, 6, 7, 8, 9, 10, 15, 16] (by kernel_rfl)
            · repeat' (first | rfl | with_reducible assumption | assumption | constructor)
            intro w10 f10 s10 hf10
            replace hf10 : f10 = [(3, _), (4, _), (6, _), (7, _), (8, _), (9, _), (10, _), (15, _), (16, _)] := hf10
            subst hf10
            have s10 := s9.trans s10
            have hwt := wt_pos p
            have hp0 : 0 ≤ p := by omega
            obtain ⟨sh0, k2⟩ := shlk (bt s (j : Int)) p hbr hp0
            have hmul : 0 ≤ bt s (j : Int) * wt p ∧ bt s (j : Int) * wt p ≤ 65280 := by
              unfold wt
              split <;> omega
            have g0 : (0 : Int) ≤ (j : Int) := by omega
            have g1 : (j : Int) < (s.size : Int) := by omega
            have k3 : Kn (IntKind.i64.wrap (bt s (j : Int))) (bt s (j : Int)) := i64k (by omega)
            have k4 : Kn (p.tmod 2) (p % 2) := remk hp0
            have k5 : Kn (IntKind.i64.wrap (1 - p % 2)) (1 - p % 2) := i64k (by omega)
            have k6 : Kn (IntKind.i64.wrap (8 * (1 - p % 2))) (8 * (1 - p % 2)) := i64k (by omega)
            have k7 : Kn (IntKind.i64.wrap (x + bt s (j : Int) * wt p)) (x + bt s (j : Int) * wt p) := i64k (by omega)
            have n2 : (2 : Int) ≠ 0 := by decide
            have q1 := quiet_of (w := w10) fun w' s' => fold_says (x + bt s (j : Int) * wt p) w' (by omega) (by omega)
            apply W.readS LO mixed [3, 4, 6, 8, 9, 10, 15, 16] (by kernel_rfl)
            · repeat' (first | rfl | with_reducible assumption | assumption | constructor)
            intro w11 f11 s11 hf11
            replace hf11 : f11 = [(3, _), (4, _), (6, _), (8, _), (9, _), (10, _), (15, _), (16, _)] := hf11
            subst hf11
            have s11 := s10.trans s11
            have k8 : Kn (IntKind.i64.wrap (p + 1)) (p + 1) := i64k (by omega)
            apply W.readN LO mixed [3, 4, 6, 8, 9, 10, 15, 16] (by kernel_rfl)
            · repeat' (first | rfl | with_reducible assumption | assumption | constructor)
            intro w12 f12 s12 hf12
            replace hf12 : f12 = [(3, _), (4, _), (6, _), (8, _), (9, _), (10, _), (15, _), (16, _)] := hf12
            subst hf12
            exact N.inb (N.cut ⟨s11.trans s12, rfl⟩ (sub_keys rfl))
          · clear s9
            rintro w10 _ ⟨s10, rfl⟩
            rw [hnew, show p + 1 = (((A ++ s.data.toList.take (j + 1)).length : Nat) : Int) by rw [hlen, hp]; rfl]
            have k9 : Kn (IntKind.i64.wrap ((j : Int) + 1)) ((j + 1 : Nat) : Int) := i64k (by omega)
            apply W.readN LO mixed [3, 4, 6, 8, 9, 10, 15, 16] (by kernel_rfl)
            · repeat' (first | rfl | with_reducible assumption | assumption | constructor)
            intro w11 f11 s11 hf11
            replace hf11 : f11 = [(3, _), (4, _), (6, _), (8, _), (9, _), (10, _), (15, _), (16, _)] := hf11
            subst hf11
            exact N.round (k' - 1) _ (by omega) ⟨j + 1, by omega, s10.trans s11, rfl⟩ (sub_keys rfl)
        · have k1 : Kn (decide ((j : Int) < (s.size : Int))) false := .no (by omega)
          apply W.readS LO mixed [3, 4, 8, 9, 10, 17] (by kernel_rfl)
          · repeat' (first | rfl | with_reducible assumption | assumption | constructor)
          intro w9 f9 s9 hf9
          replace hf9 : f9 = [(3, _), (4, _), (8, _), (9, _), (10, _), (17, _)] := hf9
          subst hf9
          refine W.seq (W.cond (b := false) rfl (fun h => by cases h) (fun _ => W.exit ?_))
          rw [List.take_of_length_le (by omega)]
          exact N.thenE (N.thenE (N.out (N.inb (N.cut ⟨s8.trans s9, rfl⟩ (sub_keys rfl)))))
      · clear s5
        rintro w6 _ ⟨s6, rfl⟩
        have k9 : Kn (IntKind.i64.wrap ((i : Int) + 1)) ((i + 1 : Nat) : Int) := i64k (by omega)
        apply W.readN LO mixed [3, 4, 8, 9, 10] (by kernel_rfl)
        · repeat' (first | rfl | with_reducible assumption | assumption | constructor)
        intro w7 f7 s7 hf7
        replace hf7 : f7 = [(3, _), (4, _), (8, _), (9, _), (10, _)] := hf7
        subst hf7
        exact N.round (k - 1) _ (by omega) ⟨i + 1, by omega, s6.trans s7, by rw [hct]⟩ (sub_keys rfl)
    · have k1 : Kn (decide ((i : Int) < (l.length : Int))) false := .no (by omega)
      apply W.readS LO mixed [3, 11] (by kernel_rfl)
      · repeat' (first | rfl | with_reducible assumption | assumption | constructor)
      intro w5 f5 s5 hf5
      replace hf5 : f5 = [(3, _), (11, _)] := hf5
      subst hf5
      refine W.seq (W.cond (b := false) rfl (fun h => by cases h) (fun _ => W.exit ?_))
      rw [List.take_of_length_le (by omega)]
      exact N.thenE (N.thenE (N.out (N.cut ⟨s4.trans s5, rfl⟩ (sub_keys rfl))))
  clear s2
  rintro w3 _ ⟨s3, rfl⟩
  obtain ⟨x, hx⟩ : ∃ x : Int, x = red (wsum (cat l) 0) := ⟨_, rfl⟩
  have hxr := red_range (wsum_nonneg (cat l) 0)
  rw [← hx] at hxr
  have k1 : Kn (bits .and .i64 (bits .xor .i64 (if IntKind.i64.signed then -1 else IntKind.i64.max) x) 65535) (65535 - x) := .of (not_low hxr.1 hxr.2)
  rw [← hx]
  apply W.readS LO mixed [2] (by kernel_rfl)
  · repeat' (first | rfl | with_reducible assumption | assumption | constructor)
  intro w4 f4 s4 hf4
  replace hf4 : f4 = [(2, _)] := hf4
  subst hf4
  refine W.ret (post LO (rs := [.tmp 2]) rfl (vs := [.int .i64 (65535 - x)]) (.tmp rfl .nil) ⟨?_, s3.trans s4⟩)
  unfold sumOf
  rw [← hx]
  rfl
/-! ### numbers' bytes -/
set_option maxRecDepth 100000 in
set_option maxHeartbeats 4000000 in
theorem big_walk (v : Int) (n : Nat) (w : World) (hn : n ≤ 8) : Calls Try.prog 52 #[.int .i64 v, .int .i64 n] w fun e w' => e = .returned (.string (bigS v n)) ∧ Mv (fun _ => False) w w' := by
  refine calls_W (n := 31) (vs := [.int .i64 v, .int .i64 n]) Try.func52 rfl rfl rfl ?_
  apply W.readS LO mixed [0, 1] (by kernel_rfl)
  · repeat' (first | rfl | with_reducible assumption | assumption | constructor)
  intro w1 f1 s1 hf1
  replace hf1 : f1 = [(0, _), (1, _)] := hf1
  subst hf1
  have k1 : Kn (if (8 : Int) < (n : Int) then (8 : Int) else (n : Int)) (n : Int) := .of (if_neg (by omega))
  have k2 : Kn (if (n : Int) > (0 : Int) then (n : Int) else (0 : Int)) (n : Int) := .of (by split <;> omega)
  apply W.readS LO mixed [0, 1] (by kernel_rfl)
  · repeat' (first | rfl | with_reducible assumption | assumption | constructor)
  intro w2 f2 s2 hf2
  replace hf2 : f2 = [(0, _), (1, _)] := hf2
  subst hf2
  have m2 : Mv (fun _ => False) w w2 := ((Mv.refl _ w).same s1).same s2
  clear s1 s2 k1 k2
  refine W.seq (W.list ?_)
  apply Ls.runK LO [0, 1, 10] 1
  · repeat' (first | rfl | with_reducible assumption | assumption | constructor)
  intro w3 f3 s3 hf3
  replace hf3 : f3 = [(0, _), (1, _), (10, _)] := hf3
  subst hf3
  have m3 := m2.same s3
  refine Ls.makeSlice rfl rfl rfl rfl rfl info_sl8 info_u8 rfl (by omega) (by omega) ?_
  have hb4 := heap_alloc_new w3 (.cells (List.replicate n (Value.int .u8 0)).toArray 5)
  have m4 : Mv (fun _ => False) w3 (w3.alloc (.cells (List.replicate n (Value.int .u8 0)).toArray 5)) := (Mv.refl _ w3).alloc _
  generalize w3.alloc (.cells (List.replicate n (Value.int .u8 0)).toArray 5) = w4 at hb4 m4
  obtain ⟨b, hb⟩ : ∃ b, b = w3.heap.size := ⟨_, rfl⟩
  rw [← hb] at hb4
  rw [← hb]
  have hwb : w.heap.size ≤ b := by rw [hb]; exact m3.size
  have m4 := m3.trans m4
  apply Ls.runK LO [0, 1, 5] 1
  · repeat' (first | rfl | with_reducible assumption | assumption | constructor)
  intro w5 f5 s5 hf5
  replace hf5 : f5 = [(0, _), (1, _), (5, _)] := hf5
  subst hf5
  refine Ls.nil (N.to ?_)
  rw [← s5.heap] at hb4
  have m5 := m4.same s5
  clear s5 m4 m3 s3 m2
  have hb5 : w5.heap[b]? = some (.cells ((List.replicate (n - 0) (0 : Int) ++ bigL v 0).map (Value.int .u8)).toArray 5 (0, 0)) := by
    rw [hb4]
    simp [bigL]
  refine W.cutS (fun w' g => Mv (fun _ => False) w w' ∧ w'.heap[b]? = some (.cells ((bigL v n).map (Value.int .u8)).toArray 5 (0, 0)) ∧ g = [(5, .slice (some ⟨b, 0, none⟩) n n)]) ?_ ?_
  ·
    apply W.readS LO mixed [0, 1, 5, 13, 14] (by kernel_rfl)
    · repeat' (first | rfl | with_reducible assumption | assumption | constructor)
    intro w6 f6 s6 hf6
    replace hf6 : f6 = [(0, _), (1, _), (5, _), (13, _), (14, _)] := hf6
    subst hf6
    refine W.block (W.loop (fun k w' g => ∃ i : Nat, k + i = n ∧ Mv (fun _ => False) w w' ∧ w'.heap[b]? = some (.cells ((List.replicate (n - i) (0 : Int) ++ bigL v i).map (Value.int .u8)).toArray 5 (0, 0)) ∧ g = [(0, .int .i64 v), (1, .int .i64 n), (5, .slice (some ⟨b, 0, none⟩) n n), (13, .int .i64 n), (14, .int .i64 i)]) n _ ⟨0, rfl, m5.same s6, by rw [s6.heap]; exact hb5, rfl⟩ (sub_keys rfl) ?_)
    clear m5 hb5 s6 hb4
    rintro k w7 _ ⟨i, hk, m7, hb7, rfl⟩
    by_cases hlt : i < n
    · have k1 : Kn (decide ((i : Int) < (n : Int))) true := .yes (by omega)
      apply W.readS LO mixed [0, 1, 5, 13, 14, 15] (by kernel_rfl)
      · repeat' (first | rfl | with_reducible assumption | assumption | constructor)
      intro w8 f8 s8 hf8
      replace hf8 : f8 = [(0, _), (1, _), (5, _), (13, _), (14, _), (15, _)] := hf8
      subst hf8
      rw [← s8.heap] at hb7
      have m8 := m7.same s8
      clear m7 s8
      refine W.seq (W.cond (b := true) rfl (fun _ => W.skip (N.to ?_)) (fun h => by cases h))
      refine W.cutS (fun w' g => Mv (fun _ => False) w w' ∧ w'.heap[b]? = some (.cells ((List.replicate (n - (i + 1)) (0 : Int) ++ bigL v (i + 1)).map (Value.int .u8)).toArray 5 (0, 0)) ∧ g = [(0, .int .i64 v), (1, .int .i64 n), (5, .slice (some ⟨b, 0, none⟩) n n), (13, .int .i64 n), (14, .int .i64 i)]) ?_ ?_
      · refine W.block ?_
        apply W.readS LO mixed [0, 1, 5, 6, 13, 14] (by kernel_rfl)
        · repeat' (first | rfl | with_reducible assumption | assumption | constructor)
        intro w9 f9 s9 hf9
        replace hf9 : f9 = [(0, _), (1, _), (5, _), (6, _), (13, _), (14, _)] := hf9
        subst hf9
        rw [← s9.heap] at hb7
        have m9 := m8.same s9
        refine W.list ?_
        have k2 : Kn (IntKind.i64.wrap ((n : Int) - 1)) ((n : Int) - 1) := i64k (by omega)
        have k3 : Kn (IntKind.i64.wrap ((n : Int) - 1 - (i : Int))) ((n - 1 - i : Nat) : Int) := .of (by rw [show (n : Int) - 1 - (i : Int) = ((n - 1 - i : Nat) : Int) by omega]; exact IntWalk.i64_in _ (by omega))
        have k4 : Kn (IntKind.i64.wrap (8 * (i : Int))) (8 * (i : Int)) := i64k (by omega)
        have b0 : (0 : Int) ≤ 8 * (i : Int) := by omega
        have k5 : Kn (v.fdiv (2 ^ (min (8 * (i : Int)).toNat IntKind.i64.bits))) (v / 256 ^ i) := by
          have e : min (8 * (i : Int)).toNat IntKind.i64.bits = 8 * i := by
            show min (8 * (i : Int)).toNat 64 = _
            omega
          rw [e, pow256]
          exact fdivk (Int.le_of_lt (Int.pow_pos (by decide))) rfl
        have k6 : Kn (IntKind.u8.wrap (v / 256 ^ i)) (v / 256 ^ i % 256) := .of (IntKind.wrap_u8 _)
        have j0 : (0 : Int) ≤ ((n - 1 - i : Nat) : Int) := by omega
        have j1 : ((n - 1 - i : Nat) : Int) < (n : Int) := by omega
        apply Ls.runK LO [0, 1, 5, 13, 14, 26, 27] 11
        · repeat' (first | rfl | with_reducible assumption | assumption | constructor)
        intro w10 f10 s10 hf10
        replace hf10 : f10 = [(0, _), (1, _), (5, _), (13, _), (14, _), (26, _), (27, _)] := hf10
        subst hf10
        rw [← s10.heap] at hb7
        have m10 := m9.same s10
        refine Ls.store LO rfl rfl rfl rfl rfl (vs := [.int .u8 (v / 256 ^ i % 256)]) rfl rfl rfl hb7 (Nat.ble_eq_true_of_le (by simp [bigL_length]; omega)) ?_
        intro w11 hb11 m11 _
        have e : wr ((List.replicate (n - i) (0 : Int) ++ bigL v i).map (Value.int .u8)) (0 + ((n - 1 - i : Nat) : Int).toNat * 1) [.int .u8 (v / 256 ^ i % 256)] = (List.replicate (n - (i + 1)) (0 : Int) ++ bigL v (i + 1)).map (Value.int .u8) := by
          rw [show 0 + ((n - 1 - i : Nat) : Int).toNat * 1 = n - 1 - i by omega, wr_one _ _ _ (by simp [bigL_length]; omega), ← List.map_set, big_set v n i hlt]
        rw [e] at hb11
        exact Ls.nil (N.inb (N.cut ⟨m10.cut m11 fun k hk e => by omega, hb11, rfl⟩ (sub_keys rfl)))
      · rintro w9 _ ⟨m9, hb9, rfl⟩
        have k9 : Kn (IntKind.i64.wrap ((i : Int) + 1)) ((i + 1 : Nat) : Int) := i64k (by omega)
        apply W.readN LO mixed [0, 1, 5, 13, 14] (by kernel_rfl)
        · repeat' (first | rfl | with_reducible assumption | assumption | constructor)
        intro w10 f10 s10 hf10
        replace hf10 : f10 = [(0, _), (1, _), (5, _), (13, _), (14, _)] := hf10
        subst hf10
        exact N.round (k - 1) _ (by omega) ⟨i + 1, by omega, m9.same s10, by rw [s10.heap]; exact hb9, rfl⟩ (sub_keys rfl)
    · have k1 : Kn (decide ((i : Int) < (n : Int))) false := .no (by omega)
      apply W.readS LO mixed [5, 15] (by kernel_rfl)
      · repeat' (first | rfl | with_reducible assumption | assumption | constructor)
      intro w8 f8 s8 hf8
      replace hf8 : f8 = [(5, _), (15, _)] := hf8
      subst hf8
      refine W.seq (W.cond (b := false) rfl (fun h => by cases h) (fun _ => W.exit ?_))
      obtain rfl : i = n := by omega
      rw [Nat.sub_self, List.replicate_zero, List.nil_append] at hb7
      exact N.thenE (N.thenE (N.out (N.cut ⟨m7.same s8, by rw [s8.heap]; exact hb7, rfl⟩ (sub_keys rfl))))
  clear m5 hb5 hb4
  rintro w6 _ ⟨m6, hb6, rfl⟩
  have cv := conv_bytes (P := Try.prog) (c := n) (m := n) info_sl8 und_u8 und_str hb6 (bigL_length v n)
  apply W.readS LO mixed [4] (by kernel_rfl)
  · repeat' (first | rfl | with_reducible assumption | assumption | constructor)
  intro w7 f7 s7 hf7
  replace hf7 : f7 = [(4, _)] := hf7
  subst hf7
  exact W.ret (post LO (rs := [.tmp 4]) rfl (vs := [.string (strOfNums (bigL v n))]) (.tmp rfl .nil) ⟨rfl, m6.same s7⟩)
/-! ### bytes' number -/
set_option maxRecDepth 100000 in
set_option maxHeartbeats 4000000 in
theorem num_walk (s : ByteArray) (w : World) (hs : s.size ≤ 4611686018427387904) : Calls Try.prog 33 #[.string s] w fun e w' => e = .returned (.int .i64 (numOf s)) ∧ Mv (fun _ => False) w w' := by
  refine calls_W (n := 25) (vs := [.string s]) Try.func33 rfl rfl rfl ?_
  apply W.readS LO mixed [0] (by kernel_rfl)
  · repeat' (first | rfl | with_reducible assumption | assumption | constructor)
  intro w1 f1 s1 hf1
  replace hf1 : f1 = [(0, _)] := hf1
  subst hf1
  apply W.readS LO mixed [0, 3] (by kernel_rfl)
  · repeat' (first | rfl | with_reducible assumption | assumption | constructor)
  intro w2 f2 s2 hf2
  replace hf2 : f2 = [(0, _), (3, _)] := hf2
  subst hf2
  have m2 : Mv (fun _ => False) w w2 := ((Mv.refl _ w).same s1).same s2
  clear s1 s2
  obtain ⟨u, hu⟩ : ∃ u, u = s.extract (s.size - 7) s.size := ⟨_, rfl⟩
  have hul : u.data.toList = s.data.toList.drop (s.size - 7) := by
    rw [hu, ext_list, List.take_of_length_le (by simp)]
  have hus : u.size ≤ 7 := by rw [hu]; simp; omega
  refine W.cutS (fun w' g => Mv (fun _ => False) w w' ∧ g = [(3, .int .i64 (numL u.data.toList))]) ?_ ?_
  · refine W.seq (W.list ?_)
    have k1 : Kn (IntKind.i64.wrap ((s.size : Int) - 7)) ((s.size : Int) - 7) := i64k (by omega)
    have k2 : Kn (if (s.size : Int) - 7 > (0 : Int) then (s.size : Int) - 7 else (0 : Int)) ((s.size - 7 : Nat) : Int) := .of (by split <;> omega)
    have b0 : (0 : Int) ≤ ((s.size - 7 : Nat) : Int) := by omega
    have b1 : ((s.size - 7 : Nat) : Int) ≤ (s.size : Int) := by omega
    apply Ls.runK LO [3, 11] 6
    · repeat' (first | rfl | with_reducible assumption | assumption | constructor)
    intro w3 f3 s3 hf3
    replace hf3 : f3 = [(3, _), (11, _)] := hf3
    rw [Int.toNat_natCast, ← hu] at hf3
    subst hf3
    have m3 := m2.same s3
    refine Ls.convB rfl rfl rfl rfl rfl und_str info_sl8 und_u8 ?_
    intro w4 c hb4 m4 hc
    obtain ⟨b, hb⟩ : ∃ b, b = w3.heap.size := ⟨_, rfl⟩
    rw [← hb] at hb4
    rw [← hb]
    have m4 := m3.trans m4
    apply Ls.runK LO [3, 12, 13, 14] 2
    · repeat' (first | rfl | with_reducible assumption | assumption | constructor)
    intro w5 f5 s5 hf5
    replace hf5 : f5 = [(3, _), (12, _), (13, _), (14, _)] := hf5
    subst hf5
    refine Ls.nil (N.to ?_)
    refine W.block (W.loop (fun k w' g => ∃ i : Nat, k + i = u.size ∧ Mv (fun _ => False) w w' ∧ BytesAt w' b u ∧ g = [(3, .int .i64 (numL (u.data.toList.take i))), (12, .slice (some ⟨b, 0, none⟩) u.size c), (13, .int .i64 u.size), (14, .int .i64 i)]) u.size _ ⟨0, rfl, m4.same s5, hb4.same s5, rfl⟩ (sub_keys rfl) ?_)
    clear m4 hb4 s5 m3 s3 m2 k1 k2 b0 b1
    rintro k w6 _ ⟨i, hk, m6, hb6, rfl⟩
    by_cases hlt : i < u.size
    · have k1 : Kn (decide ((i : Int) < (u.size : Int))) true := .yes (by omega)
      apply W.readS LO mixed [3, 12, 13, 14, 15] (by kernel_rfl)
      · repeat' (first | rfl | with_reducible assumption | assumption | constructor)
      intro w7 f7 s7 hf7
      replace hf7 : f7 = [(3, _), (12, _), (13, _), (14, _), (15, _)] := hf7
      subst hf7
      have m7 := m6.same s7
      have hb7 := hb6.same s7
      clear m6 hb6 s7
      refine W.seq (W.cond (b := true) rfl (fun _ => W.skip (N.to ?_)) (fun h => by cases h))
      have hil : i < u.data.toList.length := by rw [list_len]; exact hlt
      have htk : u.data.toList.take (i + 1) = u.data.toList.take i ++ [u.data.toList[i]] := List.take_succ_eq_append_getElem hil
      have hbt := bt_get u i hlt
      have hbr := bt_range u (i : Int)
      have hnl := numL_bound (u.data.toList.take i)
      have hnew : numL (u.data.toList.take (i + 1)) = numL (u.data.toList.take i) * 256 + bt u (i : Int) := by rw [htk, numL_snoc, hbt]
      have hp : (256 : Int) ^ (u.data.toList.take i).length ≤ 281474976710656 := by
        have h1 : (u.data.toList.take i).length ≤ 6 := by rw [List.length_take]; omega
        have : (256 : Nat) ^ (u.data.toList.take i).length ≤ 256 ^ 6 := Nat.pow_le_pow_right (by decide) h1
        have h3 : ((256 ^ (u.data.toList.take i).length : Nat) : Int) ≤ ((256 ^ 6 : Nat) : Int) := Int.ofNat_le.mpr this
        have h4 : ((256 ^ (u.data.toList.take i).length : Nat) : Int) = (256 : Int) ^ (u.data.toList.take i).length := by simp
        have h5 : ((256 ^ 6 : Nat) : Int) = 281474976710656 := by decide
        omega
      obtain ⟨x, hx⟩ : ∃ x, x = numL (u.data.toList.take i) := ⟨_, rfl⟩
      rw [← hx] at hnl hnew
      rw [← hx]
      have hx1 : x < 281474976710656 := by omega
      clear hp
      refine W.cutS (fun w' g => (Mv (fun _ => False) w w' ∧ BytesAt w' b u) ∧ g = [(3, .int .i64 (x * 256 + bt u (i : Int))), (12, .slice (some ⟨b, 0, none⟩) u.size c), (13, .int .i64 u.size), (14, .int .i64 i)]) ?_ ?_
      · refine W.block ?_
        have i0 : (0 : Int) ≤ (i : Int) := by omega
        have i1 : (i : Int) < (u.size : Int) := by omega
        have cx : Cl w7 ⟨b, 0 + (i : Int).toNat * 1, none⟩ (.int .u8 (bt u (i : Int))) := ⟨by
          have := hb7.cell hlt
          rw [show 0 + (i : Int).toNat * 1 = i by omega]
          exact this⟩
        apply W.readS LO mixed [3, 5, 12, 13, 14] (by kernel_rfl)
        · repeat' (first | rfl | with_reducible assumption | assumption | constructor)
        intro w8 f8 s8 hf8
        replace hf8 : f8 = [(3, _), (5, _), (12, _), (13, _), (14, _)] := hf8
        subst hf8
        have b8 : (0 : Int) ≤ 8 := by decide
        have k2 : Kn (IntKind.i64.wrap (x * 2 ^ (min (8 : Int).toNat IntKind.i64.bits))) (x * 256) := by
          have e : (2 : Int) ^ (min (8 : Int).toNat IntKind.i64.bits) = 256 := by decide
          rw [e]
          exact i64k (by omega)
        have k3 : Kn (IntKind.i64.wrap (bt u (i : Int))) (bt u (i : Int)) := i64k (by omega)
        have k4 : Kn (bits .or .i64 (x * 256) (bt u (i : Int))) (x * 256 + bt u (i : Int)) := .of (bits_join .i64 63 (by decide) (fun n h₀ h₁ => IntWalk.i64_in _ (by omega)) 8 (x * 256) (bt u (i : Int)) (by omega) (by omega) (by omega) hbr.1 (by omega) (by omega))
        apply W.readN LO mixed [3, 12, 13, 14] (by kernel_rfl)
        · repeat' (first | rfl | with_reducible assumption | assumption | constructor)
        intro w9 f9 s9 hf9
        replace hf9 : f9 = [(3, _), (12, _), (13, _), (14, _)] := hf9
        subst hf9
        exact N.inb (N.cut ⟨⟨(m7.same s8).same s9, (hb7.same s8).same s9⟩, rfl⟩ (sub_keys rfl))
      · rintro w8 _ ⟨⟨m8, hb8⟩, rfl⟩
        rw [← hnew]
        have k9 : Kn (IntKind.i64.wrap ((i : Int) + 1)) ((i + 1 : Nat) : Int) := i64k (by omega)
        apply W.readN LO mixed [3, 12, 13, 14] (by kernel_rfl)
        · repeat' (first | rfl | with_reducible assumption | assumption | constructor)
        intro w9 f9 s9 hf9
        replace hf9 : f9 = [(3, _), (12, _), (13, _), (14, _)] := hf9
        subst hf9
        exact N.round (k - 1) _ (by omega) ⟨i + 1, by omega, m8.same s9, hb8.same s9, rfl⟩ (sub_keys rfl)
    · have k1 : Kn (decide ((i : Int) < (u.size : Int))) false := .no (by omega)
      apply W.readS LO mixed [3, 15] (by kernel_rfl)
      · repeat' (first | rfl | with_reducible assumption | assumption | constructor)
      intro w7 f7 s7 hf7
      replace hf7 : f7 = [(3, _), (15, _)] := hf7
      subst hf7
      refine W.seq (W.cond (b := false) rfl (fun h => by cases h) (fun _ => W.exit ?_))
      rw [List.take_of_length_le (by rw [list_len]; omega)]
      exact N.thenE (N.thenE (N.out (N.cut ⟨m6.same s7, rfl⟩ (sub_keys rfl))))
  clear m2
  rintro w3 _ ⟨m3, rfl⟩
  apply W.readS LO mixed [2] (by kernel_rfl)
  · repeat' (first | rfl | with_reducible assumption | assumption | constructor)
  intro w4 f4 s4 hf4
  replace hf4 : f4 = [(2, _)] := hf4
  subst hf4
  refine W.ret (post LO (rs := [.tmp 2]) rfl (vs := [.int .i64 (numL u.data.toList)]) (.tmp rfl .nil) ⟨?_, m3.same s4⟩)
  unfold numOf
  rw [hul]
  rfl
end Go.Proofs.Ytbidgeaigiijpaa
