/- What is proved: a frame's bytes stand in their places: plain; the document's example. Conditions: those that stand in each theorem. -/
import Derived.Test.YtchjfgdcldaacaaNetEth
namespace Go.Proofs.Ytchjfgdcldaacaa
set_option linter.unusedVariables false
set_option linter.unusedSimpArgs false
set_option linter.unusedSectionVars false
open Go.RowKit Fw Nt
theorem bits_xor_u8 (a b : Nat) (ha : a < 256) (hb : b < 256) : bits .xor .u8 (a : Int) (b : Int) = ((a ^^^ b : Nat) : Int) := by
  have hx : a ^^^ b < 2 ^ 8 := Nat.xor_lt_two_pow (by omega) (by omega)
  have h1 : (BitVec.ofInt 8 (a : Int)).toNat = a := by
    rw [BitVec.ofInt_natCast, BitVec.toNat_ofNat]; exact Nat.mod_eq_of_lt (by omega)
  have h2 : (BitVec.ofInt 8 (b : Int)).toNat = b := by
    rw [BitVec.ofInt_natCast, BitVec.toNat_ofNat]; exact Nat.mod_eq_of_lt (by omega)
  show IntKind.u8.wrap ((BitVec.ofInt 8 (a : Int) ^^^ BitVec.ofInt 8 (b : Int)).toNat : Int) = _
  rw [BitVec.toNat_xor, h1, h2, IntKind.wrap_u8]
  omega
theorem xor_byte (x y : Int) (hx : 0 ≤ x ∧ x ≤ 255) (hy : 0 ≤ y ∧ y ≤ 255) : (0 ≤ bits .xor .u8 x y ∧ bits .xor .u8 x y < 256) ∧ (bits .xor .u8 x y = x ↔ y = 0) := by
  obtain ⟨a, rfl⟩ := Int.eq_ofNat_of_zero_le hx.1
  obtain ⟨b, rfl⟩ := Int.eq_ofNat_of_zero_le hy.1
  have ha : a < 2 ^ 8 := by omega
  have hb : b < 2 ^ 8 := by omega
  have hab : a ^^^ b < 2 ^ 8 := Nat.xor_lt_two_pow ha hb
  rw [bits_xor_u8 a b ha hb]
  refine ⟨by omega, fun h => ?_, fun h => ?_⟩
  · have h1 : a ^^^ b = a := by omega
    have h2 : a ^^^ (a ^^^ b) = a ^^^ a := by rw [h1]
    rw [← Nat.xor_assoc, Nat.xor_self, Nat.zero_xor] at h2
    omega
  · have : b = 0 := by omega
    subst this
    rw [Nat.xor_zero]
theorem bt_list {s : ByteArray} {a : List UInt8} {c : UInt8} {r : List UInt8} {i : Nat} (h : s.data.toList = a ++ c :: r) (hi : a.length = i) : bt s (i : Int) = (c.toNat : Int) := bt_at_list h hi
theorem bt_put_d (h : EthV) (body : ByteArray) (ok : h.Ok) (i : Nat) (hi : i < 6) : bt (putE h body) (i : Int) = bt h.d (i : Int) := by
  have h1 : i < (putE h body).size := by unfold putE; simp only [ByteArray.size_append, ok.d]; omega
  rw [bt_get _ i h1, bt_get _ i (by rw [ok.d]; exact hi)]
  congr 2
  have e : (putE h body).data.toList = h.d.data.toList ++ (h.s.data.toList ++ ((bigS h.t 2).data.toList ++ body.data.toList)) := by unfold putE; simp only [app_list, List.append_assoc]
  simp only [e]
  rw [List.getElem_append_left]
theorem bt_put_s (h : EthV) (body : ByteArray) (ok : h.Ok) (i : Nat) (hi : i < 6) : bt (putE h body) ((6 + i : Nat) : Int) = bt h.s (i : Int) := by
  have hdl : h.d.data.toList.length = 6 := by rw [list_len, ok.d]
  have hsl : h.s.data.toList.length = 6 := by rw [list_len, ok.s]
  have h1 : 6 + i < (putE h body).size := by unfold putE; simp only [ByteArray.size_append, ok.d, ok.s]; omega
  rw [bt_get _ (6 + i) h1, bt_get _ i (by rw [ok.s]; exact hi)]
  congr 2
  have e : (putE h body).data.toList = h.d.data.toList ++ (h.s.data.toList ++ ((bigS h.t 2).data.toList ++ body.data.toList)) := by unfold putE; simp only [app_list, List.append_assoc]
  simp only [e]
  rw [List.getElem_append_right (by omega), List.getElem_append_left (by omega)]
  congr 1
  omega
theorem put_size (h : EthV) (body : ByteArray) (ok : h.Ok) : (putE h body).size = 14 + body.size := by
  unfold putE
  simp only [ByteArray.size_append, ok.d, ok.s, bigS_size]
theorem bt_bset (t : ByteArray) (k i : Nat) (v : Int) (hi : i < t.size) (hk : k < t.size) (h0 : 0 ≤ v) (h1 : v < 256) : bt (bset t k v) (i : Int) = if i = k then v else bt t (i : Int) := by
  have hi' : i < (bset t k v).size := by rw [bset_size]; exact hi
  rw [bt_get _ i hi']
  have e : (bset t k v).data.toList = t.data.toList.set k (UInt8.ofNat v.toNat) := rfl
  simp only [e]
  rw [List.getElem_set]
  by_cases h : i = k
  · rw [if_pos h, if_pos h.symm, ofNat_toNat h0 h1]
  · rw [if_neg h, if_neg (Ne.symm h), bt_get t i hi]
theorem num_two (u : ByteArray) (a : Nat) (h : a + 2 ≤ u.size) : numOf (u.extract a (a + 2)) = bt u (a : Int) * 256 + bt u ((a + 1 : Nat) : Int) := by
  have hs : (u.extract a (a + 2)).size = 2 := by simp; omega
  rw [numOf_short _ (by omega), ext_list, show a + 2 - a = 2 by omega]
  have h1 : a < u.data.toList.length := by rw [list_len]; omega
  have h2 : a + 1 < u.data.toList.length := by rw [list_len]; omega
  rw [List.drop_eq_getElem_cons h1, List.take_succ_cons, List.drop_eq_getElem_cons h2, List.take_succ_cons, List.take_zero, bt_get u a (by omega), bt_get u (a + 1) (by omega)]
  simp [numL]
theorem num_head (u : ByteArray) (h : 14 ≤ u.size) : numOf (u.extract 12 14) = bt u ((12 : Nat) : Int) * 256 + bt u ((13 : Nat) : Int) := num_two u 12 h
theorem set_drop (t : ByteArray) (k : Nat) (v : Int) (hk : k < 14) : (bset t k v).extract 14 (bset t k v).size = t.extract 14 t.size := by
  apply ba_ext
  rw [ext_list, ext_list, bset_size]
  have e : (bset t k v).data.toList = t.data.toList.set k (UInt8.ofNat v.toNat) := rfl
  rw [e, List.drop_set_of_lt (by omega)]
theorem bt_ext (u : ByteArray) (a b i : Nat) (hb : b ≤ u.size) (hi : a + i < b) : bt (u.extract a b) (i : Int) = bt u ((a + i : Nat) : Int) := by
  have hs : (u.extract a b).size = b - a := by simp; omega
  rw [bt_get _ i (by omega), bt_get u (a + i) (by omega)]
  congr 2
  have e := ext_list u a b
  simp only [e]
  rw [List.getElem_take, List.getElem_drop]
/-- What comes of a frame with one byte of its head turned. -/
structure Turned (h : EthV) (body : ByteArray) (k : Nat) (y : Int) (r : EthV × ByteArray × Int) : Prop where
  e : r.2.2 = 0
  b : r.2.1 = body
  d : ∀ i : Nat, i < 6 → (bt r.1.d (i : Int) == bt h.d (i : Int)) = (decide (k ≠ i) || decide (y = 0))
  s : ∀ i : Nat, i < 6 → (bt r.1.s (i : Int) == bt h.s (i : Int)) = (decide (k ≠ 6 + i) || decide (y = 0))
  t : (r.1.t == h.t) = (decide (k < 12) || decide (y = 0))
theorem turned (h : EthV) (ok : h.Ok) (ht : 0 ≤ h.t ∧ h.t ≤ 65535) (body : ByteArray) (hb : body.size ≤ 500) (k : Nat) (hk : k < 14) (y : Int) (hy : 0 ≤ y ∧ y ≤ 255) :
    Turned h body k y (getE (bset (putE h body) k (bits .xor .u8 (bt (putE h body) (k : Int)) y))) := by
  obtain ⟨t, ht'⟩ : ∃ t, t = putE h body := ⟨_, rfl⟩
  have hts := put_size h body ok
  rw [← ht'] at hts
  rw [← ht']
  have hbr := bt_range t (k : Int)
  obtain ⟨hv, hxy⟩ := xor_byte (bt t (k : Int)) y hbr hy
  obtain ⟨v, hv'⟩ : ∃ v, v = bits .xor .u8 (bt t (k : Int)) y := ⟨_, rfl⟩
  rw [← hv'] at hv hxy
  rw [← hv']
  have hus : (bset t k v).size = 14 + body.size := by rw [bset_size, hts]
  have hB : ∀ i : Nat, i < t.size → bt (bset t k v) (i : Int) = if i = k then v else bt t (i : Int) := fun i hi => bt_bset t k i v hi (by omega) hv.1 hv.2
  have hG : getE (bset t k v) = (⟨(bset t k v).extract 0 6, (bset t k v).extract 6 12, numOf ((bset t k v).extract 12 14)⟩, (bset t k v).extract 14 (bset t k v).size, 0) := by
    unfold getE
    rw [if_neg (by omega), if_neg (by omega)]
  rw [hG]
  have hE : (t.extract 14 t.size) = body := by
    apply ba_ext
    rw [ht']
    exact cut_end (a := h.d.data.toList ++ (h.s.data.toList ++ (bigS h.t 2).data.toList)) (by unfold putE; simp only [app_list, List.append_assoc]) (by simp only [List.length_append, list_len, ok.d, ok.s, bigS_size])
  have core : ∀ (i : Nat) (x : Int), i < t.size → bt t (i : Int) = x → (bt (bset t k v) (i : Int) == x) = (decide (k ≠ i) || decide (y = 0)) := fun i x hi hx => by
    rw [hB i hi]
    by_cases e : i = k
    · subst e
      rw [if_pos rfl, ← hx, decide_eq_false (by omega), Bool.false_or]
      by_cases ey : y = 0
      · rw [decide_eq_true ey, beq_iff_eq]; exact hxy.2 ey
      · rw [decide_eq_false ey, beq_eq_false_iff_ne]; exact fun h => ey (hxy.1 h)
    · rw [if_neg e, hx, decide_eq_true (show k ≠ i from fun h => e h.symm), Bool.true_or, beq_iff_eq]
  refine ⟨rfl, by rw [set_drop t k v hk, hE], fun i hi => ?_, fun i hi => ?_, ?_⟩
  · show (bt ((bset t k v).extract 0 6) (i : Int) == _) = _
    rw [bt_ext _ 0 6 i (by omega) (by omega), Nat.zero_add]
    exact core i _ (by omega) (by rw [ht']; exact bt_put_d h body ok i hi)
  · show (bt ((bset t k v).extract 6 12) (i : Int) == _) = _
    rw [bt_ext _ 6 12 i (by omega) (by omega)]
    exact core (6 + i) _ (by omega) (by rw [ht']; exact bt_put_s h body ok i hi)
  · show (numOf ((bset t k v).extract 12 14) == h.t) = _
    rw [num_head _ (by omega), hB 12 (by omega), hB 13 (by omega)]
    have h12 : numOf (t.extract 12 14) = h.t := by
      have e : (t.extract 12 14).data.toList = (bigS h.t 2).data.toList := by
        rw [ht']
        exact cut_at (a := h.d.data.toList ++ h.s.data.toList) (c := body.data.toList) (by unfold putE; simp only [app_list, List.append_assoc]) (by simp only [List.length_append, list_len, ok.d, ok.s]) (by rw [bigS_length])
      rw [numOf_list (v := h.t) (n := 2) e (by decide), show (256 : Int) ^ 2 = 65536 from rfl]
      omega
    rw [num_head t (by omega)] at h12
    have r12 := bt_range t ((12 : Nat) : Int)
    have r13 := bt_range t ((13 : Nat) : Int)
    by_cases k12 : k = 12
    · subst k12
      rw [if_pos rfl, if_neg (by decide), decide_eq_false (by omega), Bool.false_or]
      by_cases ey : y = 0
      · rw [decide_eq_true ey, beq_iff_eq]
        have := hxy.2 ey
        omega
      · rw [decide_eq_false ey, beq_eq_false_iff_ne]
        have : ¬ v = bt t ((12 : Nat) : Int) := fun h => ey (hxy.1 h)
        omega
    · by_cases k13 : k = 13
      · subst k13
        rw [if_neg (by decide), if_pos rfl, decide_eq_false (by omega), Bool.false_or]
        by_cases ey : y = 0
        · rw [decide_eq_true ey, beq_iff_eq]
          have := hxy.2 ey
          omega
        · rw [decide_eq_false ey, beq_eq_false_iff_ne]
          have : ¬ v = bt t ((13 : Nat) : Int) := fun h => ey (hxy.1 h)
          omega
      · rw [if_neg (by omega), if_neg (by omega), decide_eq_true (by omega), Bool.true_or, beq_iff_eq]
        omega
end Go.Proofs.Ytchjfgdcldaacaa
