/- What is proved: plain laws of the sum of the net, of a number's bytes and of bytes' number, for the plain functions that the program's and the document's functions come to. Conditions: those that stand in each theorem. -/
import Derived.Test.YtgolimfljndnmaaHVx2
import Derived.Test.YtgolimfljndnmaaHVx1
import Derived.Test.YtgolimfljndnmaaHVx4
import Derived.OpenShut
import Derived.Laws.BitsLemmas
import Derived.Lib.Strings
namespace Go.Proofs.Ytgolimfljndnmaa.QV
open Go.RowKit Go.Proofs.Ytgolimfljndnmaa.HV Go.Proofs.YtgolimfljndnmaaW.PrintWords Go.Proofs.YtgolimfljndnmaaW.PrintLast Go.Proofs.YtgolimfljndnmaaW.PrintMore
set_option linter.unusedVariables false
set_option linter.unusedSimpArgs false

/-! ### Texts -/
theorem app_list (a b : ByteArray) : (a ++ b).data.toList = a.data.toList ++ b.data.toList := by simp
theorem ext_list (s : ByteArray) (a b : Nat) : (s.extract a b).data.toList = (s.data.toList.drop a).take (b - a) := by
  exact Lib.extract_data s a b
theorem cut_list (s : ByteArray) (k : Nat) : (s.extract 0 k).data.toList ++ (s.extract k s.size).data.toList = s.data.toList := by
  rw [ext_list, ext_list, List.drop_zero, Nat.sub_zero, List.take_of_length_le (l := s.data.toList.drop k) (by simp), List.take_append_drop]
theorem ba_ext {a b : ByteArray} (h : a.data.toList = b.data.toList) : a = b := by
  cases a; cases b
  congr 1
  exact Array.toList_inj.mp h
theorem toList_data (a : ByteArray) : a.toList = a.data.toList := Lib.toList_data a

/-! ### Folding -/
def red (v : Int) : Int := if v = 0 then 0 else (v - 1) % 65535 + 1
theorem red_small {v : Int} (h0 : 0 ≤ v) (h1 : v ≤ 65535) : red v = v := by unfold red; split <;> omega
theorem red_range {v : Int} (h0 : 0 ≤ v) : 0 ≤ red v ∧ red v ≤ 65535 := by unfold red; split <;> omega
theorem red_step {v : Int} (h0 : 0 ≤ v) : red (v % 65536 + v / 65536) = red v := by unfold red; split <;> split <;> omega
theorem red_add {x y : Int} (hx : 0 ≤ x) (hy : 0 ≤ y) : red (red x + y) = red (x + y) := by unfold red; (repeat' split) <;> omega
theorem red_add' {x y : Int} (hx : 0 ≤ x) (hy : 0 ≤ y) : red (x + red y) = red (x + y) := by unfold red; (repeat' split) <;> omega
theorem wraps64 (n : Int) (h₀ : 0 ≤ n) (h₁ : n < 2 ^ 63) : IntKind.i64.wrap n = n := by rw [IntKind.wrap_i64]; omega
theorem and_low {v : Int} (h0 : 0 ≤ v) (h1 : v < 9223372036854775808) : Go.bits .and .i64 v 65535 = v % 65536 :=
  bits_mask .i64 63 (by decide) wraps64 16 (by decide) v h0 (by omega)
theorem and_any (v : Int) : Go.bits .and .i64 v 65535 = v % 65536 := by
  have h1 : (65535#64).toNat = 2 ^ 16 - 1 := by decide
  have : Go.bits .and .i64 v 65535 = IntKind.i64.wrap (((BitVec.ofInt 64 v &&& 65535#64).toNat : Nat) : Int) := rfl
  rw [this, BitVec.toNat_and, h1, Nat.and_two_pow_sub_one_eq_mod, wraps64 _ (by omega) (by omega), BitVec.toNat_ofInt]
  omega
theorem fold_ev : ∀ (n : Nat) (v : Int), v.toNat = n → 0 ≤ v → v < 4611686018427387904 → Ev (fun k => sum_fold.l0 k v) (red v) := by
  intro n
  induction n using Nat.strongRecOn with
  | _ n ih =>
    intro v hn h0 h1
    by_cases hv : v > 65535
    · refine Ev.step (f := fun k => sum_fold.l0 k (v % 65536 + v / 65536)) (fun k => ?_) ?_
      · simp only [sum_fold.l0]
        rw [if_pos hv, and_low h0 (by omega), show wrap64 (v % 65536 + v / 65536) = v % 65536 + v / 65536 by unfold wrap64; omega]
      · have := ih (v % 65536 + v / 65536).toNat (by omega) (v % 65536 + v / 65536) rfl (by omega) (by omega)
        rw [red_step h0] at this
        exact this
    · refine Ev.step (f := fun _ => some v) (fun k => ?_) ?_
      · simp only [sum_fold.l0]
        rw [if_neg hv]
      · rw [red_small h0 (by omega)]
        exact Ev.now v
theorem foldf_ev {v : Int} (h0 : 0 ≤ v) (h1 : v < 4611686018427387904) : Ev (fun k => sum_fold.f k v) (red v) := fold_ev _ v rfl h0 h1

/-! ### The sum of parts -/
def wt (p : Int) : Int := if p % 2 = 0 then 256 else 1
def wsum : List UInt8 → Int → Int
  | [], _ => 0
  | c :: t, p => (c.toNat : Int) * wt p + wsum t (p + 1)
theorem wt_pos (p : Int) : 1 ≤ wt p ∧ wt p ≤ 256 := by unfold wt; split <;> omega
theorem wsum_nonneg : ∀ (l : List UInt8) (p : Int), 0 ≤ wsum l p
  | [], _ => by simp [wsum]
  | c :: t, p => by
    have := wsum_nonneg t (p + 1)
    have h := Int.mul_nonneg (show 0 ≤ (c.toNat : Int) by omega) (show 0 ≤ wt p by have := wt_pos p; omega)
    simp only [wsum]
    omega
theorem wsum_append : ∀ (l m : List UInt8) (p : Int), wsum (l ++ m) p = wsum l p + wsum m (p + l.length)
  | [], m, p => by simp [wsum]
  | c :: t, m, p => by
    have := wsum_append t m (p + 1)
    simp only [List.cons_append, wsum, List.length_cons, this]
    rw [show p + 1 + (t.length : Int) = p + ((t.length + 1 : Nat) : Int) by omega]
    omega
theorem wsum_even : ∀ (l : List UInt8) (p q : Int), p % 2 = q % 2 → wsum l p = wsum l q
  | [], _, _, _ => by simp [wsum]
  | c :: t, p, q, h => by
    have := wsum_even t (p + 1) (q + 1) (by omega)
    simp only [wsum, this, wt, h]
def cat : List ByteArray → List UInt8
  | [] => []
  | s :: t => s.data.toList ++ cat t
def catSize : List ByteArray → Nat
  | [] => 0
  | s :: t => s.size + catSize t
theorem cat_length : ∀ l : List ByteArray, (cat l).length = catSize l
  | [] => rfl
  | s :: t => by simp [cat, catSize, cat_length t]
theorem bt_get (s : ByteArray) (j : Nat) (h : j < s.size) : bt s (j : Int) = (s.data.toList[j]'(by simpa using h)).toNat := by
  unfold bt
  simp only [Int.toNat_natCast]
  rw [dif_pos h]
  rfl
theorem rdOf_get {α : Type} (d : α) (l : List α) (i : Nat) (h : i < l.length) : rdOf d l (i : Int) = l[i] := by
  simp [rdOf, List.getD_eq_getElem?_getD, h]
theorem shl_byte (b p : Int) (hb : 0 ≤ b ∧ b ≤ 255) (hp : 0 ≤ p) (hp2 : p < 4611686018427387904) :
    0 ≤ wrap64 (8 * wrap64 (1 - Int.tmod p 2)) ∧ shl .i64 (wrap64 b) (wrap64 (8 * wrap64 (1 - Int.tmod p 2))) = b * wt p := by
  rw [Int.tmod_eq_emod_of_nonneg hp]
  have hw : wrap64 b = b := by unfold wrap64; omega
  rw [hw]
  rcases (show p % 2 = 0 ∨ p % 2 = 1 by omega) with h | h
  · have e : wrap64 (8 * wrap64 (1 - p % 2)) = 8 := by rw [h]; decide +kernel
    rw [e]
    refine ⟨by omega, ?_⟩
    unfold shl wt
    rw [if_pos h, show min (8 : Int).toNat IntKind.i64.bits = 8 from rfl, wraps64 _ (by omega) (by omega)]
    omega
  · have e : wrap64 (8 * wrap64 (1 - p % 2)) = 0 := by rw [h]; decide +kernel
    rw [e]
    refine ⟨by omega, ?_⟩
    unfold shl wt
    rw [if_neg (by omega), show min (0 : Int).toNat IntKind.i64.bits = 0 from rfl, wraps64 _ (by omega) (by omega)]
    omega
theorem of_inner (s : ByteArray) (l : List ByteArray) (n i r : Int) : ∀ (d j : Nat) (v p : Int), s.size < 4611686018427387904 → j + d = s.size → 0 ≤ v → v ≤ 65535 → 0 ≤ p → p + d < 4611686018427387904 →
    Ev (fun k => sum_Of.l0 k (red (v + wsum (s.data.toList.drop j) p)) (p + d) l n (wrap64 (i + 1))) r → Ev (fun k => sum_Of.l1 k v p s l n i (s.size : Int) (j : Int)) r := by
  intro d
  induction d with
  | zero =>
    intro j v p hsz hj h0 h1 hp hp2 H
    refine Ev.step (f := fun k => sum_Of.l0 k v p l n (wrap64 (i + 1))) (fun k => ?_) ?_
    · simp only [sum_Of.l1]
      rw [if_neg (by omega)]
    · rw [List.drop_of_length_le (by simp; omega)] at H
      simp only [wsum, Int.add_zero, red_small h0 h1, Int.natCast_zero] at H
      exact H
  | succ d ih =>
    intro j v p hsz hj h0 h1 hp hp2 H
    have hlt : j < s.size := by omega
    have hb := bt_range s (j : Int)
    have hs := shl_byte (bt s (j : Int)) p hb hp (by omega)
    have hw := wt_pos p
    have hm : 0 ≤ bt s (j : Int) * wt p ∧ bt s (j : Int) * wt p ≤ 65280 := by
      unfold wt
      split <;> omega
    refine Ev.step (f := fun k => (sum_fold.f k (v + bt s (j : Int) * wt p)).bind fun t => sum_Of.l1 k t (p + 1) s l n i (s.size : Int) ((j + 1 : Nat) : Int)) (fun k => ?_) ?_
    · simp only [sum_Of.l1]
      rw [if_pos (by omega), if_pos (by omega), if_pos (by omega), if_pos hs.1, hs.2]
      rw [show wrap64 (v + bt s (j : Int) * wt p) = v + bt s (j : Int) * wt p by unfold wrap64; omega, show wrap64 (p + 1) = p + 1 by unfold wrap64; omega, show wrap64 ((j : Int) + 1) = ((j + 1 : Nat) : Int) by unfold wrap64; omega]
    · refine Ev.bind (foldf_ev (by omega) (by omega)) ?_
      have hr := red_range (v := v + bt s (j : Int) * wt p) (by omega)
      refine ih (j + 1) _ (p + 1) hsz (by omega) hr.1 hr.2 (by omega) (by omega) ?_
      rw [List.drop_eq_getElem_cons (by simpa using hlt)] at H
      simp only [wsum] at H
      rw [← bt_get s j hlt] at H
      have hn := wsum_nonneg (s.data.toList.drop (j + 1)) (p + 1)
      rw [red_add (by omega) hn, Int.add_assoc v, show p + 1 + (d : Int) = p + ((d + 1 : Nat) : Int) by omega]
      exact H
theorem not_low {v : Int} (h0 : 0 ≤ v) (h1 : v ≤ 65535) : Go.bits .and .i64 (Go.bits .xor .i64 (-1) v) 65535 = 65535 - v := by
  rw [and_any]
  have e : Go.bits .xor .i64 (-1) v = IntKind.i64.wrap (((BitVec.ofInt 64 (-1) ^^^ BitVec.ofInt 64 v).toNat : Nat) : Int) := rfl
  have e2 : BitVec.ofInt 64 (-1) ^^^ BitVec.ofInt 64 v = ~~~ (BitVec.ofInt 64 v) := by
    rw [show BitVec.ofInt 64 (-1) = BitVec.allOnes 64 by decide, BitVec.allOnes_xor]
  rw [e, e2, BitVec.toNat_not, BitVec.toNat_ofInt, IntKind.wrap_i64]
  omega
theorem of_outer (l : List ByteArray) : ∀ (d i : Nat) (v p : Int), i + d = l.length → l.length < 4611686018427387904 → 0 ≤ v → v ≤ 65535 → 0 ≤ p → p + catSize (l.drop i) < 4611686018427387904 →
    Ev (fun k => sum_Of.l0 k v p l (l.length : Int) (i : Int)) (65535 - red (v + wsum (cat (l.drop i)) p)) := by
  intro d
  induction d with
  | zero =>
    intro i v p hi hl h0 h1 hp hp2
    refine Ev.step (f := fun _ => some (65535 - red (v + wsum (cat (l.drop i)) p))) (fun k => ?_) (Ev.now _)
    simp only [sum_Of.l0]
    rw [if_neg (by omega), not_low h0 h1, List.drop_of_length_le (by omega)]
    simp only [cat, wsum, Int.add_zero, red_small h0 h1]
  | succ d ih =>
    intro i v p hi hl h0 h1 hp hp2
    have hlt : i < l.length := by omega
    have hd : l.drop i = l[i] :: l.drop (i + 1) := List.drop_eq_getElem_cons hlt
    rw [hd] at hp2 ⊢
    simp only [catSize, cat] at hp2 ⊢
    refine Ev.step (f := fun k => sum_Of.l1 k v p l[i] l (l.length : Int) (i : Int) (l[i].size : Int) ((0 : Nat) : Int)) (fun k => ?_) ?_
    · simp only [sum_Of.l0]
      rw [if_pos (by omega), if_pos (by omega), if_pos (by omega), rdOf_get _ _ _ hlt]
      rfl
    · refine of_inner l[i] l _ _ _ l[i].size 0 v p (by omega) (by omega) h0 h1 hp (by omega) ?_
      have hw := wsum_nonneg l[i].data.toList p
      have hw2 := wsum_nonneg (cat (l.drop (i + 1))) (p + l[i].size)
      have hr := red_range (v := v + wsum l[i].data.toList p) (by omega)
      have := ih (i + 1) (red (v + wsum l[i].data.toList p)) (p + l[i].size) (by omega) hl hr.1 hr.2 (by omega) (by omega)
      rw [red_add (by omega) hw2, Int.add_assoc, show (l[i].size : Int) = (l[i].data.toList.length : Int) by simp, ← wsum_append] at this
      rw [List.drop_zero, show wrap64 ((i : Int) + 1) = ((i + 1 : Nat) : Int) by unfold wrap64; omega]
      simpa using this
/-- The sum of parts: what is behind one another counts as one text. -/
def sumOf (l : List UInt8) : Int := 65535 - red (wsum l 0)
theorem of_ev (l : List ByteArray) (h : l.length < 4611686018427387904) (h2 : catSize l < 4611686018427387904) : Ev (fun k => sum_Of.f k l) (sumOf (cat l)) := by
  have := of_outer l l.length 0 0 0 (by omega) h (by omega) (by omega) (by omega) (by simp; omega)
  simp only [List.drop_zero, Int.zero_add] at this
  exact this

/-! ### A number's bytes -/
def bigL (v : Int) : Nat → List Int
  | 0 => []
  | n + 1 => ((v / 256 ^ n) % 256) :: bigL v n
theorem bigL_length (v : Int) : ∀ n, (bigL v n).length = n
  | 0 => rfl
  | n + 1 => by simp [bigL, bigL_length v n]
def bigS (v : Int) (n : Nat) : ByteArray := strOfNums (bigL v n)
theorem bigS_size (v : Int) (n : Nat) : (bigS v n).size = n := by rw [bigS, strOfNums_size, bigL_length]
theorem pow256 (n : Nat) : (2 : Int) ^ (8 * n) = 256 ^ n := by rw [Int.pow_mul]; rfl
theorem shr_byte (v : Int) (i : Nat) (h : i ≤ 8) : shr .i64 v (wrap64 (8 * (i : Int))) = v / 256 ^ i := by
  have e : wrap64 (8 * (i : Int)) = ((8 * i : Nat) : Int) := by unfold wrap64; omega
  unfold shr
  rw [e, Int.toNat_natCast, Nat.min_eq_left (show 8 * i ≤ IntKind.i64.bits by show 8 * i ≤ 64; omega), pow256]
theorem big_set (v : Int) (n i : Nat) (h : i < n) : (List.replicate (n - i) (0 : Int) ++ bigL v i).set (n - 1 - i) ((v / 256 ^ i) % 256) = List.replicate (n - (i + 1)) 0 ++ bigL v (i + 1) := by
  obtain ⟨m, hm⟩ : ∃ m, n - i = m + 1 := ⟨n - i - 1, by omega⟩
  rw [show n - 1 - i = m by omega, show n - (i + 1) = m by omega, hm, List.replicate_succ', List.append_assoc, List.set_append_right _ _ (by simp)]
  simp [bigL]
theorem big_loop (v : Int) (n : Nat) (hn : n ≤ 8) : ∀ (d i : Nat), i + d = n → Ev (fun k => sum_Big.l0 k v (n : Int) (List.replicate (n - i) 0 ++ bigL v i) (n : Int) (i : Int)) (bigS v n) := by
  intro d
  induction d with
  | zero =>
    intro i hi
    obtain rfl : i = n := by omega
    refine Ev.step (f := fun _ => some (bigS v i)) (fun k => ?_) (Ev.now _)
    simp only [sum_Big.l0]
    rw [if_neg (by omega), Nat.sub_self]
    rfl
  | succ d ih =>
    intro i hi
    have h := ih (i + 1) (by omega)
    refine Ev.step (f := fun k => sum_Big.l0 k v (n : Int) (List.replicate (n - (i + 1)) 0 ++ bigL v (i + 1)) (n : Int) ((i + 1 : Nat) : Int)) (fun k => ?_) h
    have e1 : wrap64 (wrap64 ((n : Int) - 1) - (i : Int)) = ((n - 1 - i : Nat) : Int) := by unfold wrap64; omega
    simp only [sum_Big.l0]
    rw [if_pos (by omega), if_pos (by unfold wrap64; omega), e1, if_pos (by omega), if_pos (by simp [bigL_length]; omega), Int.toNat_natCast, shr_byte v i (by omega), big_set v n i (by omega), show wrap64 ((i : Int) + 1) = ((i + 1 : Nat) : Int) by unfold wrap64; omega]
def clamp8 (n : Int) : Nat := (mx 0 (mn n 8)).toNat
theorem clamp8_le (n : Int) : clamp8 n ≤ 8 := by unfold clamp8 mx mn; (repeat' split) <;> omega
theorem clamp8_nat {n : Nat} (h : n ≤ 8) : clamp8 (n : Int) = n := by unfold clamp8 mx mn; (repeat' split) <;> omega
theorem big_ev (v n : Int) : Ev (fun k => sum_Big.f k v n) (bigS v (clamp8 n)) := by
  have hc := clamp8_le n
  have e : mx 0 (mn n 8) = ((clamp8 n : Nat) : Int) := by unfold clamp8; rw [Int.toNat_of_nonneg]; unfold mx mn; (repeat' split) <;> omega
  refine Ev.congr (f := fun k => sum_Big.l0 k v (clamp8 n : Int) (List.replicate (clamp8 n - 0) 0 ++ bigL v 0) (clamp8 n : Int) ((0 : Nat) : Int)) (fun k => ?_) (big_loop v (clamp8 n) hc (clamp8 n) 0 (by omega))
  simp only [sum_Big.f, e]
  rw [if_pos (by omega), if_pos (by omega)]
  simp [bigL]
theorem big_ev_nat (v : Int) (n : Nat) (h : n ≤ 8) : Ev (fun k => sum_Big.f k v (n : Int)) (bigS v n) := by
  have := big_ev v n
  rw [clamp8_nat h] at this
  exact this

/-! ### Bytes' number -/
theorem bigL_range (v : Int) : ∀ n, ∀ x ∈ bigL v n, 0 ≤ x ∧ x < 256
  | 0, x, h => by simp [bigL] at h
  | n + 1, x, h => by
    rcases List.mem_cons.mp h with rfl | h
    · omega
    · exact bigL_range v n x h
theorem numL_from : ∀ (l : List UInt8) (a : Int), l.foldl (fun v c => v * 256 + (c.toNat : Int)) a = a * 256 ^ l.length + numL l
  | [], a => by simp [numL]
  | c :: t, a => by
    have h1 := numL_from t (a * 256 + (c.toNat : Int))
    have h2 := numL_from t (c.toNat : Int)
    simp only [numL, List.foldl_cons, List.length_cons] at h1 h2 ⊢
    rw [show (0 : Int) * 256 + (c.toNat : Int) = (c.toNat : Int) by omega, h2, h1, Int.add_mul, Int.pow_succ, Int.mul_assoc a, Int.mul_comm (256 : Int)]
    omega
theorem numL_cons (c : UInt8) (t : List UInt8) : numL (c :: t) = (c.toNat : Int) * 256 ^ t.length + numL t := by
  have := numL_from t (c.toNat : Int)
  simp only [numL, List.foldl_cons] at this ⊢
  rw [show (0 : Int) * 256 + (c.toNat : Int) = (c.toNat : Int) by omega, this]
theorem bigS_cons (v : Int) (n : Nat) : (bigS v (n + 1)).data.toList = UInt8.ofNat ((v / 256 ^ n) % 256).toNat :: (bigS v n).data.toList := by
  simp [bigS, strOfNums_data, bigL]
theorem bigS_length (v : Int) (n : Nat) : (bigS v n).data.toList.length = n := by
  have := bigS_size v n
  simpa using this
theorem numL_bigS (v : Int) : ∀ n, numL (bigS v n).data.toList = v % 256 ^ n
  | 0 => by simp [bigS, bigL, strOfNums, numL, Int.emod_one]
  | n + 1 => by
    have hp : (0 : Int) < 256 ^ n := Int.pow_pos (by decide)
    have h0 := Int.emod_nonneg (v / 256 ^ n) (show (256 : Int) ≠ 0 by decide)
    have h1 := Int.emod_lt_of_pos (v / 256 ^ n) (show (0 : Int) < 256 by decide)
    rw [bigS_cons, numL_cons, numL_bigS v n, bigS_length]
    have e : ((UInt8.ofNat ((v / 256 ^ n) % 256).toNat).toNat : Int) = (v / 256 ^ n) % 256 := by
      rw [UInt8.toNat_ofNat', Nat.mod_eq_of_lt (by omega)]
      omega
    rw [e, Int.pow_succ]
    generalize (256 : Int) ^ n = p at *
    have h2 := Int.emod_nonneg v (show p ≠ 0 by omega)
    have h3 := Int.emod_lt_of_pos v hp
    have h4 : v = (v % p + p * (v / p % 256)) + (p * 256) * (v / p / 256) := by
      have a1 := Int.emod_add_mul_ediv v p
      have a2 := Int.emod_add_mul_ediv (v / p) 256
      have a3 : p * (v / p) = p * (v / p % 256) + p * 256 * (v / p / 256) := by rw [Int.mul_assoc, ← Int.mul_add, a2]
      omega
    have h5 : p * (v / p % 256) ≤ p * 255 := Int.mul_le_mul_of_nonneg_left (by omega) (by omega)
    have h6 : 0 ≤ p * (v / p % 256) := Int.mul_nonneg (by omega) h0
    have h7 : v % (p * 256) = v % p + p * (v / p % 256) := by
      rw [h4, Int.add_mul_emod_self_left, Int.emod_eq_of_lt (by omega) (by omega)]
      rw [← h4]
    rw [h7, Int.mul_comm]
    omega
theorem num_some (s : ByteArray) (h : s.size ≤ 4611686018427387904) : sum_Num.f s = some (numOf s) := by
  unfold sum_Num.f
  rw [if_pos h]
theorem numOf_short (s : ByteArray) (h : s.size ≤ 7) : numOf s = numL s.data.toList := by
  unfold numOf
  rw [show s.size - 7 = 0 by omega, List.drop_zero]
theorem numOf_big (v : Int) (n : Nat) (h : n ≤ 7) : numOf (bigS v n) = v % 256 ^ n := by
  rw [numOf_short _ (by rw [bigS_size]; omega), numL_bigS]
/-- Bytes of a number of sixteen bits, at an even place: the number. -/
theorem wsum_big2 (v p : Int) (h0 : 0 ≤ v) (h1 : v ≤ 65535) (hp : p % 2 = 0) : wsum (bigS v 2).data.toList p = v := by
  have e0 : (bigS v 0).data.toList = [] := by simp [bigS, bigL, strOfNums]
  rw [bigS_cons, bigS_cons, e0]
  simp only [wsum, wt]
  rw [if_pos hp, if_neg (by omega), UInt8.toNat_ofNat', UInt8.toNat_ofNat']
  rw [show (256 : Int) ^ 1 = 256 from rfl, show (256 : Int) ^ 0 = 1 from rfl]
  omega
end Go.Proofs.Ytgolimfljndnmaa.QV
