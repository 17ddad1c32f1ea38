/- What is proved: plain laws of sums, of numbers' bytes, of heads of datagrams and segments. Conditions: those that stand in each theorem. -/
import Derived.Test.YtbidgeaigiijpaaFwLay
import Derived.Laws.BitsLemmas
import Derived.Laws.BytesArg
import Derived.Lib.Strings
namespace Go.Proofs.Ytbidgeaigiijpaa.Nt
open Go.RowKit Fw
set_option linter.unusedVariables false
set_option linter.unusedSimpArgs false
def numL (l : List UInt8) : Int := l.foldl (fun v c => v * 256 + (c.toNat : Int)) 0
def numOf (s : ByteArray) : Int := numL (s.data.toList.drop (s.size - 7))
theorem bt_range (s : ByteArray) (i : Int) : 0 ≤ bt s i ∧ bt s i ≤ 255 := by
  unfold bt
  have := UInt8.toNat_lt (s.data.toList.getD i.toNat 0)
  omega
theorem bt_get (s : ByteArray) (j : Nat) (h : j < s.size) : bt s (j : Int) = (s.data.toList[j]'(by simpa using h)).toNat := by
  have h' : j < s.data.toList.length := by simpa using h
  unfold bt
  rw [Int.toNat_natCast, List.getD_eq_getElem?_getD, List.getElem?_eq_getElem h', Option.getD_some]
theorem numL_bound (l : List UInt8) : 0 ≤ numL l ∧ numL l < 256 ^ l.length := by
  unfold numL
  suffices H : ∀ (l : List UInt8) (a : Int) (n : Nat), 0 ≤ a → a < 256 ^ n → 0 ≤ l.foldl (fun v c => v * 256 + (c.toNat : Int)) a ∧ l.foldl (fun v c => v * 256 + (c.toNat : Int)) a < 256 ^ (n + l.length) by
    have := H l 0 0 (by decide) (by decide)
    simpa using this
  intro l
  induction l with
  | nil => intro a n h0 h1; exact ⟨h0, by simpa using h1⟩
  | cons c t ih =>
    intro a n h0 h1
    have hc := c.toNat_lt
    have := ih (a * 256 + (c.toNat : Int)) (n + 1) (by omega) (by rw [Int.pow_succ]; omega)
    rw [List.foldl_cons, List.length_cons, show n + (t.length + 1) = n + 1 + t.length by omega]
    exact this
theorem numL_snoc (l : List UInt8) (c : UInt8) : numL (l ++ [c]) = numL l * 256 + (c.toNat : Int) := by simp [numL]
theorem app_list (a b : ByteArray) : (a ++ b).data.toList = a.data.toList ++ b.data.toList := by simp
theorem ext_list (s : ByteArray) (a b : Nat) : (s.extract a b).data.toList = (s.data.toList.drop a).take (b - a) := by
  exact Lib.extract_data s a b
theorem cut_list (s : ByteArray) (k : Nat) : (s.extract 0 k).data.toList ++ (s.extract k s.size).data.toList = s.data.toList := by
  rw [ext_list, ext_list, List.drop_zero, Nat.sub_zero, List.take_of_length_le (l := s.data.toList.drop k) (by simp), List.take_append_drop]
theorem ba_ext {a b : ByteArray} (h : a.data.toList = b.data.toList) : a = b := by
  cases a; cases b
  congr 1
  exact Array.toList_inj.mp h
theorem toList_data (a : ByteArray) : a.toList = a.data.toList := Lib.toList_data a

def red (v : Int) : Int := if v = 0 then 0 else (v - 1) % 65535 + 1
theorem red_small {v : Int} (h0 : 0 ≤ v) (h1 : v ≤ 65535) : red v = v := by unfold red; split <;> omega
theorem red_range {v : Int} (h0 : 0 ≤ v) : 0 ≤ red v ∧ red v ≤ 65535 := by unfold red; split <;> omega
theorem red_step {v : Int} (h0 : 0 ≤ v) : red (v % 65536 + v / 65536) = red v := by unfold red; split <;> split <;> omega
theorem red_add {x y : Int} (hx : 0 ≤ x) (hy : 0 ≤ y) : red (red x + y) = red (x + y) := by unfold red; (repeat' split) <;> omega
theorem red_add' {x y : Int} (hx : 0 ≤ x) (hy : 0 ≤ y) : red (x + red y) = red (x + y) := by unfold red; (repeat' split) <;> omega
theorem wraps64 (n : Int) (h₀ : 0 ≤ n) (h₁ : n < 2 ^ 63) : IntKind.i64.wrap n = n := by rw [IntKind.wrap_i64]; omega
theorem and_low {v : Int} (h0 : 0 ≤ v) (h1 : v < 9223372036854775808) : Go.bits .and .i64 v 65535 = v % 65536 :=
  bits_mask .i64 63 (by decide) wraps64 16 (by decide) v h0 (by omega)
theorem and_any (v : Int) : Go.bits .and .i64 v 65535 = v % 65536 := by
  have h1 : (65535#64).toNat = 2 ^ 16 - 1 := by decide
  have : Go.bits .and .i64 v 65535 = IntKind.i64.wrap (((BitVec.ofInt 64 v &&& 65535#64).toNat : Nat) : Int) := rfl
  rw [this, BitVec.toNat_and, h1, Nat.and_two_pow_sub_one_eq_mod, wraps64 _ (by omega) (by omega), BitVec.toNat_ofInt]
  omega
def wt (p : Int) : Int := if p % 2 = 0 then 256 else 1
def wsum : List UInt8 → Int → Int
  | [], _ => 0
  | c :: t, p => (c.toNat : Int) * wt p + wsum t (p + 1)
theorem wt_pos (p : Int) : 1 ≤ wt p ∧ wt p ≤ 256 := by unfold wt; split <;> omega
theorem wsum_nonneg : ∀ (l : List UInt8) (p : Int), 0 ≤ wsum l p
  | [], _ => by simp [wsum]
  | c :: t, p => by
    have := wsum_nonneg t (p + 1)
    have h := Int.mul_nonneg (show 0 ≤ (c.toNat : Int) by omega) (show 0 ≤ wt p by have := wt_pos p; omega)
    simp only [wsum]
    omega
theorem wsum_append : ∀ (l m : List UInt8) (p : Int), wsum (l ++ m) p = wsum l p + wsum m (p + l.length)
  | [], m, p => by simp [wsum]
  | c :: t, m, p => by
    have := wsum_append t m (p + 1)
    simp only [List.cons_append, wsum, List.length_cons, this]
    rw [show p + 1 + (t.length : Int) = p + ((t.length + 1 : Nat) : Int) by omega]
    omega
theorem wsum_even : ∀ (l : List UInt8) (p q : Int), p % 2 = q % 2 → wsum l p = wsum l q
  | [], _, _, _ => by simp [wsum]
  | c :: t, p, q, h => by
    have := wsum_even t (p + 1) (q + 1) (by omega)
    simp only [wsum, this, wt, h]
def cat : List ByteArray → List UInt8
  | [] => []
  | s :: t => s.data.toList ++ cat t
def catSize : List ByteArray → Nat
  | [] => 0
  | s :: t => s.size + catSize t
theorem cat_length : ∀ l : List ByteArray, (cat l).length = catSize l
  | [] => rfl
  | s :: t => by simp [cat, catSize, cat_length t]
theorem not_low {v : Int} (h0 : 0 ≤ v) (h1 : v ≤ 65535) : Go.bits .and .i64 (Go.bits .xor .i64 (-1) v) 65535 = 65535 - v := by
  rw [and_any]
  have e : Go.bits .xor .i64 (-1) v = IntKind.i64.wrap (((BitVec.ofInt 64 (-1) ^^^ BitVec.ofInt 64 v).toNat : Nat) : Int) := rfl
  have e2 : BitVec.ofInt 64 (-1) ^^^ BitVec.ofInt 64 v = ~~~ (BitVec.ofInt 64 v) := by
    rw [show BitVec.ofInt 64 (-1) = BitVec.allOnes 64 by decide, BitVec.allOnes_xor]
  rw [e, e2, BitVec.toNat_not, BitVec.toNat_ofInt, IntKind.wrap_i64]
  omega
/-- The sum of parts: what is behind one another counts as one text. -/
def sumOf (l : List UInt8) : Int := 65535 - red (wsum l 0)
def bigL (v : Int) : Nat → List Int
  | 0 => []
  | n + 1 => ((v / 256 ^ n) % 256) :: bigL v n
theorem bigL_length (v : Int) : ∀ n, (bigL v n).length = n
  | 0 => rfl
  | n + 1 => by simp [bigL, bigL_length v n]
def bigS (v : Int) (n : Nat) : ByteArray := strOfNums (bigL v n)
theorem bigS_size (v : Int) (n : Nat) : (bigS v n).size = n := by rw [bigS, strOfNums_size, bigL_length]
theorem pow256 (n : Nat) : (2 : Int) ^ (8 * n) = 256 ^ n := by rw [Int.pow_mul]; rfl
theorem big_set (v : Int) (n i : Nat) (h : i < n) : (List.replicate (n - i) (0 : Int) ++ bigL v i).set (n - 1 - i) ((v / 256 ^ i) % 256) = List.replicate (n - (i + 1)) 0 ++ bigL v (i + 1) := by
  obtain ⟨m, hm⟩ : ∃ m, n - i = m + 1 := ⟨n - i - 1, by omega⟩
  rw [show n - 1 - i = m by omega, show n - (i + 1) = m by omega, hm, List.replicate_succ', List.append_assoc, List.set_append_right _ _ (by simp)]
  simp [bigL]
theorem bigL_range (v : Int) : ∀ n, ∀ x ∈ bigL v n, 0 ≤ x ∧ x < 256
  | 0, x, h => by simp [bigL] at h
  | n + 1, x, h => by
    rcases List.mem_cons.mp h with rfl | h
    · omega
    · exact bigL_range v n x h
theorem numL_from : ∀ (l : List UInt8) (a : Int), l.foldl (fun v c => v * 256 + (c.toNat : Int)) a = a * 256 ^ l.length + numL l
  | [], a => by simp [numL]
  | c :: t, a => by
    have h1 := numL_from t (a * 256 + (c.toNat : Int))
    have h2 := numL_from t (c.toNat : Int)
    simp only [numL, List.foldl_cons, List.length_cons] at h1 h2 ⊢
    rw [show (0 : Int) * 256 + (c.toNat : Int) = (c.toNat : Int) by omega, h2, h1, Int.add_mul, Int.pow_succ, Int.mul_assoc a, Int.mul_comm (256 : Int)]
    omega
theorem numL_cons (c : UInt8) (t : List UInt8) : numL (c :: t) = (c.toNat : Int) * 256 ^ t.length + numL t := by
  have := numL_from t (c.toNat : Int)
  simp only [numL, List.foldl_cons] at this ⊢
  rw [show (0 : Int) * 256 + (c.toNat : Int) = (c.toNat : Int) by omega, this]
theorem bigS_cons (v : Int) (n : Nat) : (bigS v (n + 1)).data.toList = UInt8.ofNat ((v / 256 ^ n) % 256).toNat :: (bigS v n).data.toList := by
  simp [bigS, strOfNums_data, bigL]
theorem bigS_length (v : Int) (n : Nat) : (bigS v n).data.toList.length = n := by
  have := bigS_size v n
  simpa using this
theorem numL_bigS (v : Int) : ∀ n, numL (bigS v n).data.toList = v % 256 ^ n
  | 0 => by simp [bigS, bigL, strOfNums, numL, Int.emod_one]
  | n + 1 => by
    have hp : (0 : Int) < 256 ^ n := Int.pow_pos (by decide)
    have h0 := Int.emod_nonneg (v / 256 ^ n) (show (256 : Int) ≠ 0 by decide)
    have h1 := Int.emod_lt_of_pos (v / 256 ^ n) (show (0 : Int) < 256 by decide)
    rw [bigS_cons, numL_cons, numL_bigS v n, bigS_length]
    have e : ((UInt8.ofNat ((v / 256 ^ n) % 256).toNat).toNat : Int) = (v / 256 ^ n) % 256 := by
      rw [UInt8.toNat_ofNat', Nat.mod_eq_of_lt (by omega)]
      omega
    rw [e, Int.pow_succ]
    generalize (256 : Int) ^ n = p at *
    have h2 := Int.emod_nonneg v (show p ≠ 0 by omega)
    have h3 := Int.emod_lt_of_pos v hp
    have h4 : v = (v % p + p * (v / p % 256)) + (p * 256) * (v / p / 256) := by
      have a1 := Int.emod_add_mul_ediv v p
      have a2 := Int.emod_add_mul_ediv (v / p) 256
      have a3 : p * (v / p) = p * (v / p % 256) + p * 256 * (v / p / 256) := by rw [Int.mul_assoc, ← Int.mul_add, a2]
      omega
    have h5 : p * (v / p % 256) ≤ p * 255 := Int.mul_le_mul_of_nonneg_left (by omega) (by omega)
    have h6 : 0 ≤ p * (v / p % 256) := Int.mul_nonneg (by omega) h0
    have h7 : v % (p * 256) = v % p + p * (v / p % 256) := by
      rw [h4, Int.add_mul_emod_self_left, Int.emod_eq_of_lt (by omega) (by omega)]
      rw [← h4]
    rw [h7, Int.mul_comm]
    omega
theorem numOf_short (s : ByteArray) (h : s.size ≤ 7) : numOf s = numL s.data.toList := by
  unfold numOf
  rw [show s.size - 7 = 0 by omega, List.drop_zero]
theorem numOf_big (v : Int) (n : Nat) (h : n ≤ 7) : numOf (bigS v n) = v % 256 ^ n := by
  rw [numOf_short _ (by rw [bigS_size]; omega), numL_bigS]
/-- Bytes of a number of sixteen bits, at an even place: the number. -/
theorem wsum_big2 (v p : Int) (h0 : 0 ≤ v) (h1 : v ≤ 65535) (hp : p % 2 = 0) : wsum (bigS v 2).data.toList p = v := by
  have e0 : (bigS v 0).data.toList = [] := by simp [bigS, bigL, strOfNums]
  rw [bigS_cons, bigS_cons, e0]
  simp only [wsum, wt]
  rw [if_pos hp, if_neg (by omega), UInt8.toNat_ofNat', UInt8.toNat_ofNat']
  rw [show (256 : Int) ^ 1 = 256 from rfl, show (256 : Int) ^ 0 = 1 from rfl]
  omega
theorem cut_at {s : ByteArray} {a b c : List UInt8} (h : s.data.toList = a ++ (b ++ c)) {i j : Nat} (hi : a.length = i) (hj : i + b.length = j) : (s.extract i j).data.toList = b := by
  rw [ext_list, h, List.drop_append_of_le_length (by omega), List.drop_of_length_le (by omega), List.nil_append, List.take_append_of_le_length (by omega), List.take_of_length_le (by omega)]
theorem cut_end {s : ByteArray} {a b : List UInt8} (h : s.data.toList = a ++ b) {i : Nat} (hi : a.length = i) : (s.extract i s.size).data.toList = b := by
  have hs : s.size = a.length + b.length := by
    have := congrArg List.length h
    simpa using this
  rw [ext_list, h, List.drop_append_of_le_length (by omega), List.drop_of_length_le (by omega), List.nil_append, List.take_of_length_le (by omega)]
theorem bt_at_list {s : ByteArray} {a : List UInt8} {c : UInt8} {r : List UInt8} (h : s.data.toList = a ++ c :: r) {i : Nat} (hi : a.length = i) : bt s (i : Int) = c.toNat := by
  have hs : s.size = a.length + (r.length + 1) := by
    have := congrArg List.length h
    simpa using this
  rw [bt_get s i (by omega)]
  congr 1
  subst hi
  simp [h]
theorem numOf_list {s : ByteArray} {v : Int} {n : Nat} (h : s.data.toList = (bigS v n).data.toList) (hn : n ≤ 7) : numOf s = v % 256 ^ n := by
  rw [ba_ext h]
  exact numOf_big v n hn
theorem red_full (T : Int) (h : 0 ≤ T) : red (T + (65535 - red T)) = 65535 := by unfold red; (repeat' split) <;> omega
theorem wsum_mid (a m b : List UInt8) (ha : a.length % 2 = 0) (hm : m.length % 2 = 0) : wsum (a ++ (m ++ b)) 0 = wsum a 0 + wsum m 0 + wsum b 0 := by
  rw [wsum_append, wsum_append, wsum_even m _ 0 (by omega), wsum_even b _ 0 (by omega)]
  omega
theorem sumOf_range (l : List UInt8) : 0 ≤ sumOf l ∧ sumOf l ≤ 65535 := by
  have := red_range (wsum_nonneg l 0)
  unfold sumOf
  omega
theorem zero_two : wsum [0, 0] 0 = 0 := by decide
/-- With its sum in place of two bytes 0, at an even place, the sum of a text is 0. -/
theorem sum_fill (a b : List UInt8) (ha : a.length % 2 = 0) : sumOf (a ++ ((bigS (sumOf (a ++ ([0, 0] ++ b))) 2).data.toList ++ b)) = 0 := by
  have hr := sumOf_range (a ++ ([0, 0] ++ b))
  generalize hn : sumOf (a ++ ([0, 0] ++ b)) = n at *
  have p1 := wsum_nonneg a 0
  have p2 := wsum_nonneg b 0
  have hn2 : n = 65535 - red (wsum a 0 + wsum b 0) := by
    rw [← hn, sumOf, wsum_mid a [0, 0] b ha rfl, zero_two, Int.add_zero]
  have := red_full (wsum a 0 + wsum b 0) (by omega)
  rw [← hn2] at this
  rw [sumOf, wsum_mid a _ b ha (by rw [bigS_length]), wsum_big2 n 0 hr.1 hr.2 (by omega), show wsum a 0 + n + wsum b 0 = wsum a 0 + wsum b 0 + n by omega, this]
  rfl
/-- Another number there, and the sum is not 0 (but for 0 and 65535, which count as one). -/
theorem sum_other (a b : List UInt8) (ha : a.length % 2 = 0) (v : Int) (h0 : 0 ≤ v) (h1 : v ≤ 65535) (h : sumOf (a ++ ((bigS v 2).data.toList ++ b)) = 0) : v % 65535 = sumOf (a ++ ([0, 0] ++ b)) % 65535 := by
  have p1 := wsum_nonneg a 0
  have p2 := wsum_nonneg b 0
  rw [sumOf, wsum_mid a _ b ha (by rw [bigS_length]), wsum_big2 v 0 h0 h1 (by omega)] at h
  rw [sumOf, wsum_mid a [0, 0] b ha rfl, zero_two, Int.add_zero]
  unfold red at *
  (repeat' split at h) <;> (repeat' split) <;> omega
def z2 : ByteArray := ⟨#[0, 0]⟩
theorem z2_size : z2.size = 2 := rfl
theorem z2_list : z2.data.toList = [0, 0] := rfl
theorem room {n : Nat} (h : n ≤ 1000000) : n ≤ 9223372036854775807 := Nat.le_trans h (by decide)
theorem wrap_u32 {s : Int} (h : 0 ≤ s ∧ s ≤ 4294967295) : wrap64 s = s := by unfold wrap64; omega
/-- May a head be? -/
def chkI (s0 s1 s4 s5 s6 : Int) (o : ByteArray) : Bool := decide (0 ≤ s0 ∧ s0 ≤ 255 ∧ 0 ≤ s5 ∧ s5 ≤ 255 ∧ 0 ≤ s6 ∧ s6 ≤ 255 ∧ 0 ≤ s1 ∧ s1 ≤ 65535 ∧ 0 ≤ s4 ∧ s4 ≤ 65528 ∧ s4 % 8 = 0 ∧ o.size ≤ 40 ∧ o.size % 4 = 0)
theorem chkI_no {s0 s1 s4 s5 s6 : Int} {o : ByteArray} (h : ¬ (0 ≤ s0 ∧ s0 ≤ 255 ∧ 0 ≤ s5 ∧ s5 ≤ 255 ∧ 0 ≤ s6 ∧ s6 ≤ 255 ∧ 0 ≤ s1 ∧ s1 ≤ 65535 ∧ 0 ≤ s4 ∧ s4 ≤ 65528 ∧ s4 % 8 = 0 ∧ o.size ≤ 40 ∧ o.size % 4 = 0)) : chkI s0 s1 s4 s5 s6 o = false := decide_eq_false h
theorem chkI_all {s0 s1 s4 s5 s6 : Int} {o : ByteArray} (h : chkI s0 s1 s4 s5 s6 o = true) : 0 ≤ s0 ∧ s0 ≤ 255 ∧ 0 ≤ s5 ∧ s5 ≤ 255 ∧ 0 ≤ s6 ∧ s6 ≤ 255 ∧ 0 ≤ s1 ∧ s1 ≤ 65535 ∧ 0 ≤ s4 ∧ s4 ≤ 65528 ∧ s4 % 8 = 0 ∧ o.size ≤ 40 ∧ o.size % 4 = 0 := of_decide_eq_true h
theorem tmod8 {a : Int} (h : 0 ≤ a) : Int.tmod a 8 = a % 8 := Int.tmod_eq_emod_of_nonneg h
def cutI (s2 s3 : Bool) (s4 : Int) : Int := s4 / 8 + (if s3 = true then 16384 else 0) + (if s2 = true then 8192 else 0)
theorem or_high (x : Int) (i : Nat) (y : Int) (hx0 : 0 ≤ x) (hx : x < 2 ^ i) (hy0 : 0 ≤ y) (hy : y % 2 ^ i = 0) (hx1 : x < 2 ^ 63) (hy1 : y < 2 ^ 63) : Go.bits .or .i64 x y = x + y := by
  obtain ⟨a, rfl⟩ := Int.eq_ofNat_of_zero_le hx0
  obtain ⟨b, rfl⟩ := Int.eq_ofNat_of_zero_le hy0
  have j := bits_join .i64 63 (by decide) wraps64 i (b : Int) (a : Int) hy0 hy hy1 hx0 hx hx1
  have ha : a < 2 ^ 63 := by exact_mod_cast hx1
  have hb : b < 2 ^ 63 := by exact_mod_cast hy1
  rw [(bits_nat .i64 63 (by decide) wraps64 a b ha hb).2, Nat.or_comm, ← (bits_nat .i64 63 (by decide) wraps64 b a hb ha).2, j, Int.add_comm]
theorem cut_8192 (x : Int) (h0 : 0 ≤ x) (h1 : x ≤ 8191) : Go.bits .or .i64 x 8192 = x + 8192 := or_high x 13 8192 h0 (by omega) (by decide) (by decide) (by omega) (by decide)
theorem cut_16384 (x : Int) (h0 : 0 ≤ x) (h1 : x ≤ 8191) : Go.bits .or .i64 x 16384 = x + 16384 := or_high x 14 16384 h0 (by omega) (by decide) (by decide) (by omega) (by decide)
theorem cut_both (x : Int) (h0 : 0 ≤ x) (h1 : x ≤ 8191) : Go.bits .or .i64 (x + 16384) 8192 = x + 16384 + 8192 := by
  have e1 : x + 16384 = 16384 + x := Int.add_comm _ _
  obtain ⟨a, rfl⟩ := Int.eq_ofNat_of_zero_le h0
  have ha : a < 2 ^ 13 := by omega
  have n1 : 16384 + a = 2 ^ 14 ||| a := by
    have := Nat.two_pow_add_eq_or_of_lt (show a < 2 ^ 14 by omega) 1
    simpa using this
  have n2 : 8192 + a = 2 ^ 13 ||| a := by
    have := Nat.two_pow_add_eq_or_of_lt ha 1
    simpa using this
  have n3 : 16384 + (8192 + a) = 2 ^ 14 ||| (8192 + a) := by
    have := Nat.two_pow_add_eq_or_of_lt (show 8192 + a < 2 ^ 14 by omega) 1
    simpa using this
  have c : ((a : Int) + 16384) = ((16384 + a : Nat) : Int) := by omega
  rw [c, show (8192 : Int) = ((8192 : Nat) : Int) from rfl, (bits_nat .i64 63 (by decide) wraps64 (16384 + a) 8192 (by omega) (by decide)).2]
  have : 16384 + a ||| 8192 = 16384 + (8192 + a) := by
    rw [n3, n2, n1, show (8192 : Nat) = 2 ^ 13 from rfl, Nat.or_assoc, Nat.or_comm a (2 ^ 13)]
  rw [this]
  omega
theorem cutI_range (s2 s3 : Bool) (s4 : Int) (h0 : 0 ≤ s4) (h1 : s4 ≤ 65528) : 0 ≤ cutI s2 s3 s4 ∧ cutI s2 s3 s4 ≤ 32767 := by
  unfold cutI
  cases s2 <;> cases s3 <;> simp only [Bool.false_eq_true, if_false, if_true] <;> omega
def frontI (s0 s1 : Int) (s2 s3 : Bool) (s4 s5 s6 : Int) (os bs : Nat) : ByteArray := bigS ((64 + (20 + os) / 4 : Nat) : Int) 1 ++ bigS s0 1 ++ bigS ((20 + os + bs : Nat) : Int) 2 ++ bigS s1 2 ++ bigS (cutI s2 s3 s4) 2 ++ bigS s5 1 ++ bigS s6 1
def backI (s7 s8 : Int) (o : ByteArray) : ByteArray := bigS s7 4 ++ bigS s8 4 ++ o
theorem frontI_size (s0 s1 : Int) (s2 s3 : Bool) (s4 s5 s6 : Int) (os bs : Nat) : (frontI s0 s1 s2 s3 s4 s5 s6 os bs).size = 10 := by
  simp only [frontI, ByteArray.size_append, bigS_size]
theorem backI_size (s7 s8 : Int) (o : ByteArray) : (backI s7 s8 o).size = 8 + o.size := by
  simp only [backI, ByteArray.size_append, bigS_size]
/-- The sum of a head that has two bytes 0 in its place. -/
def sumI (s0 s1 : Int) (s2 s3 : Bool) (s4 s5 s6 s7 s8 : Int) (o : ByteArray) (bs : Nat) : Int :=
  sumOf ((frontI s0 s1 s2 s3 s4 s5 s6 o.size bs).data.toList ++ (z2.data.toList ++ (backI s7 s8 o).data.toList))
def headI (s0 s1 : Int) (s2 s3 : Bool) (s4 s5 s6 s7 s8 : Int) (o : ByteArray) (bs : Nat) : ByteArray :=
  frontI s0 s1 s2 s3 s4 s5 s6 o.size bs ++ bigS (sumI s0 s1 s2 s3 s4 s5 s6 s7 s8 o bs) 2 ++ backI s7 s8 o
theorem headI_size (s0 s1 : Int) (s2 s3 : Bool) (s4 s5 s6 s7 s8 : Int) (o : ByteArray) (bs : Nat) : (headI s0 s1 s2 s3 s4 s5 s6 s7 s8 o bs).size = 20 + o.size := by
  simp only [headI, ByteArray.size_append, frontI_size, bigS_size, backI_size]
  omega
def putI (s0 s1 : Int) (s2 s3 : Bool) (s4 s5 s6 s7 s8 : Int) (o body : ByteArray) : ByteArray × Int :=
  if chkI s0 s1 s4 s5 s6 o = true then (if body.size > 2000 then ((⟨#[]⟩ : ByteArray), 5) else (headI s0 s1 s2 s3 s4 s5 s6 s7 s8 o body.size ++ body, 0)) else ((⟨#[]⟩ : ByteArray), 1)
theorem word_one (n : Nat) (h : n ≤ 40) : Go.bits .or .i64 64 (wrap64 (Int.tdiv (wrap64 (20 + (n : Int))) 4)) = ((64 + (20 + n) / 4 : Nat) : Int) := by
  have hw : wrap64 (Int.tdiv (wrap64 (20 + (n : Int))) 4) = (((20 + n) / 4 : Nat) : Int) := by
    rw [show wrap64 (20 + (n : Int)) = ((20 + n : Nat) : Int) by unfold wrap64; omega, Int.tdiv_eq_ediv_of_nonneg (by omega)]
    unfold wrap64
    omega
  rw [hw, bits_join .i64 63 (by decide) wraps64 6 64 _ (by decide) (by decide) (by decide) (by omega) (by omega) (by omega)]
  omega
theorem word_len (n m : Nat) (h : n ≤ 40) (h2 : m ≤ 2000) : wrap64 ((wrap64 (20 + (n : Int))) + (m : Int)) = ((20 + n + m : Nat) : Int) := by unfold wrap64; omega
theorem cat_three (a b c : ByteArray) : cat [a, b, c] = a.data.toList ++ (b.data.toList ++ c.data.toList) := by simp only [cat, List.append_nil]
abbrev GotI := Int × Int × Bool × Bool × Int × Int × Int × Int × Int × ByteArray × ByteArray × Int
def errI (c : Int) : GotI := (0, 0, false, false, 0, 0, 0, 0, 0, (⟨#[]⟩ : ByteArray), (⟨#[]⟩ : ByteArray), c)
/-- How many bytes a head says it has. -/
def lenI (s : ByteArray) : Nat := (4 * (bt s 0 % 16)).toNat
theorem lenI_int (s : ByteArray) : ((lenI s : Nat) : Int) = 4 * (bt s 0 % 16) := by
  have := bt_range s 0
  unfold lenI
  omega
theorem lenI_le (s : ByteArray) : lenI s ≤ 60 := by
  have := lenI_int s
  omega
def allI (s : ByteArray) : Int := numOf (s.extract 2 4)
def cutOf (s : ByteArray) : Int := numOf (s.extract 6 8)
theorem numOf_range (s : ByteArray) (n : Nat) (h : s.size ≤ n) (h7 : n ≤ 7) : 0 ≤ numOf s ∧ numOf s < 256 ^ n := by
  rw [numOf_short s (by omega)]
  have := numL_bound s.data.toList
  have hl : s.data.toList.length = s.size := by simp
  rw [hl] at this
  have hp : (256 : Int) ^ s.size ≤ 256 ^ n := by
    have : (256 : Nat) ^ s.size ≤ 256 ^ n := Nat.pow_le_pow_right (by decide) h
    exact Int.ofNat_le.mpr this
  omega
theorem allI_range (s : ByteArray) : 0 ≤ allI s ∧ allI s ≤ 65535 := by
  have := numOf_range (s.extract 2 4) 2 (by simp; omega) (by omega)
  rw [show (256 : Int) ^ 2 = 65536 from rfl] at this
  unfold allI
  omega
def wrongI (s : ByteArray) : Int :=
  if s.size < 20 then 2 else if bt s 0 / 16 ≠ 4 ∨ lenI s < 20 then 3 else if s.size < lenI s then 2 else if allI s < (lenI s : Int) then 3 else if (s.size : Int) < allI s then 2 else if bt s 6 / 128 = 1 then 3
  else if allI s - (lenI s : Int) > 2000 then 5 else if sumOf (s.extract 0 (lenI s)).data.toList ≠ 0 then 4 else 0
def okI (s : ByteArray) : GotI := (bt s 1, numOf (s.extract 4 6), (Go.bits .and .i64 (cutOf s) 8192) != 0, (Go.bits .and .i64 (cutOf s) 16384) != 0, wrap64 ((Go.bits .and .i64 (cutOf s) 8191) * 8), bt s 8, bt s 9, numOf (s.extract 12 16) % 4294967296, numOf (s.extract 16 20) % 4294967296,
  s.extract 20 (lenI s), s.extract (lenI s) (allI s).toNat, 0)
def getI (s : ByteArray) : GotI := if wrongI s = 0 then okI s else errI (wrongI s)
theorem wrongI_zero {s : ByteArray} (h : wrongI s = 0) : 20 ≤ s.size ∧ bt s 0 / 16 = 4 ∧ 20 ≤ lenI s ∧ lenI s ≤ s.size ∧ (lenI s : Int) ≤ allI s ∧ allI s ≤ (s.size : Int) ∧ bt s 6 / 128 ≠ 1 ∧ allI s - (lenI s : Int) ≤ 2000 ∧ sumOf (s.extract 0 (lenI s)).data.toList = 0 := by
  unfold wrongI at h
  by_cases h1 : s.size < 20
  · rw [if_pos h1] at h; omega
  rw [if_neg h1] at h
  by_cases h2 : bt s 0 / 16 ≠ 4 ∨ lenI s < 20
  · rw [if_pos h2] at h; omega
  rw [if_neg h2] at h
  by_cases h3 : s.size < lenI s
  · rw [if_pos h3] at h; omega
  rw [if_neg h3] at h
  by_cases h4 : allI s < (lenI s : Int)
  · rw [if_pos h4] at h; omega
  rw [if_neg h4] at h
  by_cases h5 : (s.size : Int) < allI s
  · rw [if_pos h5] at h; omega
  rw [if_neg h5] at h
  by_cases h6 : bt s 6 / 128 = 1
  · rw [if_pos h6] at h; omega
  rw [if_neg h6] at h
  by_cases h7 : allI s - (lenI s : Int) > 2000
  · rw [if_pos h7] at h; omega
  rw [if_neg h7] at h
  by_cases h8 : sumOf (s.extract 0 (lenI s)).data.toList ≠ 0
  · rw [if_pos h8] at h; omega
  refine ⟨by omega, ?_, ?_, by omega, by omega, by omega, h6, by omega, ?_⟩
  · exact Classical.byContradiction fun hh => h2 (.inl hh)
  · exact Classical.byContradiction fun hh => h2 (.inr (by omega))
  · exact Classical.byContradiction fun hh => h8 hh
section
variable (k : Nat) (s : ByteArray)
end
theorem t_pos {α : Type} {c : Prop} [Decidable c] {b : Bool} {x y : α} (h : b = decide c) (hc : c) : (if b = true then x else y) = x := if_pos (by rw [h]; exact decide_eq_true hc)
theorem t_neg {α : Type} {c : Prop} [Decidable c] {b : Bool} {x y : α} (h : b = decide c) (hc : ¬ c) : (if b = true then x else y) = y := if_neg (by rw [h, decide_eq_false hc]; exact Bool.false_ne_true)
theorem word_bt (s : ByteArray) (i : Int) : wrap64 (bt s i) = bt s i := by have := bt_range s i; unfold wrap64; omega
theorem big_one (v : Int) : ∃ c : UInt8, (bigS v 1).data.toList = [c] ∧ (c.toNat : Int) = v % 256 := by
  have e0 : (bigS v 0).data.toList = [] := by simp [bigS, bigL, strOfNums]
  refine ⟨_, by rw [bigS_cons, e0], ?_⟩
  rw [show (256 : Int) ^ 0 = 1 from rfl, Int.ediv_one, UInt8.toNat_ofNat', Nat.mod_eq_of_lt (by omega)]
  omega
theorem big_two (v : Int) : ∃ c d : UInt8, (bigS v 2).data.toList = [c, d] ∧ (c.toNat : Int) = v / 256 % 256 ∧ (d.toNat : Int) = v % 256 := by
  obtain ⟨d, hd, hv⟩ := big_one v
  refine ⟨_, d, by rw [bigS_cons, hd], ?_, hv⟩
  rw [show (256 : Int) ^ 1 = 256 from rfl, UInt8.toNat_ofNat', Nat.mod_eq_of_lt (by omega)]
  omega
theorem list_len (s : ByteArray) : s.data.toList.length = s.size := by simp
theorem nat_and_pow (a i : Nat) : a &&& 2 ^ i = (a.testBit i).toNat * 2 ^ i := by
  apply Nat.eq_of_testBit_eq
  intro j
  rw [Nat.testBit_and, Nat.testBit_two_pow]
  by_cases h : i = j
  · subst h
    cases hb : a.testBit i
    · simp
    · simp
  · cases hb : a.testBit i
    · simp [h]
    · simp [h, Nat.testBit_two_pow]
theorem and_bit (i : Nat) (hi : i < 62) (a : Nat) (ha : a < 2 ^ 62) : (Go.bits .and .i64 (a : Int) ((2 ^ i : Nat) : Int) != 0) = decide (a / 2 ^ i % 2 = 1) := by
  have hb : (2 ^ i : Nat) < 2 ^ 63 := Nat.pow_lt_pow_right (by decide) (by omega)
  rw [(bits_nat .i64 63 (by decide) wraps64 a (2 ^ i) (by omega) hb).1, nat_and_pow, Nat.testBit_eq_decide_div_mod_eq]
  have hp : 0 < 2 ^ i := Nat.two_pow_pos i
  by_cases h : a / 2 ^ i % 2 = 1
  · rw [decide_eq_true h]
    simp only [Bool.toNat_true, Nat.one_mul]
    rw [bne_iff_ne]
    omega
  · rw [decide_eq_false h]
    simp
theorem cut_more (s2 s3 : Bool) (s4 : Int) (h0 : 0 ≤ s4) (h1 : s4 ≤ 65528) : (Go.bits .and .i64 (cutI s2 s3 s4) 8192 != 0) = s2 := by
  have hr := cutI_range s2 s3 s4 h0 h1
  obtain ⟨a, ha⟩ := Int.eq_ofNat_of_zero_le hr.1
  have := and_bit 13 (by decide) a (by omega)
  rw [show ((2 ^ 13 : Nat) : Int) = 8192 from rfl, ← ha] at this
  rw [this]
  unfold cutI at ha
  cases s2 <;> cases s3 <;> simp only [Bool.false_eq_true, if_false, if_true] at ha
  · exact decide_eq_false (by omega)
  · exact decide_eq_false (by omega)
  · exact decide_eq_true (by omega)
  · exact decide_eq_true (by omega)
theorem cut_keep (s2 s3 : Bool) (s4 : Int) (h0 : 0 ≤ s4) (h1 : s4 ≤ 65528) : (Go.bits .and .i64 (cutI s2 s3 s4) 16384 != 0) = s3 := by
  have hr := cutI_range s2 s3 s4 h0 h1
  obtain ⟨a, ha⟩ := Int.eq_ofNat_of_zero_le hr.1
  have := and_bit 14 (by decide) a (by omega)
  rw [show ((2 ^ 14 : Nat) : Int) = 16384 from rfl, ← ha] at this
  rw [this]
  unfold cutI at ha
  cases s2 <;> cases s3 <;> simp only [Bool.false_eq_true, if_false, if_true] at ha
  · exact decide_eq_false (by omega)
  · exact decide_eq_true (by omega)
  · exact decide_eq_false (by omega)
  · exact decide_eq_true (by omega)
theorem cut_off (s2 s3 : Bool) (s4 : Int) (h0 : 0 ≤ s4) (h1 : s4 ≤ 65528) (h8 : s4 % 8 = 0) : wrap64 ((Go.bits .and .i64 (cutI s2 s3 s4) 8191) * 8) = s4 := by
  have hr := cutI_range s2 s3 s4 h0 h1
  have hm : Go.bits .and .i64 (cutI s2 s3 s4) 8191 = cutI s2 s3 s4 % 8192 := bits_mask .i64 63 (by decide) wraps64 13 (by decide) _ hr.1 (by omega)
  rw [hm]
  have : cutI s2 s3 s4 % 8192 = s4 / 8 := by
    unfold cutI
    cases s2 <;> cases s3 <;> simp only [Bool.false_eq_true, if_false, if_true] <;> omega
  rw [this]
  unfold wrap64
  omega
section
variable (s0 s1 : Int) (s2 s3 : Bool) (s4 s5 s6 s7 s8 : Int) (o body more : ByteArray)
def ipM : ByteArray := headI s0 s1 s2 s3 s4 s5 s6 s7 s8 o body.size ++ body ++ more
theorem ipM_size : (ipM s0 s1 s2 s3 s4 s5 s6 s7 s8 o body more).size = 20 + o.size + body.size + more.size := by
  simp only [ipM, ByteArray.size_append, headI_size]
theorem ipM_list : (ipM s0 s1 s2 s3 s4 s5 s6 s7 s8 o body more).data.toList = (bigS ((64 + (20 + o.size) / 4 : Nat) : Int) 1).data.toList ++ ((bigS s0 1).data.toList ++ ((bigS ((20 + o.size + body.size : Nat) : Int) 2).data.toList ++ ((bigS s1 2).data.toList ++ ((bigS (cutI s2 s3 s4) 2).data.toList ++ ((bigS s5 1).data.toList ++ ((bigS s6 1).data.toList ++
    ((bigS (sumI s0 s1 s2 s3 s4 s5 s6 s7 s8 o body.size) 2).data.toList ++ ((bigS s7 4).data.toList ++ ((bigS s8 4).data.toList ++ (o.data.toList ++ (body.data.toList ++ more.data.toList))))))))))) := by
  simp only [ipM, headI, frontI, backI, app_list, List.append_assoc]
theorem ip_bt0 (ho : o.size ≤ 40) : bt (ipM s0 s1 s2 s3 s4 s5 s6 s7 s8 o body more) 0 = ((64 + (20 + o.size) / 4 : Nat) : Int) := by
  obtain ⟨c, hc, hv⟩ := big_one ((64 + (20 + o.size) / 4 : Nat) : Int)
  have h := ipM_list s0 s1 s2 s3 s4 s5 s6 s7 s8 o body more
  rw [hc] at h
  have := bt_at_list (s := ipM s0 s1 s2 s3 s4 s5 s6 s7 s8 o body more) (a := []) (c := c) (by rw [h]; rfl) (i := 0) rfl
  rw [show ((0 : Nat) : Int) = 0 from rfl] at this
  rw [this, hv]
  omega
theorem ip_bt1 (h0 : 0 ≤ s0) (h1 : s0 ≤ 255) : bt (ipM s0 s1 s2 s3 s4 s5 s6 s7 s8 o body more) 1 = s0 := by
  obtain ⟨c, hc, hv⟩ := big_one s0
  have h := ipM_list s0 s1 s2 s3 s4 s5 s6 s7 s8 o body more
  rw [hc] at h
  have := bt_at_list (s := ipM s0 s1 s2 s3 s4 s5 s6 s7 s8 o body more) (a := (bigS ((64 + (20 + o.size) / 4 : Nat) : Int) 1).data.toList) (c := c) h (i := 1) (by rw [bigS_length])
  rw [show ((1 : Nat) : Int) = 1 from rfl] at this
  rw [this, hv]
  omega
theorem ip_bt6 (h0 : 0 ≤ s4) (h1 : s4 ≤ 65528) : bt (ipM s0 s1 s2 s3 s4 s5 s6 s7 s8 o body more) 6 / 128 = 0 := by
  obtain ⟨c, d, hc, hv, _⟩ := big_two (cutI s2 s3 s4)
  have hr := cutI_range s2 s3 s4 h0 h1
  have h := ipM_list s0 s1 s2 s3 s4 s5 s6 s7 s8 o body more
  rw [hc] at h
  have := bt_at_list (s := ipM s0 s1 s2 s3 s4 s5 s6 s7 s8 o body more) (a := (bigS ((64 + (20 + o.size) / 4 : Nat) : Int) 1).data.toList ++ ((bigS s0 1).data.toList ++ ((bigS ((20 + o.size + body.size : Nat) : Int) 2).data.toList ++ (bigS s1 2).data.toList))) (c := c) (by rw [h]; simp only [List.append_assoc, List.cons_append, List.nil_append]; rfl) (i := 6) (by simp only [List.length_append, bigS_length])
  rw [show ((6 : Nat) : Int) = 6 from rfl] at this
  rw [this, hv]
  omega
theorem ip_bt8 (h0 : 0 ≤ s5) (h1 : s5 ≤ 255) : bt (ipM s0 s1 s2 s3 s4 s5 s6 s7 s8 o body more) 8 = s5 := by
  obtain ⟨c, hc, hv⟩ := big_one s5
  have h := ipM_list s0 s1 s2 s3 s4 s5 s6 s7 s8 o body more
  rw [hc] at h
  have := bt_at_list (s := ipM s0 s1 s2 s3 s4 s5 s6 s7 s8 o body more) (a := (bigS ((64 + (20 + o.size) / 4 : Nat) : Int) 1).data.toList ++ ((bigS s0 1).data.toList ++ ((bigS ((20 + o.size + body.size : Nat) : Int) 2).data.toList ++ ((bigS s1 2).data.toList ++ (bigS (cutI s2 s3 s4) 2).data.toList)))) (c := c) (by rw [h]; simp only [List.append_assoc, List.cons_append, List.nil_append]; rfl) (i := 8) (by simp only [List.length_append, bigS_length])
  rw [show ((8 : Nat) : Int) = 8 from rfl] at this
  rw [this, hv]
  omega
theorem ip_bt9 (h0 : 0 ≤ s6) (h1 : s6 ≤ 255) : bt (ipM s0 s1 s2 s3 s4 s5 s6 s7 s8 o body more) 9 = s6 := by
  obtain ⟨c, hc, hv⟩ := big_one s6
  have h := ipM_list s0 s1 s2 s3 s4 s5 s6 s7 s8 o body more
  rw [hc] at h
  have := bt_at_list (s := ipM s0 s1 s2 s3 s4 s5 s6 s7 s8 o body more) (a := (bigS ((64 + (20 + o.size) / 4 : Nat) : Int) 1).data.toList ++ ((bigS s0 1).data.toList ++ ((bigS ((20 + o.size + body.size : Nat) : Int) 2).data.toList ++ ((bigS s1 2).data.toList ++ ((bigS (cutI s2 s3 s4) 2).data.toList ++ (bigS s5 1).data.toList))))) (c := c) (by rw [h]; simp only [List.append_assoc, List.cons_append, List.nil_append]; rfl) (i := 9) (by simp only [List.length_append, bigS_length])
  rw [show ((9 : Nat) : Int) = 9 from rfl] at this
  rw [this, hv]
  omega
theorem ip_len (ho : o.size ≤ 40) (h4 : o.size % 4 = 0) : lenI (ipM s0 s1 s2 s3 s4 s5 s6 s7 s8 o body more) = 20 + o.size := by
  have := lenI_int (ipM s0 s1 s2 s3 s4 s5 s6 s7 s8 o body more)
  rw [ip_bt0 s0 s1 s2 s3 s4 s5 s6 s7 s8 o body more ho] at this
  omega
theorem ip_all (ho : o.size ≤ 40) (hb : body.size ≤ 2000) : allI (ipM s0 s1 s2 s3 s4 s5 s6 s7 s8 o body more) = ((20 + o.size + body.size : Nat) : Int) := by
  unfold allI
  rw [numOf_list (v := ((20 + o.size + body.size : Nat) : Int)) (n := 2) (cut_at (a := (bigS ((64 + (20 + o.size) / 4 : Nat) : Int) 1).data.toList ++ (bigS s0 1).data.toList) (by rw [ipM_list]; simp only [List.append_assoc]; rfl) (by simp only [List.length_append, bigS_length]) (by rw [bigS_length])) (by omega), show (256 : Int) ^ 2 = 65536 from rfl]
  omega
theorem ip_cut (h0 : 0 ≤ s4) (h1 : s4 ≤ 65528) : cutOf (ipM s0 s1 s2 s3 s4 s5 s6 s7 s8 o body more) = cutI s2 s3 s4 := by
  have hr := cutI_range s2 s3 s4 h0 h1
  unfold cutOf
  rw [numOf_list (v := cutI s2 s3 s4) (n := 2) (cut_at (a := (bigS ((64 + (20 + o.size) / 4 : Nat) : Int) 1).data.toList ++ ((bigS s0 1).data.toList ++ ((bigS ((20 + o.size + body.size : Nat) : Int) 2).data.toList ++ (bigS s1 2).data.toList))) (by rw [ipM_list]; simp only [List.append_assoc]; rfl) (by simp only [List.length_append, bigS_length]) (by rw [bigS_length])) (by omega), show (256 : Int) ^ 2 = 65536 from rfl]
  omega
theorem head_sum : sumOf (headI s0 s1 s2 s3 s4 s5 s6 s7 s8 o body.size).data.toList = 0 := by
  have := sum_fill (frontI s0 s1 s2 s3 s4 s5 s6 o.size body.size).data.toList (backI s7 s8 o).data.toList (by rw [list_len, frontI_size])
  have e : [0, 0] ++ (backI s7 s8 o).data.toList = z2.data.toList ++ (backI s7 s8 o).data.toList := rfl
  rw [e] at this
  simp only [headI, app_list, List.append_assoc]
  exact this
theorem ip_headlist : ((ipM s0 s1 s2 s3 s4 s5 s6 s7 s8 o body more).extract 0 (20 + o.size)).data.toList = (headI s0 s1 s2 s3 s4 s5 s6 s7 s8 o body.size).data.toList :=
  cut_at (a := []) (c := body.data.toList ++ more.data.toList) (by simp only [ipM, app_list, List.append_assoc, List.nil_append]) rfl (by rw [list_len, headI_size]; omega)
theorem getI_ip (hc : chkI s0 s1 s4 s5 s6 o = true) (h7 : 0 ≤ s7 ∧ s7 ≤ 4294967295) (h8 : 0 ≤ s8 ∧ s8 ≤ 4294967295) (hb : body.size ≤ 2000) : getI (ipM s0 s1 s2 s3 s4 s5 s6 s7 s8 o body more) = (s0, s1, s2, s3, s4, s5, s6, s7, s8, o, body, 0) := by
  obtain ⟨c1, c2, c3, c4, c5, c6, d1, d2, e1, e2, e3, f1, f2⟩ := chkI_all hc
  have hL := ipM_list s0 s1 s2 s3 s4 s5 s6 s7 s8 o body more
  have hl := ip_len s0 s1 s2 s3 s4 s5 s6 s7 s8 o body more f1 f2
  have hs := ipM_size s0 s1 s2 s3 s4 s5 s6 s7 s8 o body more
  have hb0 := ip_bt0 s0 s1 s2 s3 s4 s5 s6 s7 s8 o body more f1
  have ha := ip_all s0 s1 s2 s3 s4 s5 s6 s7 s8 o body more f1 hb
  have hw : wrongI (ipM s0 s1 s2 s3 s4 s5 s6 s7 s8 o body more) = 0 := by
    unfold wrongI
    rw [hs, hl, hb0, ha, ip_bt6 s0 s1 s2 s3 s4 s5 s6 s7 s8 o body more e1 e2, ip_headlist, head_sum, if_neg (by omega), if_neg (by omega), if_neg (by omega), if_neg (by omega), if_neg (by omega), if_neg (by omega), if_neg (by omega), if_neg (by simp)]
  unfold getI okI
  rw [if_pos hw, hl, ha, Int.toNat_natCast, ip_bt1 s0 s1 s2 s3 s4 s5 s6 s7 s8 o body more c1 c2, ip_bt8 s0 s1 s2 s3 s4 s5 s6 s7 s8 o body more c3 c4, ip_bt9 s0 s1 s2 s3 s4 s5 s6 s7 s8 o body more c5 c6, ip_cut s0 s1 s2 s3 s4 s5 s6 s7 s8 o body more e1 e2, cut_more s2 s3 s4 e1 e2, cut_keep s2 s3 s4 e1 e2, cut_off s2 s3 s4 e1 e2 e3]
  have o1 : (ipM s0 s1 s2 s3 s4 s5 s6 s7 s8 o body more).extract 20 (20 + o.size) = o := ba_ext (cut_at (a := (bigS ((64 + (20 + o.size) / 4 : Nat) : Int) 1).data.toList ++ ((bigS s0 1).data.toList ++ ((bigS ((20 + o.size + body.size : Nat) : Int) 2).data.toList ++ ((bigS s1 2).data.toList ++ ((bigS (cutI s2 s3 s4) 2).data.toList ++ ((bigS s5 1).data.toList ++ ((bigS s6 1).data.toList ++
    ((bigS (sumI s0 s1 s2 s3 s4 s5 s6 s7 s8 o body.size) 2).data.toList ++ ((bigS s7 4).data.toList ++ (bigS s8 4).data.toList))))))))) (c := body.data.toList ++ more.data.toList) (by rw [hL]; simp only [List.append_assoc]) (by simp only [List.length_append, bigS_length]) (by rw [list_len]))
  have o2 : (ipM s0 s1 s2 s3 s4 s5 s6 s7 s8 o body more).extract (20 + o.size) (20 + o.size + body.size) = body := ba_ext (cut_at (a := (headI s0 s1 s2 s3 s4 s5 s6 s7 s8 o body.size).data.toList) (c := more.data.toList) (by simp only [ipM, app_list, List.append_assoc]) (by rw [list_len, headI_size]) (by rw [list_len]))
  have n1 : numOf ((ipM s0 s1 s2 s3 s4 s5 s6 s7 s8 o body more).extract 4 6) = s1 := by
    rw [numOf_list (v := s1) (n := 2) (cut_at (a := (bigS ((64 + (20 + o.size) / 4 : Nat) : Int) 1).data.toList ++ ((bigS s0 1).data.toList ++ (bigS ((20 + o.size + body.size : Nat) : Int) 2).data.toList)) (by rw [hL]; simp only [List.append_assoc]; rfl) (by simp only [List.length_append, bigS_length]) (by rw [bigS_length])) (by omega), show (256 : Int) ^ 2 = 65536 from rfl]
    omega
  have n2 : numOf ((ipM s0 s1 s2 s3 s4 s5 s6 s7 s8 o body more).extract 12 16) = s7 := by
    rw [numOf_list (v := s7) (n := 4) (cut_at (a := (bigS ((64 + (20 + o.size) / 4 : Nat) : Int) 1).data.toList ++ ((bigS s0 1).data.toList ++ ((bigS ((20 + o.size + body.size : Nat) : Int) 2).data.toList ++ ((bigS s1 2).data.toList ++ ((bigS (cutI s2 s3 s4) 2).data.toList ++ ((bigS s5 1).data.toList ++ ((bigS s6 1).data.toList ++
    (bigS (sumI s0 s1 s2 s3 s4 s5 s6 s7 s8 o body.size) 2).data.toList))))))) (by rw [hL]; simp only [List.append_assoc]; rfl) (by simp only [List.length_append, bigS_length]) (by rw [bigS_length])) (by omega), show (256 : Int) ^ 4 = 4294967296 from rfl]
    omega
  have n3 : numOf ((ipM s0 s1 s2 s3 s4 s5 s6 s7 s8 o body more).extract 16 20) = s8 := by
    rw [numOf_list (v := s8) (n := 4) (cut_at (a := (bigS ((64 + (20 + o.size) / 4 : Nat) : Int) 1).data.toList ++ ((bigS s0 1).data.toList ++ ((bigS ((20 + o.size + body.size : Nat) : Int) 2).data.toList ++ ((bigS s1 2).data.toList ++ ((bigS (cutI s2 s3 s4) 2).data.toList ++ ((bigS s5 1).data.toList ++ ((bigS s6 1).data.toList ++
    ((bigS (sumI s0 s1 s2 s3 s4 s5 s6 s7 s8 o body.size) 2).data.toList ++ (bigS s7 4).data.toList)))))))) (by rw [hL]; simp only [List.append_assoc]; rfl) (by simp only [List.length_append, bigS_length]) (by rw [bigS_length])) (by omega), show (256 : Int) ^ 4 = 4294967296 from rfl]
    omega
  rw [o1, o2, n1, n2, n3, Int.emod_eq_of_lt h7.1 (by omega), Int.emod_eq_of_lt h8.1 (by omega)]
end
def z1 : ByteArray := ⟨#[0]⟩
theorem z1_size : z1.size = 1 := rfl
theorem z1_list : z1.data.toList = [0] := rfl
/-- May a head be? -/
def chkT (s0 s1 s4 s5 : Int) (o : ByteArray) : Bool := decide (0 ≤ s0 ∧ s0 ≤ 65535 ∧ 0 ≤ s1 ∧ s1 ≤ 65535 ∧ 0 ≤ s5 ∧ s5 ≤ 65535 ∧ 0 ≤ s4 ∧ s4 ≤ 63 ∧ o.size ≤ 40 ∧ o.size % 4 = 0)
def pseudoT (src dst p n : Int) : ByteArray := bigS src 4 ++ bigS dst 4 ++ z1 ++ bigS p 1 ++ bigS n 2
theorem pseudoT_size (src dst p n : Int) : (pseudoT src dst p n).size = 12 := by
  simp only [pseudoT, ByteArray.size_append, bigS_size, z1_size]
def frontT (s0 s1 s2 s3 s4 s5 : Int) (os : Nat) : ByteArray := bigS s0 2 ++ bigS s1 2 ++ bigS s2 4 ++ bigS s3 4 ++ bigS (((20 + os) / 4 * 16 : Nat) : Int) 1 ++ bigS s4 1 ++ bigS s5 2
def backT (o body : ByteArray) : ByteArray := z2 ++ o ++ body
theorem frontT_size (s0 s1 s2 s3 s4 s5 : Int) (os : Nat) : (frontT s0 s1 s2 s3 s4 s5 os).size = 16 := by
  simp only [frontT, ByteArray.size_append, bigS_size]
theorem backT_size (o body : ByteArray) : (backT o body).size = 2 + o.size + body.size := by
  simp only [backT, ByteArray.size_append, z2_size]
/-- The sum of a segment that has two bytes 0 in its place. -/
def sumT (src dst s0 s1 s2 s3 s4 s5 : Int) (o body : ByteArray) : Int :=
  sumOf ((pseudoT src dst 6 ((20 + o.size + body.size : Nat) : Int)).data.toList ++ ((frontT s0 s1 s2 s3 s4 s5 o.size).data.toList ++ (z2.data.toList ++ (backT o body).data.toList)))
/-- A segment. -/
def segT (src dst s0 s1 s2 s3 s4 s5 : Int) (o body : ByteArray) : ByteArray := frontT s0 s1 s2 s3 s4 s5 o.size ++ bigS (sumT src dst s0 s1 s2 s3 s4 s5 o body) 2 ++ backT o body
theorem segT_size (src dst s0 s1 s2 s3 s4 s5 : Int) (o body : ByteArray) : (segT src dst s0 s1 s2 s3 s4 s5 o body).size = 20 + o.size + body.size := by
  simp only [segT, ByteArray.size_append, frontT_size, bigS_size, backT_size]
  omega
def putT (src dst s0 s1 s2 s3 s4 s5 : Int) (o body : ByteArray) : ByteArray × Int :=
  if chkT s0 s1 s4 s5 o = true then (if 20 + o.size + body.size > 2000 then ((⟨#[]⟩ : ByteArray), 5) else (segT src dst s0 s1 s2 s3 s4 s5 o body, 0)) else ((⟨#[]⟩ : ByteArray), 1)
theorem chkT_opts {s0 s1 s4 s5 : Int} {o : ByteArray} (h : chkT s0 s1 s4 s5 o = true) : o.size ≤ 40 ∧ o.size % 4 = 0 := by
  unfold chkT at h
  simp only [decide_eq_true_eq] at h
  omega
theorem off_word (n : Nat) (h : n ≤ 40) : wrap64 (wrap64 (Int.tdiv ((20 + n : Nat) : Int) 4) * 16) = (((20 + n) / 4 * 16 : Nat) : Int) := by
  rw [Int.tdiv_eq_ediv_of_nonneg (by omega)]
  unfold wrap64
  omega
theorem len_word (o body : ByteArray) (ho : o.size ≤ 140737488351232) (hb : body.size ≤ 140737488351232) : wrap64 (((20 + o.size : Nat) : Int) + (body.size : Int)) = ((20 + o.size + body.size : Nat) : Int) := by unfold wrap64; omega
theorem cat_sum (a b c d : ByteArray) : cat [a, b, c, d] = a.data.toList ++ (b.data.toList ++ (c.data.toList ++ d.data.toList)) := by simp only [cat, List.append_nil]
abbrev GotT := Int × Int × Int × Int × Int × Int × ByteArray × ByteArray × Int
def errT (c : Int) : GotT := (0, 0, 0, 0, 0, 0, (⟨#[]⟩ : ByteArray), (⟨#[]⟩ : ByteArray), c)
/-- How many bytes a head says it has. -/
def lenT (s : ByteArray) : Nat := (bt s 12 / 16 * 4).toNat
theorem lenT_int (s : ByteArray) : ((lenT s : Nat) : Int) = bt s 12 / 16 * 4 := by
  have := bt_range s 12
  unfold lenT
  omega
/-- The sum of a segment as it is. -/
def whole (src dst : Int) (s : ByteArray) : Int := sumOf ((pseudoT src dst 6 (s.size : Int)).data.toList ++ s.data.toList)
def wrongT (src dst : Int) (s : ByteArray) : Int :=
  if s.size < 20 then 2 else if lenT s < 20 then 3 else if s.size < lenT s then 2 else if bt s 12 % 16 ≠ 0 ∨ bt s 13 > 63 then 3 else if s.size > 2000 then 5 else if whole src dst s ≠ 0 then 4 else 0
def okT (s : ByteArray) : GotT := (numOf (s.extract 0 2), numOf (s.extract 2 4), numOf (s.extract 4 8) % 4294967296, numOf (s.extract 8 12) % 4294967296, bt s 13, numOf (s.extract 14 16), s.extract 20 (lenT s), s.extract (lenT s) s.size, 0)
def getT (src dst : Int) (s : ByteArray) : GotT := if wrongT src dst s = 0 then okT s else errT (wrongT src dst s)
theorem and15 (s : ByteArray) : Go.bits .and .u8 (bt s 12) 15 = bt s 12 % 16 := u8_and15 _ (bt_range s 12).1 (by have := bt_range s 12; omega)
theorem word_a (s : ByteArray) : wrap64 (bt s 12) = bt s 12 := by have := bt_range s 12; unfold wrap64; omega
theorem word_b (s : ByteArray) : wrap64 (bt s 12 / 16 * 4) = bt s 12 / 16 * 4 := by have := bt_range s 12; unfold wrap64; omega
theorem word_c (s : ByteArray) : wrap64 (bt s 13) = bt s 13 := by have := bt_range s 13; unfold wrap64; omega
theorem cat_two (a b : ByteArray) : cat [a, b] = a.data.toList ++ b.data.toList := by simp only [cat, List.append_nil]
theorem wrongT_zero {src dst : Int} {s : ByteArray} (h : wrongT src dst s = 0) : 20 ≤ s.size ∧ 20 ≤ lenT s ∧ lenT s ≤ s.size ∧ s.size ≤ 2000 ∧ bt s 12 % 16 = 0 ∧ bt s 13 ≤ 63 ∧ whole src dst s = 0 := by
  unfold wrongT at h
  by_cases h1 : s.size < 20
  · rw [if_pos h1] at h; omega
  rw [if_neg h1] at h
  by_cases h2 : lenT s < 20
  · rw [if_pos h2] at h; omega
  rw [if_neg h2] at h
  by_cases h3 : s.size < lenT s
  · rw [if_pos h3] at h; omega
  rw [if_neg h3] at h
  by_cases h4 : bt s 12 % 16 ≠ 0 ∨ bt s 13 > 63
  · rw [if_pos h4] at h; omega
  rw [if_neg h4] at h
  by_cases h5 : s.size > 2000
  · rw [if_pos h5] at h; omega
  rw [if_neg h5] at h
  by_cases h6 : whole src dst s ≠ 0
  · rw [if_pos h6] at h; omega
  refine ⟨by omega, by omega, by omega, by omega, ?_, ?_, ?_⟩
  · exact Classical.byContradiction fun hh => h4 (.inl hh)
  · exact Classical.byContradiction fun hh => h4 (.inr (by omega))
  · exact Classical.byContradiction fun hh => h6 hh
theorem chkT_all {s0 s1 s4 s5 : Int} {o : ByteArray} (h : chkT s0 s1 s4 s5 o = true) : 0 ≤ s0 ∧ s0 ≤ 65535 ∧ 0 ≤ s1 ∧ s1 ≤ 65535 ∧ 0 ≤ s5 ∧ s5 ≤ 65535 ∧ 0 ≤ s4 ∧ s4 ≤ 63 ∧ o.size ≤ 40 ∧ o.size % 4 = 0 := by
  unfold chkT at h
  simpa only [decide_eq_true_eq] using h
section
variable (src dst s0 s1 s2 s3 s4 s5 : Int) (o body : ByteArray)
theorem segT_list : (segT src dst s0 s1 s2 s3 s4 s5 o body).data.toList = (bigS s0 2).data.toList ++ ((bigS s1 2).data.toList ++ ((bigS s2 4).data.toList ++ ((bigS s3 4).data.toList ++ ((bigS (((20 + o.size) / 4 * 16 : Nat) : Int) 1).data.toList ++ ((bigS s4 1).data.toList ++ ((bigS s5 2).data.toList ++
    ((bigS (sumT src dst s0 s1 s2 s3 s4 s5 o body) 2).data.toList ++ (z2.data.toList ++ (o.data.toList ++ body.data.toList))))))))) := by
  simp only [segT, frontT, backT, app_list, List.append_assoc]
theorem z2_len : z2.data.toList.length = 2 := rfl
theorem seg_bt12 (ho : o.size ≤ 40) : bt (segT src dst s0 s1 s2 s3 s4 s5 o body) 12 = (((20 + o.size) / 4 * 16 : Nat) : Int) := by
  obtain ⟨c, hc, hv⟩ := big_one (((20 + o.size) / 4 * 16 : Nat) : Int)
  have h := segT_list src dst s0 s1 s2 s3 s4 s5 o body
  rw [hc] at h
  have := bt_at_list (s := segT src dst s0 s1 s2 s3 s4 s5 o body) (a := (bigS s0 2).data.toList ++ ((bigS s1 2).data.toList ++ ((bigS s2 4).data.toList ++ (bigS s3 4).data.toList))) (c := c) (by rw [h]; simp only [List.append_assoc, List.cons_append, List.nil_append]; rfl) (i := 12) (by simp only [List.length_append, bigS_length])
  rw [show ((12 : Nat) : Int) = 12 from rfl] at this
  rw [this, hv]
  omega
theorem seg_bt13 (h0 : 0 ≤ s4) (h1 : s4 ≤ 63) : bt (segT src dst s0 s1 s2 s3 s4 s5 o body) 13 = s4 := by
  obtain ⟨c, hc, hv⟩ := big_one s4
  have h := segT_list src dst s0 s1 s2 s3 s4 s5 o body
  rw [hc] at h
  have := bt_at_list (s := segT src dst s0 s1 s2 s3 s4 s5 o body) (a := (bigS s0 2).data.toList ++ ((bigS s1 2).data.toList ++ ((bigS s2 4).data.toList ++ ((bigS s3 4).data.toList ++ (bigS (((20 + o.size) / 4 * 16 : Nat) : Int) 1).data.toList)))) (c := c) (by rw [h]; simp only [List.append_assoc, List.cons_append, List.nil_append]; rfl) (i := 13) (by simp only [List.length_append, bigS_length])
  rw [show ((13 : Nat) : Int) = 13 from rfl] at this
  rw [this, hv]
  omega
theorem seg_len (ho : o.size ≤ 40) (h4 : o.size % 4 = 0) : lenT (segT src dst s0 s1 s2 s3 s4 s5 o body) = 20 + o.size := by
  have := lenT_int (segT src dst s0 s1 s2 s3 s4 s5 o body)
  rw [seg_bt12 src dst s0 s1 s2 s3 s4 s5 o body ho] at this
  omega
theorem seg_whole : whole src dst (segT src dst s0 s1 s2 s3 s4 s5 o body) = 0 := by
  unfold whole
  rw [segT_size]
  have := sum_fill ((pseudoT src dst 6 ((20 + o.size + body.size : Nat) : Int)).data.toList ++ (frontT s0 s1 s2 s3 s4 s5 o.size).data.toList) (backT o body).data.toList (by rw [List.length_append, list_len, list_len, pseudoT_size, frontT_size])
  simp only [segT, app_list, List.append_assoc] at this ⊢
  exact this
theorem getT_segT (hc : chkT s0 s1 s4 s5 o = true) (h2 : 0 ≤ s2 ∧ s2 ≤ 4294967295) (h3 : 0 ≤ s3 ∧ s3 ≤ 4294967295) (hz : 20 + o.size + body.size ≤ 2000) : getT src dst (segT src dst s0 s1 s2 s3 s4 s5 o body) = (s0, s1, s2, s3, s4, s5, o, body, 0) := by
  obtain ⟨c1, c2, c3, c4, c5, c6, c7, c8, c9, c10⟩ := chkT_all hc
  have hL := segT_list src dst s0 s1 s2 s3 s4 s5 o body
  have hl := seg_len src dst s0 s1 s2 s3 s4 s5 o body c9 c10
  have hs := segT_size src dst s0 s1 s2 s3 s4 s5 o body
  have h12 := seg_bt12 src dst s0 s1 s2 s3 s4 s5 o body c9
  have h13 := seg_bt13 src dst s0 s1 s2 s3 s4 s5 o body c7 c8
  have hw : wrongT src dst (segT src dst s0 s1 s2 s3 s4 s5 o body) = 0 := by
    unfold wrongT
    rw [hs, hl, h12, h13, seg_whole, if_neg (by omega), if_neg (by omega), if_neg (by omega), if_neg (by omega), if_neg (by omega), if_neg (by simp)]
  unfold getT okT
  rw [if_pos hw, hl, h13]
  have o1 : (segT src dst s0 s1 s2 s3 s4 s5 o body).extract 20 (20 + o.size) = o := ba_ext (cut_at (a := (bigS s0 2).data.toList ++ ((bigS s1 2).data.toList ++ ((bigS s2 4).data.toList ++ ((bigS s3 4).data.toList ++ ((bigS (((20 + o.size) / 4 * 16 : Nat) : Int) 1).data.toList ++ ((bigS s4 1).data.toList ++ ((bigS s5 2).data.toList ++ ((bigS (sumT src dst s0 s1 s2 s3 s4 s5 o body) 2).data.toList ++ z2.data.toList)))))))) (c := body.data.toList) (by rw [hL]; simp only [List.append_assoc]) (by simp only [List.length_append, bigS_length, z2_len]) (by simp))
  have o2 : (segT src dst s0 s1 s2 s3 s4 s5 o body).extract (20 + o.size) (segT src dst s0 s1 s2 s3 s4 s5 o body).size = body := ba_ext (cut_end (a := (bigS s0 2).data.toList ++ ((bigS s1 2).data.toList ++ ((bigS s2 4).data.toList ++ ((bigS s3 4).data.toList ++ ((bigS (((20 + o.size) / 4 * 16 : Nat) : Int) 1).data.toList ++ ((bigS s4 1).data.toList ++ ((bigS s5 2).data.toList ++ ((bigS (sumT src dst s0 s1 s2 s3 s4 s5 o body) 2).data.toList ++ (z2.data.toList ++ o.data.toList))))))))) (by rw [hL]; simp only [List.append_assoc]) (by simp only [List.length_append, bigS_length, z2_len]; simp; omega))
  have n1 : numOf ((segT src dst s0 s1 s2 s3 s4 s5 o body).extract 0 2) = s0 := by
    rw [numOf_list (v := s0) (n := 2) (cut_at (a := []) (i := 0) (j := 2) (by rw [hL]; rfl) rfl (by rw [bigS_length])) (by omega), show (256 : Int) ^ 2 = 65536 from rfl]
    omega
  have n2 : numOf ((segT src dst s0 s1 s2 s3 s4 s5 o body).extract 2 4) = s1 := by
    rw [numOf_list (v := s1) (n := 2) (cut_at (a := (bigS s0 2).data.toList) hL (by rw [bigS_length]) (by rw [bigS_length])) (by omega), show (256 : Int) ^ 2 = 65536 from rfl]
    omega
  have n3 : numOf ((segT src dst s0 s1 s2 s3 s4 s5 o body).extract 4 8) = s2 := by
    rw [numOf_list (v := s2) (n := 4) (cut_at (a := (bigS s0 2).data.toList ++ (bigS s1 2).data.toList) (by rw [hL]; simp only [List.append_assoc]; rfl) (by simp only [List.length_append, bigS_length]) (by rw [bigS_length])) (by omega), show (256 : Int) ^ 4 = 4294967296 from rfl]
    omega
  have n4 : numOf ((segT src dst s0 s1 s2 s3 s4 s5 o body).extract 8 12) = s3 := by
    rw [numOf_list (v := s3) (n := 4) (cut_at (a := (bigS s0 2).data.toList ++ ((bigS s1 2).data.toList ++ (bigS s2 4).data.toList)) (by rw [hL]; simp only [List.append_assoc]; rfl) (by simp only [List.length_append, bigS_length]) (by rw [bigS_length])) (by omega), show (256 : Int) ^ 4 = 4294967296 from rfl]
    omega
  have n5 : numOf ((segT src dst s0 s1 s2 s3 s4 s5 o body).extract 14 16) = s5 := by
    rw [numOf_list (v := s5) (n := 2) (cut_at (a := (bigS s0 2).data.toList ++ ((bigS s1 2).data.toList ++ ((bigS s2 4).data.toList ++ ((bigS s3 4).data.toList ++ ((bigS (((20 + o.size) / 4 * 16 : Nat) : Int) 1).data.toList ++ (bigS s4 1).data.toList))))) (by rw [hL]; simp only [List.append_assoc]; rfl) (by simp only [List.length_append, bigS_length]) (by rw [bigS_length])) (by omega), show (256 : Int) ^ 2 = 65536 from rfl]
    omega
  rw [o1, o2, n1, n2, n3, n4, n5, Int.emod_eq_of_lt h2.1 (by omega), Int.emod_eq_of_lt h3.1 (by omega)]
end
def twoIn (m x y : Int) : Bool := decide (0 ≤ x ∧ x ≤ m ∧ 0 ≤ y ∧ y ≤ m)
def pseudoU (src dst n : Int) : ByteArray := bigS src 4 ++ bigS dst 4 ++ z1 ++ bigS 17 1 ++ bigS n 2
theorem pseudoU_size (src dst n : Int) : (pseudoU src dst n).size = 12 := by
  simp only [pseudoU, ByteArray.size_append, bigS_size, z1_size]
def frontU (s0 s1 : Int) (n : Nat) : ByteArray := bigS s0 2 ++ bigS s1 2 ++ bigS ((n : Nat) : Int) 2
theorem frontU_size (s0 s1 : Int) (n : Nat) : (frontU s0 s1 n).size = 6 := by simp only [frontU, ByteArray.size_append, bigS_size]
def sumU (src dst s0 s1 : Int) (body : ByteArray) : Int := sumOf ((pseudoU src dst ((8 + body.size : Nat) : Int)).data.toList ++ ((frontU s0 s1 (8 + body.size)).data.toList ++ (z2.data.toList ++ body.data.toList)))
def fixU (v : Int) : Int := if v = 0 then 65535 else v
def udpS (src dst s0 s1 : Int) (body : ByteArray) : ByteArray := frontU s0 s1 (8 + body.size) ++ bigS (fixU (sumU src dst s0 s1 body)) 2 ++ body
theorem udpS_size (src dst s0 s1 : Int) (body : ByteArray) : (udpS src dst s0 s1 body).size = 8 + body.size := by
  simp only [udpS, ByteArray.size_append, frontU_size, bigS_size]
def putU (src dst s0 s1 : Int) (body : ByteArray) : ByteArray × Int :=
  if twoIn 65535 s0 s1 = true then (if 8 + body.size > 2000 then ((⟨#[]⟩ : ByteArray), 5) else (udpS src dst s0 s1 body, 0)) else ((⟨#[]⟩ : ByteArray), 1)
theorem word8 (n : Nat) (h : n ≤ 140737488351232) : wrap64 (8 + (n : Int)) = ((8 + n : Nat) : Int) := by unfold wrap64; omega
theorem cat_four (a b c d : ByteArray) : cat [a, b, c, d] = a.data.toList ++ (b.data.toList ++ (c.data.toList ++ d.data.toList)) := by simp only [cat, List.append_nil]
theorem cat_one (a : ByteArray) : cat [a] = a.data.toList := by simp only [cat, List.append_nil]
def frontC (s2 s3 : Int) : ByteArray := bigS s2 1 ++ bigS s3 1
def backC (s4 : Int) (body : ByteArray) : ByteArray := bigS s4 4 ++ body
theorem frontC_size (s2 s3 : Int) : (frontC s2 s3).size = 2 := by simp only [frontC, ByteArray.size_append, bigS_size]
theorem backC_size (s4 : Int) (body : ByteArray) : (backC s4 body).size = 4 + body.size := by simp only [backC, ByteArray.size_append, bigS_size]
def sumC (s2 s3 s4 : Int) (body : ByteArray) : Int := sumOf ((frontC s2 s3).data.toList ++ (z2.data.toList ++ (backC s4 body).data.toList))
def icmpS (s2 s3 s4 : Int) (body : ByteArray) : ByteArray := frontC s2 s3 ++ bigS (sumC s2 s3 s4 body) 2 ++ backC s4 body
theorem icmpS_size (s2 s3 s4 : Int) (body : ByteArray) : (icmpS s2 s3 s4 body).size = 8 + body.size := by
  simp only [icmpS, ByteArray.size_append, frontC_size, bigS_size, backC_size]
  omega
def putC (s2 s3 s4 : Int) (body : ByteArray) : ByteArray × Int :=
  if twoIn 255 s2 s3 = true then (if 8 + body.size > 2000 then ((⟨#[]⟩ : ByteArray), 5) else (icmpS s2 s3 s4 body, 0)) else ((⟨#[]⟩ : ByteArray), 1)
abbrev GotD := Int × Int × Int × Int × Int × ByteArray × Int
def errD (c : Int) : GotD := (0, 0, 0, 0, 0, (⟨#[]⟩ : ByteArray), c)
def okU (s : ByteArray) : GotD := (numOf (s.extract 0 2), numOf (s.extract 2 4), 0, 0, 0, s.extract 8 s.size, 0)
def wrongC (s : ByteArray) : Int := if s.size < 8 then 2 else if s.size > 2000 then 5 else if sumOf s.data.toList ≠ 0 then 4 else 0
def okC (s : ByteArray) : GotD := (0, 0, bt s 0, bt s 1, numOf (s.extract 4 8) % 4294967296, s.extract 8 s.size, 0)
def getC (s : ByteArray) : GotD := if wrongC s = 0 then okC s else errD (wrongC s)
theorem wrongC_size {s : ByteArray} (h : wrongC s = 0) : 8 ≤ s.size := by
  unfold wrongC at h
  by_cases h1 : s.size < 8
  · rw [if_pos h1] at h; omega
  omega
end Go.Proofs.Ytbidgeaigiijpaa.Nt
