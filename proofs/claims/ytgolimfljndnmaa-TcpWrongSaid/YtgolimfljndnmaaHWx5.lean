/- What is proved: each Go function of this text answers as the plain Lean function beside it (a law: its given row, out of the plain statement). Conditions: those that stand in each theorem. Written by my drive.py, which calls the printer of the kit for what that covers. -/
import Derived.Test.YtgolimfljndnmaaHWx0
namespace Go.Proofs.Ytgolimfljndnmaa.HW
open Go.RowKit Go.Proofs.YtgolimfljndnmaaW.PrintWords Go.Proofs.YtgolimfljndnmaaW.PrintLast Go.Proofs.YtgolimfljndnmaaW.PrintMore
attribute [local go_sem] max2_int min2_int max_two min_two max_three min_three max_four min_four   -- for this text's walks alone
set_option linter.unusedVariables false
set_option linter.unusedSimpArgs false

/-! ### sum_Num: function 48 -/
def numL (l : List UInt8) : Int := l.foldl (fun v c => v * 256 + (c.toNat : Int)) 0
def numOf (s : ByteArray) : Int := numL (s.data.toList.drop (s.size - 7))
def sum_Num.f (a0 : ByteArray) : Option Int := if a0.size ≤ 4611686018427387904 then some (numOf a0) else none
theorem numL_bound (l : List UInt8) : 0 ≤ numL l ∧ numL l < 256 ^ l.length := by
 unfold numL
 suffices H : ∀ (l : List UInt8) (a : Int) (n : Nat), 0 ≤ a → a < 256 ^ n → 0 ≤ l.foldl (fun v c => v * 256 + (c.toNat : Int)) a ∧ l.foldl (fun v c => v * 256 + (c.toNat : Int)) a < 256 ^ (n + l.length) by
  have := H l 0 0 (by decide) (by decide)
  simpa using this
 intro l
 induction l with
 | nil => intro a n h0 h1; exact ⟨h0, by simpa using h1⟩
 | cons c t ih =>
  intro a n h0 h1
  have hc := c.toNat_lt
  have := ih (a * 256 + (c.toNat : Int)) (n + 1) (by omega) (by rw [Int.pow_succ]; omega)
  rw [List.foldl_cons, List.length_cons, show n + (t.length + 1) = n + 1 + t.length by omega]
  exact this
theorem numL_snoc (l : List UInt8) (c : UInt8) : numL (l ++ [c]) = numL l * 256 + (c.toNat : Int) := by simp [numL]
theorem wraps_i64 (n : Int) (h₀ : 0 ≤ n) (h₁ : n < 2 ^ 63) : IntKind.i64.wrap n = n := by rw [IntKind.wrap_i64]; omega
theorem num_or (v c : Int) (h0 : 0 ≤ v) (h1 : v < 281474976710656) (h2 : 0 ≤ c) (h3 : c < 256) : bits .or .i64 (v * 256) c = v * 256 + c :=
 bits_join .i64 63 (by decide) wraps_i64 8 (v * 256) c (by omega) (by omega) (by omega) h2 (by omega) (by omega)
theorem below_bytes (w : World) (e : TypeId) (s : ByteArray) : Below w.heap.size w (Lib.bytesWorld w e s) := by
 refine ⟨rfl, rfl, rfl, ?_, fun i hi => Lib.bytesWorld_at_old w e s i hi⟩
 rw [Lib.bytesWorld_size]; omega
def NumRel (s : ByteArray) (v i : Value) : Prop := ∃ k : Nat, k ≤ s.size ∧ i = .int .i64 k ∧ v = .int .i64 (numL (s.data.toList.take k))
theorem take_snoc8 (l : List UInt8) (k : Nat) (h : k < l.length) : l.take (k + 1) = l.take k ++ [l.getD k 0] := by
 rw [List.take_succ_eq_append_getElem h, List.getD_eq_getElem?_getD, List.getElem?_eq_getElem h]; rfl
theorem num_round (l : List UInt8) (k : Nat) (c : UInt8) (h : l[k]? = some c) (h7 : l.length ≤ 7) :
  bits .or .i64 (wrap64 (numL (l.take k) * 256)) (wrap64 (c.toNat : Int)) = numL (l.take (k + 1)) := by
 obtain ⟨hk, hc⟩ := List.getElem?_eq_some_iff.mp h
 have hb := numL_bound (l.take k)
 have hl : (l.take k).length = k := by simp; omega
 rw [hl] at hb
 have hp : (256 : Int) ^ k ≤ 256 ^ 6 := by
  have : (256 : Nat) ^ k ≤ 256 ^ 6 := Nat.pow_le_pow_right (by decide) (by omega)
  exact Int.ofNat_le.mpr this
 have hc' := c.toNat_lt
 have w1 : wrap64 (numL (l.take k) * 256) = numL (l.take k) * 256 := by unfold wrap64; omega
 have w2 : wrap64 (c.toNat : Int) = c.toNat := by unfold wrap64; omega
 rw [w1, w2, num_or _ _ hb.1 (by omega) (by omega) (by omega), List.take_succ_eq_append_getElem hk, numL_snoc, hc]
theorem ret_i64 {a b : Int} (h : a = b) : Ending.returned (.int .i64 a) = .returned (.int .i64 b) := by rw [h]
set_option maxHeartbeats 400000 in
theorem num (a0 : ByteArray) (w : World) (s : ByteArray) (hs : a0.size ≤ 4611686018427387904) (hS : s = a0.extract (a0.size - 7) a0.size) :
  Calls Try.prog 48 #[.string a0] w fun e w' => e = .returned (.int .i64 (numL s.data.toList)) ∧ Below w.heap.size w w' := by
 have hz : s.size ≤ 7 := by subst hS; simp; omega
 have HS : Aside0 (s = a0.extract (a0.size - 7) a0.size) := Aside0.mk hS
 clear hS
 have hconv := fun (s : ByteArray) (w : World) => Lib.run_convert_string_bytes (P := Try.prog) w 9 34 5 s Try.underlying9 Try.underlying34 Try.underlying5
 by_cases h7 : a0.size ≤ 7
 ·
  obtain rfl : s = a0 := by
   rw [HS.out, show a0.size - 7 = 0 by omega]; simp
  clear HS
  go_enter Try.func48, Try.ntmps48
  go_wp2
  have hb := below_bytes w 5 s
  have hcell := Lib.bytesWorld_cell w 5 s
  generalize Lib.bytesWorld w 5 s = W at *
  have HB := Aside0.mk hb
  have HC := Aside0.mk hcell
  clear hb hcell hconv
  go_loop [3, 14] (fun v i => NumRel s v i) (fun _ i => s.size - (intOf i).toNat)
  case atStart => exact ⟨0, Nat.zero_le _, rfl, rfl⟩
  case round =>
   obtain ⟨k, hk, rfl, rfl⟩ := hrel
   by_cases hlt : k < s.size
   ·
    have hc := HC.out k hlt
    go_wp2
    go_round
    case rel => exact ⟨k + 1, by omega, by go_num, congrArg (Value.int .i64) (num_round s.data.toList k _ (by simp) (by simpa using hz))⟩
    case measure => simp [intOf]; omega
   ·
    go_wp2
    go_ret
    have e : k = s.size := by omega
    exact ⟨ret_i64 (by rw [List.take_of_length_le (by simp; omega)]), HB.out⟩
 ·
  go_enter Try.func48, Try.ntmps48
  go_wp2
  have e0 : a0.extract (a0.size - 7) a0.size = s := HS.out.symm
  have e1 : a0.size - (a0.size - 7) = s.size := by rw [HS.out]; simp
  rw [e0, e1]
  clear e0 e1
  have hb := below_bytes w 5 s
  have hcell := Lib.bytesWorld_cell w 5 s
  generalize Lib.bytesWorld w 5 s = W at *
  have HB := Aside0.mk hb
  have HC := Aside0.mk hcell
  clear hb hcell hconv
  go_loop [3, 14] (fun v i => NumRel s v i) (fun _ i => s.size - (intOf i).toNat)
  case atStart => exact ⟨0, Nat.zero_le _, rfl, rfl⟩
  case round =>
   obtain ⟨k, hk, rfl, rfl⟩ := hrel
   by_cases hlt : k < s.size
   ·
    have hc := HC.out k hlt
    go_wp2
    go_round
    case rel => exact ⟨k + 1, by omega, by go_num, congrArg (Value.int .i64) (num_round s.data.toList k _ (by simp) (by simpa using hz))⟩
    case measure => simp [intOf]; omega
   ·
    go_wp2
    go_ret
    have e : k = s.size := by omega
    exact ⟨ret_i64 (by rw [List.take_of_length_le (by simp; omega)]), HB.out⟩
theorem sum_Num.calls (a0 : ByteArray) (r : Int) (w : World) (h : sum_Num.f a0 = some r) :
  Calls Try.prog 48 #[.string a0] w fun e w' => e = .returned (.int .i64 r) ∧ Below w.heap.size w w' := by
 unfold sum_Num.f at h
 split at h
 ·
  rename_i hs
  obtain rfl := Option.some.inj h
  have e : (a0.extract (a0.size - 7) a0.size).data.toList = a0.data.toList.drop (a0.size - 7) := by
   rw [Lib.extract_data, List.take_of_length_le (by simp)]
  have := num a0 w _ hs rfl
  rw [e] at this
  exact this
 ·
  cases h

end Go.Proofs.Ytgolimfljndnmaa.HW
