/- What is proved: each Go function of this text answers as the plain Lean function beside it (a law: its given row, out of the plain statement). Conditions: those that stand in each theorem. Written by my drive.py, which calls the printer of the kit for what that covers. -/
import Derived.Test.YtgolimfljndnmaaHVx0
namespace Go.Proofs.Ytgolimfljndnmaa.HV
open Go.RowKit Go.Proofs.YtgolimfljndnmaaW.PrintWords Go.Proofs.YtgolimfljndnmaaW.PrintLast Go.Proofs.YtgolimfljndnmaaW.PrintMore
attribute [local go_sem] max2_int min2_int max_two min_two max_three min_three max_four min_four   -- for this text's walks alone
set_option linter.unusedVariables false
set_option linter.unusedSimpArgs false

-- NOT PRINTED: function 47 (ipv4_checks)

/-! ### sum_Num: function 48 -/
def numL (l : List UInt8) : Int := l.foldl (fun v c => v * 256 + (c.toNat : Int)) 0
def numOf (s : ByteArray) : Int := numL (s.data.toList.drop (s.size - 7))
def sum_Num.f (a0 : ByteArray) : Option Int := if a0.size ≤ 4611686018427387904 then some (numOf a0) else none
theorem numL_bound (l : List UInt8) : 0 ≤ numL l ∧ numL l < 256 ^ l.length := by
 unfold numL
 suffices H : ∀ (l : List UInt8) (a : Int) (n : Nat), 0 ≤ a → a < 256 ^ n → 0 ≤ l.foldl (fun v c => v * 256 + (c.toNat : Int)) a ∧ l.foldl (fun v c => v * 256 + (c.toNat : Int)) a < 256 ^ (n + l.length) by
  have := H l 0 0 (by decide) (by decide)
  simpa using this
 intro l
 induction l with
 | nil => intro a n h0 h1; exact ⟨h0, by simpa using h1⟩
 | cons c t ih =>
  intro a n h0 h1
  have hc := c.toNat_lt
  have := ih (a * 256 + (c.toNat : Int)) (n + 1) (by omega) (by rw [Int.pow_succ]; omega)
  rw [List.foldl_cons, List.length_cons, show n + (t.length + 1) = n + 1 + t.length by omega]
  exact this
theorem numL_snoc (l : List UInt8) (c : UInt8) : numL (l ++ [c]) = numL l * 256 + (c.toNat : Int) := by simp [numL]
theorem wraps_i64 (n : Int) (h₀ : 0 ≤ n) (h₁ : n < 2 ^ 63) : IntKind.i64.wrap n = n := by rw [IntKind.wrap_i64]; omega
theorem num_or (v c : Int) (h0 : 0 ≤ v) (h1 : v < 281474976710656) (h2 : 0 ≤ c) (h3 : c < 256) : bits .or .i64 (v * 256) c = v * 256 + c :=
 bits_join .i64 63 (by decide) wraps_i64 8 (v * 256) c (by omega) (by omega) (by omega) h2 (by omega) (by omega)
theorem below_bytes (w : World) (e : TypeId) (s : ByteArray) : Below w.heap.size w (Lib.bytesWorld w e s) := by
 refine ⟨rfl, rfl, rfl, ?_, fun i hi => Lib.bytesWorld_at_old w e s i hi⟩
 rw [Lib.bytesWorld_size]; omega
def NumRel (s : ByteArray) (v i : Value) : Prop := ∃ k : Nat, k ≤ s.size ∧ i = .int .i64 k ∧ v = .int .i64 (numL (s.data.toList.take k))
theorem take_snoc8 (l : List UInt8) (k : Nat) (h : k < l.length) : l.take (k + 1) = l.take k ++ [l.getD k 0] := by
 rw [List.take_succ_eq_append_getElem h, List.getD_eq_getElem?_getD, List.getElem?_eq_getElem h]; rfl
theorem num_round (l : List UInt8) (k : Nat) (c : UInt8) (h : l[k]? = some c) (h7 : l.length ≤ 7) :
  bits .or .i64 (wrap64 (numL (l.take k) * 256)) (wrap64 (c.toNat : Int)) = numL (l.take (k + 1)) := by
 obtain ⟨hk, hc⟩ := List.getElem?_eq_some_iff.mp h
 have hb := numL_bound (l.take k)
 have hl : (l.take k).length = k := by simp; omega
 rw [hl] at hb
 have hp : (256 : Int) ^ k ≤ 256 ^ 6 := by
  have : (256 : Nat) ^ k ≤ 256 ^ 6 := Nat.pow_le_pow_right (by decide) (by omega)
  exact Int.ofNat_le.mpr this
 have hc' := c.toNat_lt
 have w1 : wrap64 (numL (l.take k) * 256) = numL (l.take k) * 256 := by unfold wrap64; omega
 have w2 : wrap64 (c.toNat : Int) = c.toNat := by unfold wrap64; omega
 rw [w1, w2, num_or _ _ hb.1 (by omega) (by omega) (by omega), List.take_succ_eq_append_getElem hk, numL_snoc, hc]
theorem ret_i64 {a b : Int} (h : a = b) : Ending.returned (.int .i64 a) = .returned (.int .i64 b) := by rw [h]
set_option maxHeartbeats 400000 in
theorem num (a0 : ByteArray) (w : World) (s : ByteArray) (hs : a0.size ≤ 4611686018427387904) (hS : s = a0.extract (a0.size - 7) a0.size) :
  Calls Try.prog 48 #[.string a0] w fun e w' => e = .returned (.int .i64 (numL s.data.toList)) ∧ Below w.heap.size w w' := by
 have hz : s.size ≤ 7 := by subst hS; simp; omega
 have HS : Aside0 (s = a0.extract (a0.size - 7) a0.size) := Aside0.mk hS
 clear hS
 have hconv := fun (s : ByteArray) (w : World) => Lib.run_convert_string_bytes (P := Try.prog) w 9 34 5 s Try.underlying9 Try.underlying34 Try.underlying5
 by_cases h7 : a0.size ≤ 7
 ·
  obtain rfl : s = a0 := by
   rw [HS.out, show a0.size - 7 = 0 by omega]; simp
  clear HS
  go_enter Try.func48, Try.ntmps48
  go_wp2
  have hb := below_bytes w 5 s
  have hcell := Lib.bytesWorld_cell w 5 s
  generalize Lib.bytesWorld w 5 s = W at *
  have HB := Aside0.mk hb
  have HC := Aside0.mk hcell
  clear hb hcell hconv
  go_loop [3, 14] (fun v i => NumRel s v i) (fun _ i => s.size - (intOf i).toNat)
  case atStart => exact ⟨0, Nat.zero_le _, rfl, rfl⟩
  case round =>
   obtain ⟨k, hk, rfl, rfl⟩ := hrel
   by_cases hlt : k < s.size
   ·
    have hc := HC.out k hlt
    go_wp2
    go_round
    case rel => exact ⟨k + 1, by omega, by go_num, congrArg (Value.int .i64) (num_round s.data.toList k _ (by simp) (by simpa using hz))⟩
    case measure => simp [intOf]; omega
   ·
    go_wp2
    go_ret
    have e : k = s.size := by omega
    exact ⟨ret_i64 (by rw [List.take_of_length_le (by simp; omega)]), HB.out⟩
 ·
  go_enter Try.func48, Try.ntmps48
  go_wp2
  have e0 : a0.extract (a0.size - 7) a0.size = s := HS.out.symm
  have e1 : a0.size - (a0.size - 7) = s.size := by rw [HS.out]; simp
  rw [e0, e1]
  clear e0 e1
  have hb := below_bytes w 5 s
  have hcell := Lib.bytesWorld_cell w 5 s
  generalize Lib.bytesWorld w 5 s = W at *
  have HB := Aside0.mk hb
  have HC := Aside0.mk hcell
  clear hb hcell hconv
  go_loop [3, 14] (fun v i => NumRel s v i) (fun _ i => s.size - (intOf i).toNat)
  case atStart => exact ⟨0, Nat.zero_le _, rfl, rfl⟩
  case round =>
   obtain ⟨k, hk, rfl, rfl⟩ := hrel
   by_cases hlt : k < s.size
   ·
    have hc := HC.out k hlt
    go_wp2
    go_round
    case rel => exact ⟨k + 1, by omega, by go_num, congrArg (Value.int .i64) (num_round s.data.toList k _ (by simp) (by simpa using hz))⟩
    case measure => simp [intOf]; omega
   ·
    go_wp2
    go_ret
    have e : k = s.size := by omega
    exact ⟨ret_i64 (by rw [List.take_of_length_le (by simp; omega)]), HB.out⟩
theorem sum_Num.calls (a0 : ByteArray) (r : Int) (w : World) (h : sum_Num.f a0 = some r) :
  Calls Try.prog 48 #[.string a0] w fun e w' => e = .returned (.int .i64 r) ∧ Below w.heap.size w w' := by
 unfold sum_Num.f at h
 split at h
 ·
  rename_i hs
  obtain rfl := Option.some.inj h
  have e : (a0.extract (a0.size - 7) a0.size).data.toList = a0.data.toList.drop (a0.size - 7) := by
   rw [Lib.extract_data, List.take_of_length_le (by simp)]
  have := num a0 w _ hs rfl
  rw [e] at this
  exact this
 ·
  cases h

/-! ### ipv4_size: function 49 -/
def ipv4_size.f (a0 : ByteArray) : Option (Int) := if 0 < (a0.size : Int) then (some (wrap64 (4 * (Go.bits .and .i64 (wrap64 (bt a0 0)) 15)))) else (none)
set_option maxHeartbeats 8000000 in
set_option maxRecDepth 100000 in
theorem ipv4_size.calls (a0 : ByteArray) (r : Int) (w : World) (h : ipv4_size.f a0 = some r) :
  Calls Try.prog 49 #[.string a0] w fun e w' => e = .returned (.int .i64 r) ∧ Drawn0 w w' := by
 have H : (if 0 < (a0.size : Int) then (some (wrap64 (4 * (Go.bits .and .i64 (wrap64 (bt a0 0)) 15)))) else (none)) = some r := h
 clear h
 by_cases c2 : 0 < (a0.size : Int)
 ·
  rw [if_pos c2] at H
  have c2b0 : decide (0 < (a0.size : Int)) = true := decide_eq_true c2
  have c2b1 : decide (0 < a0.size) = true := decide_eq_true (by omega)
  clear c2
  obtain rfl := Option.some.inj H
  have p3 : 0 ≤ (0 : Int) := (by omega)
  have q3 : 0 < a0.size := (by have : (0 : Int) < (a0.size : Int) := of_decide_eq_true (by first | (with_reducible assumption) | assumption); omega)
  have hx3 : ∀ h : 0 < a0.size, ((a0[0]'h).toNat : Int) = bt a0 0 := bt_at a0 0
  clear p3
  have qi3 : (0 < (a0.size : Int)) = True := eq_true (of_decide_eq_true (by first | (with_reducible assumption) | assumption))
  replace q3 := eq_true q3
  go_enter Try.func49, Try.ntmps49
  go_wp2
  go_ret
  exact ⟨by first | rfl | (simp; done) | (simp [*]; done), by repeat (first | exact Drawn0.refl _ | apply Drawn0.step)⟩
 ·
  rw [if_neg c2] at H
  exact absurd H (by simp)

/-! ### ipv4_all: function 50 -/
def ipv4_all.f (a0 : ByteArray) : Option (Int) := if 2 ≤ 4 then (if 4 ≤ (a0.size : Int) then ((sum_Num.f (a0.extract 2 4)).bind fun t131 => (some t131)) else (none)) else (none)
set_option maxHeartbeats 8000000 in
set_option maxRecDepth 100000 in
theorem ipv4_all.calls (a0 : ByteArray) (r : Int) (w : World) (h : ipv4_all.f a0 = some r) :
  Calls Try.prog 50 #[.string a0] w fun e w' => e = .returned (.int .i64 r) ∧ Below w.heap.size w w' := by
 have HB := Aside0.mk (Below.refl w.heap.size w)
 have H : (if 2 ≤ 4 then (if 4 ≤ (a0.size : Int) then ((sum_Num.f (a0.extract 2 4)).bind fun t131 => (some t131)) else (none)) else (none)) = some r := h
 clear h
 by_cases c2 : 2 ≤ 4
 ·
  rw [if_pos c2] at H
  have c2b0 := eq_true c2
  have c2b1 : decide (2 ≤ 4) = true := decide_eq_true c2
  clear c2
  by_cases c3 : 4 ≤ (a0.size : Int)
  ·
   rw [if_pos c3] at H
   have c3b0 := eq_true c3
   have c3b1 : decide (4 ≤ (a0.size : Int)) = true := decide_eq_true c3
   clear c3
   replace H := Option.bind_eq_some_iff.mp H
   obtain ⟨t131, A40, H⟩ := H
   replace H : (some t131) = some r := H
   have A4 := Aside0.mk A40
   clear A40
   obtain rfl := Option.some.inj H
   go_enter Try.func50, Try.ntmps50
   go_wp2_with (first | ((with_reducible refine gate_callee (f := 48) rfl ?_); refine goesL_ (some 5) rfl rfl Try.func48 (by kernel_rfl) rfl #[.string (a0.extract 2 4)] rfl (by (try simp only [List.map_toArray, List.map_cons, List.map_nil]); first | done | rfl | (simp only [List.length_drop, List.length_take]; rfl)) ?_; (with_reducible refine (sum_Num.calls (a0.extract 2 4) t131 _ A4.out).mono ?_); rintro e w5 ⟨rfl, hb⟩; refine ⟨_, rfl, ?_⟩; have n0_ := Aside0.mk (below_step (by repeat (first | (with_reducible first | exact HB.out | apply below_alloc | apply pw_below_drewN | apply below_drew1) | exact HB.out)) hb); clear HB; have HB := n0_; clear n0_; (try clear hb); (try clear hb2); (try clear hk); (try clear hi)))
   go_ret
   exact ⟨by first | rfl | (simp [errW_none, errW_some] <;> rfl) | (simp [*, errW_none, errW_some] <;> rfl), by repeat (first | (with_reducible first | exact HB.out | apply below_alloc | apply pw_below_drewN | apply below_drew1) | exact HB.out)⟩
  ·
   rw [if_neg c3] at H
   exact absurd H (by simp)
 ·
  rw [if_neg c2] at H
  exact absurd H (by simp)

/-! ### ipv4_checks_1: function 67 -/
def ipv4_checks_1.f (a0 : ByteArray) : Option (Bool) := some (decide ((a0.size : Int) < 20))
set_option maxHeartbeats 8000000 in
set_option maxRecDepth 100000 in
theorem ipv4_checks_1.calls (a0 : ByteArray) (r : Bool) (w : World) (h : ipv4_checks_1.f a0 = some r) :
  Calls Try.prog 67 #[.string a0] w fun e w' => e = .returned (.bool r) ∧ Drawn0 w w' := by
 have H : (some (decide ((a0.size : Int) < 20))) = some r := h
 clear h
 obtain rfl := Option.some.inj H
 go_enter Try.func67, Try.ntmps67
 go_wp2
 go_ret
 exact ⟨by first | rfl | (simp; done) | (simp [*]; done), by repeat (first | exact Drawn0.refl _ | apply Drawn0.step)⟩

/-! ### ipv4_checks_2: function 68 -/
def ipv4_checks_2.f (a0 : ByteArray) : Option (Bool) := if 0 < (a0.size : Int) then (if ((bt a0 0) / 16) = 4 then ((ipv4_size.f a0).bind fun t132 => (some (decide (t132 < 20)))) else (some true)) else (none)
set_option maxHeartbeats 8000000 in
set_option maxRecDepth 100000 in
theorem ipv4_checks_2.calls (a0 : ByteArray) (r : Bool) (w : World) (h : ipv4_checks_2.f a0 = some r) :
  Calls Try.prog 68 #[.string a0] w fun e w' => e = .returned (.bool r) ∧ Drawn0 w w' := by
 have H : (if 0 < (a0.size : Int) then (if ((bt a0 0) / 16) = 4 then ((ipv4_size.f a0).bind fun t132 => (some (decide (t132 < 20)))) else (some true)) else (none)) = some r := h
 clear h
 by_cases c2 : 0 < (a0.size : Int)
 ·
  rw [if_pos c2] at H
  have c2b0 : decide (0 < (a0.size : Int)) = true := decide_eq_true c2
  have c2b1 : decide (0 < a0.size) = true := decide_eq_true (by omega)
  clear c2
  by_cases c4 : ((bt a0 0) / 16) = 4
  ·
   rw [if_pos c4] at H
   have c4b0 : (((bt a0 0) / 16) == 4) = true := beq_iff_eq.mpr c4
   have c4b1 : (((bt a0 0) / 16) != 4) = false := bne_eq_false_iff_eq.mpr c4
   clear c4
   replace H := Option.bind_eq_some_iff.mp H
   obtain ⟨t132, A50, H⟩ := H
   replace H : (some (decide (t132 < 20))) = some r := H
   have A5 := Aside0.mk A50
   clear A50
   obtain rfl := Option.some.inj H
   have p3 : 0 ≤ (0 : Int) := (by omega)
   have q3 : 0 < a0.size := (by have : (0 : Int) < (a0.size : Int) := of_decide_eq_true (by first | (with_reducible assumption) | assumption); omega)
   have hx3 : ∀ h : 0 < a0.size, ((a0[0]'h).toNat : Int) = bt a0 0 := bt_at a0 0
   clear p3
   have qi3 : (0 < (a0.size : Int)) = True := eq_true (of_decide_eq_true (by first | (with_reducible assumption) | assumption))
   replace q3 := eq_true q3
   go_enter Try.func68, Try.ntmps68
   go_wp2_with (first | (go_at_call 49; (with_reducible refine (ipv4_size.calls a0 t132 _ A5.out).mono ?_); rintro e w' ⟨rfl, ⟨nd, rfl⟩⟩))
   go_ret
   exact ⟨by first | rfl | (simp; done) | (simp [*]; done), by repeat (first | exact Drawn0.refl _ | apply Drawn0.step)⟩
  ·
   rw [if_neg c4] at H
   have c4b0 : (((bt a0 0) / 16) == 4) = false := beq_eq_false_iff_ne.mpr c4
   have c4b1 : (((bt a0 0) / 16) != 4) = true := bne_iff_ne.mpr c4
   obtain rfl := Option.some.inj H
   have p3 : 0 ≤ (0 : Int) := (by omega)
   have q3 : 0 < a0.size := (by have : (0 : Int) < (a0.size : Int) := of_decide_eq_true (by first | (with_reducible assumption) | assumption); omega)
   have hx3 : ∀ h : 0 < a0.size, ((a0[0]'h).toNat : Int) = bt a0 0 := bt_at a0 0
   clear p3
   have qi3 : (0 < (a0.size : Int)) = True := eq_true (of_decide_eq_true (by first | (with_reducible assumption) | assumption))
   replace q3 := eq_true q3
   go_enter Try.func68, Try.ntmps68
   go_wp2
   go_ret
   exact ⟨by first | rfl | (simp; done) | (simp [*]; done), by repeat (first | exact Drawn0.refl _ | apply Drawn0.step)⟩
 ·
  rw [if_neg c2] at H
  exact absurd H (by simp)

/-! ### ipv4_checks_3: function 69 -/
def ipv4_checks_3.f (a0 : ByteArray) : Option (Bool) := (ipv4_size.f a0).bind fun t133 => (some (decide ((a0.size : Int) < t133)))
set_option maxHeartbeats 8000000 in
set_option maxRecDepth 100000 in
theorem ipv4_checks_3.calls (a0 : ByteArray) (r : Bool) (w : World) (h : ipv4_checks_3.f a0 = some r) :
  Calls Try.prog 69 #[.string a0] w fun e w' => e = .returned (.bool r) ∧ Drawn0 w w' := by
 have H : ((ipv4_size.f a0).bind fun t133 => (some (decide ((a0.size : Int) < t133)))) = some r := h
 clear h
 replace H := Option.bind_eq_some_iff.mp H
 obtain ⟨t133, A20, H⟩ := H
 replace H : (some (decide ((a0.size : Int) < t133))) = some r := H
 have A2 := Aside0.mk A20
 clear A20
 obtain rfl := Option.some.inj H
 go_enter Try.func69, Try.ntmps69
 go_wp2_with (first | ((with_reducible refine gate_callee (f := 49) rfl ?_); refine goesL_ (some 6) rfl rfl Try.func49 (by kernel_rfl) rfl #[.string a0] rfl (by (try simp only [List.map_toArray, List.map_cons, List.map_nil]); first | done | rfl | (simp only [List.length_drop, List.length_take]; rfl)) ?_; (with_reducible refine (ipv4_size.calls a0 t133 _ A2.out).mono ?_); rintro e w' ⟨rfl, ⟨nd, rfl⟩⟩; refine ⟨_, rfl, ?_⟩))
 go_ret
 exact ⟨by first | rfl | (simp; done) | (simp [*]; done), by repeat (first | exact Drawn0.refl _ | apply Drawn0.step)⟩

/-! ### ipv4_checks_4: function 70 -/
def ipv4_checks_4.f (a0 : ByteArray) : Option (Bool) := (ipv4_all.f a0).bind fun t134 => ((ipv4_size.f a0).bind fun t135 => (some (decide (t134 < t135))))
set_option maxHeartbeats 8000000 in
set_option maxRecDepth 100000 in
theorem ipv4_checks_4.calls (a0 : ByteArray) (r : Bool) (w : World) (h : ipv4_checks_4.f a0 = some r) :
  Calls Try.prog 70 #[.string a0] w fun e w' => e = .returned (.bool r) ∧ Below w.heap.size w w' := by
 have HB := Aside0.mk (Below.refl w.heap.size w)
 have H : ((ipv4_all.f a0).bind fun t134 => ((ipv4_size.f a0).bind fun t135 => (some (decide (t134 < t135))))) = some r := h
 clear h
 replace H := Option.bind_eq_some_iff.mp H
 obtain ⟨t134, A20, H⟩ := H
 replace H : ((ipv4_size.f a0).bind fun t135 => (some (decide (t134 < t135)))) = some r := H
 have A2 := Aside0.mk A20
 clear A20
 replace H := Option.bind_eq_some_iff.mp H
 obtain ⟨t135, A30, H⟩ := H
 replace H : (some (decide (t134 < t135))) = some r := H
 have A3 := Aside0.mk A30
 clear A30
 obtain rfl := Option.some.inj H
 go_enter Try.func70, Try.ntmps70
 go_wp2_with (first | ((with_reducible refine gate_callee (f := 50) rfl ?_); refine goesL_ (some 4) rfl rfl Try.func50 (by kernel_rfl) rfl #[.string a0] rfl (by (try simp only [List.map_toArray, List.map_cons, List.map_nil]); first | done | rfl | (simp only [List.length_drop, List.length_take]; rfl)) ?_; (with_reducible refine (ipv4_all.calls a0 t134 _ A2.out).mono ?_); rintro e w4 ⟨rfl, hb⟩; refine ⟨_, rfl, ?_⟩; have n0_ := Aside0.mk (below_step (by repeat (first | (with_reducible first | exact HB.out | apply below_alloc | apply pw_below_drewN | apply below_drew1) | exact HB.out)) hb); clear HB; have HB := n0_; clear n0_; (try clear hb); (try clear hb2); (try clear hk); (try clear hi)) | ((with_reducible refine gate_callee (f := 49) rfl ?_); refine goesL_ (some 6) rfl rfl Try.func49 (by kernel_rfl) rfl #[.string a0] rfl (by (try simp only [List.map_toArray, List.map_cons, List.map_nil]); first | done | rfl | (simp only [List.length_drop, List.length_take]; rfl)) ?_; (with_reducible refine (ipv4_size.calls a0 t135 _ A3.out).mono ?_); rintro e w' ⟨rfl, ⟨nd, rfl⟩⟩; refine ⟨_, rfl, ?_⟩))
 go_ret
 exact ⟨by first | rfl | (simp [errW_none, errW_some] <;> rfl) | (simp [*, errW_none, errW_some] <;> rfl), by repeat (first | (with_reducible first | exact HB.out | apply below_alloc | apply pw_below_drewN | apply below_drew1) | exact HB.out)⟩

/-! ### ipv4_checks_5: function 71 -/
def ipv4_checks_5.f (a0 : ByteArray) : Option (Bool) := (ipv4_all.f a0).bind fun t136 => (some (decide ((a0.size : Int) < t136)))
set_option maxHeartbeats 8000000 in
set_option maxRecDepth 100000 in
theorem ipv4_checks_5.calls (a0 : ByteArray) (r : Bool) (w : World) (h : ipv4_checks_5.f a0 = some r) :
  Calls Try.prog 71 #[.string a0] w fun e w' => e = .returned (.bool r) ∧ Below w.heap.size w w' := by
 have HB := Aside0.mk (Below.refl w.heap.size w)
 have H : ((ipv4_all.f a0).bind fun t136 => (some (decide ((a0.size : Int) < t136)))) = some r := h
 clear h
 replace H := Option.bind_eq_some_iff.mp H
 obtain ⟨t136, A20, H⟩ := H
 replace H : (some (decide ((a0.size : Int) < t136))) = some r := H
 have A2 := Aside0.mk A20
 clear A20
 obtain rfl := Option.some.inj H
 go_enter Try.func71, Try.ntmps71
 go_wp2_with (first | ((with_reducible refine gate_callee (f := 50) rfl ?_); refine goesL_ (some 6) rfl rfl Try.func50 (by kernel_rfl) rfl #[.string a0] rfl (by (try simp only [List.map_toArray, List.map_cons, List.map_nil]); first | done | rfl | (simp only [List.length_drop, List.length_take]; rfl)) ?_; (with_reducible refine (ipv4_all.calls a0 t136 _ A2.out).mono ?_); rintro e w3 ⟨rfl, hb⟩; refine ⟨_, rfl, ?_⟩; have n0_ := Aside0.mk (below_step (by repeat (first | (with_reducible first | exact HB.out | apply below_alloc | apply pw_below_drewN | apply below_drew1) | exact HB.out)) hb); clear HB; have HB := n0_; clear n0_; (try clear hb); (try clear hb2); (try clear hk); (try clear hi)))
 go_ret
 exact ⟨by first | rfl | (simp [errW_none, errW_some] <;> rfl) | (simp [*, errW_none, errW_some] <;> rfl), by repeat (first | (with_reducible first | exact HB.out | apply below_alloc | apply pw_below_drewN | apply below_drew1) | exact HB.out)⟩

/-! ### ipv4_checks_6: function 72 -/
def ipv4_checks_6.f (a0 : ByteArray) : Option (Bool) := if 6 < (a0.size : Int) then (some (((bt a0 6) / 128) == 1)) else (none)
set_option maxHeartbeats 8000000 in
set_option maxRecDepth 100000 in
theorem ipv4_checks_6.calls (a0 : ByteArray) (r : Bool) (w : World) (h : ipv4_checks_6.f a0 = some r) :
  Calls Try.prog 72 #[.string a0] w fun e w' => e = .returned (.bool r) ∧ Drawn0 w w' := by
 have H : (if 6 < (a0.size : Int) then (some (((bt a0 6) / 128) == 1)) else (none)) = some r := h
 clear h
 by_cases c2 : 6 < (a0.size : Int)
 ·
  rw [if_pos c2] at H
  have c2b0 : decide (6 < (a0.size : Int)) = true := decide_eq_true c2
  have c2b1 : decide (6 < a0.size) = true := decide_eq_true (by omega)
  clear c2
  obtain rfl := Option.some.inj H
  have p3 : 0 ≤ (6 : Int) := (by omega)
  have q3 : 6 < a0.size := (by have : (6 : Int) < (a0.size : Int) := of_decide_eq_true (by first | (with_reducible assumption) | assumption); omega)
  have hx3 : ∀ h : 6 < a0.size, ((a0[6]'h).toNat : Int) = bt a0 6 := bt_at a0 6
  clear p3
  have qi3 : (6 < (a0.size : Int)) = True := eq_true (of_decide_eq_true (by first | (with_reducible assumption) | assumption))
  replace q3 := eq_true q3
  go_enter Try.func72, Try.ntmps72
  go_wp2
  go_ret
  exact ⟨by first | rfl | (simp; done) | (simp [*]; done), by repeat (first | exact Drawn0.refl _ | apply Drawn0.step)⟩
 ·
  rw [if_neg c2] at H
  exact absurd H (by simp)

/-! ### ipv4_checks_7: function 73 -/
def ipv4_checks_7.f (a0 : ByteArray) : Option (Bool) := (ipv4_all.f a0).bind fun t137 => ((ipv4_size.f a0).bind fun t138 => (some (decide ((wrap64 (t137 - t138)) > 2000))))
set_option maxHeartbeats 8000000 in
set_option maxRecDepth 100000 in
theorem ipv4_checks_7.calls (a0 : ByteArray) (r : Bool) (w : World) (h : ipv4_checks_7.f a0 = some r) :
  Calls Try.prog 73 #[.string a0] w fun e w' => e = .returned (.bool r) ∧ Below w.heap.size w w' := by
 have HB := Aside0.mk (Below.refl w.heap.size w)
 have H : ((ipv4_all.f a0).bind fun t137 => ((ipv4_size.f a0).bind fun t138 => (some (decide ((wrap64 (t137 - t138)) > 2000))))) = some r := h
 clear h
 replace H := Option.bind_eq_some_iff.mp H
 obtain ⟨t137, A20, H⟩ := H
 replace H : ((ipv4_size.f a0).bind fun t138 => (some (decide ((wrap64 (t137 - t138)) > 2000)))) = some r := H
 have A2 := Aside0.mk A20
 clear A20
 replace H := Option.bind_eq_some_iff.mp H
 obtain ⟨t138, A30, H⟩ := H
 replace H : (some (decide ((wrap64 (t137 - t138)) > 2000))) = some r := H
 have A3 := Aside0.mk A30
 clear A30
 obtain rfl := Option.some.inj H
 go_enter Try.func73, Try.ntmps73
 go_wp2_with (first | ((with_reducible refine gate_callee (f := 50) rfl ?_); refine goesL_ (some 4) rfl rfl Try.func50 (by kernel_rfl) rfl #[.string a0] rfl (by (try simp only [List.map_toArray, List.map_cons, List.map_nil]); first | done | rfl | (simp only [List.length_drop, List.length_take]; rfl)) ?_; (with_reducible refine (ipv4_all.calls a0 t137 _ A2.out).mono ?_); rintro e w4 ⟨rfl, hb⟩; refine ⟨_, rfl, ?_⟩; have n0_ := Aside0.mk (below_step (by repeat (first | (with_reducible first | exact HB.out | apply below_alloc | apply pw_below_drewN | apply below_drew1) | exact HB.out)) hb); clear HB; have HB := n0_; clear n0_; (try clear hb); (try clear hb2); (try clear hk); (try clear hi)) | ((with_reducible refine gate_callee (f := 49) rfl ?_); refine goesL_ (some 6) rfl rfl Try.func49 (by kernel_rfl) rfl #[.string a0] rfl (by (try simp only [List.map_toArray, List.map_cons, List.map_nil]); first | done | rfl | (simp only [List.length_drop, List.length_take]; rfl)) ?_; (with_reducible refine (ipv4_size.calls a0 t138 _ A3.out).mono ?_); rintro e w' ⟨rfl, ⟨nd, rfl⟩⟩; refine ⟨_, rfl, ?_⟩))
 go_ret
 exact ⟨by first | rfl | (simp [errW_none, errW_some] <;> rfl) | (simp [*, errW_none, errW_some] <;> rfl), by repeat (first | (with_reducible first | exact HB.out | apply below_alloc | apply pw_below_drewN | apply below_drew1) | exact HB.out)⟩

end Go.Proofs.Ytgolimfljndnmaa.HV
