/- What is proved: each Go function of this text answers as the plain Lean function beside it (a law: its given row, out of the plain statement). Conditions: those that stand in each theorem. Written by my drive.py, which calls the printer of the kit for what that covers. -/
import Derived.Test.YtgolimfljndnmaaHFx0
import Derived.Test.YtgolimfljndnmaaHFx2
import Derived.Test.YtgolimfljndnmaaHFx3
namespace Go.Proofs.Ytgolimfljndnmaa.HF
open Go.RowKit Go.Proofs.YtgolimfljndnmaaW.PrintWords Go.Proofs.YtgolimfljndnmaaW.PrintLast Go.Proofs.YtgolimfljndnmaaW.PrintMore
attribute [local go_sem] max2_int min2_int max_two min_two max_three min_three max_four min_four   -- for this text's walks alone
set_option linter.unusedVariables false
set_option linter.unusedSimpArgs false

/-! ### sum_Num: function 48 -/
def numL (l : List UInt8) : Int := l.foldl (fun v c => v * 256 + (c.toNat : Int)) 0
def numOf (s : ByteArray) : Int := numL (s.data.toList.drop (s.size - 7))
def sum_Num.f (a0 : ByteArray) : Option Int := if a0.size ≤ 4611686018427387904 then some (numOf a0) else none
theorem numL_bound (l : List UInt8) : 0 ≤ numL l ∧ numL l < 256 ^ l.length := by
 unfold numL
 suffices H : ∀ (l : List UInt8) (a : Int) (n : Nat), 0 ≤ a → a < 256 ^ n → 0 ≤ l.foldl (fun v c => v * 256 + (c.toNat : Int)) a ∧ l.foldl (fun v c => v * 256 + (c.toNat : Int)) a < 256 ^ (n + l.length) by
  have := H l 0 0 (by decide) (by decide)
  simpa using this
 intro l
 induction l with
 | nil => intro a n h0 h1; exact ⟨h0, by simpa using h1⟩
 | cons c t ih =>
  intro a n h0 h1
  have hc := c.toNat_lt
  have := ih (a * 256 + (c.toNat : Int)) (n + 1) (by omega) (by rw [Int.pow_succ]; omega)
  rw [List.foldl_cons, List.length_cons, show n + (t.length + 1) = n + 1 + t.length by omega]
  exact this
theorem numL_snoc (l : List UInt8) (c : UInt8) : numL (l ++ [c]) = numL l * 256 + (c.toNat : Int) := by simp [numL]
theorem wraps_i64 (n : Int) (h₀ : 0 ≤ n) (h₁ : n < 2 ^ 63) : IntKind.i64.wrap n = n := by rw [IntKind.wrap_i64]; omega
theorem num_or (v c : Int) (h0 : 0 ≤ v) (h1 : v < 281474976710656) (h2 : 0 ≤ c) (h3 : c < 256) : bits .or .i64 (v * 256) c = v * 256 + c :=
 bits_join .i64 63 (by decide) wraps_i64 8 (v * 256) c (by omega) (by omega) (by omega) h2 (by omega) (by omega)
theorem below_bytes (w : World) (e : TypeId) (s : ByteArray) : Below w.heap.size w (Lib.bytesWorld w e s) := by
 refine ⟨rfl, rfl, rfl, ?_, fun i hi => Lib.bytesWorld_at_old w e s i hi⟩
 rw [Lib.bytesWorld_size]; omega
def NumRel (s : ByteArray) (v i : Value) : Prop := ∃ k : Nat, k ≤ s.size ∧ i = .int .i64 k ∧ v = .int .i64 (numL (s.data.toList.take k))
theorem take_snoc8 (l : List UInt8) (k : Nat) (h : k < l.length) : l.take (k + 1) = l.take k ++ [l.getD k 0] := by
 rw [List.take_succ_eq_append_getElem h, List.getD_eq_getElem?_getD, List.getElem?_eq_getElem h]; rfl
theorem num_round (l : List UInt8) (k : Nat) (c : UInt8) (h : l[k]? = some c) (h7 : l.length ≤ 7) :
  bits .or .i64 (wrap64 (numL (l.take k) * 256)) (wrap64 (c.toNat : Int)) = numL (l.take (k + 1)) := by
 obtain ⟨hk, hc⟩ := List.getElem?_eq_some_iff.mp h
 have hb := numL_bound (l.take k)
 have hl : (l.take k).length = k := by simp; omega
 rw [hl] at hb
 have hp : (256 : Int) ^ k ≤ 256 ^ 6 := by
  have : (256 : Nat) ^ k ≤ 256 ^ 6 := Nat.pow_le_pow_right (by decide) (by omega)
  exact Int.ofNat_le.mpr this
 have hc' := c.toNat_lt
 have w1 : wrap64 (numL (l.take k) * 256) = numL (l.take k) * 256 := by unfold wrap64; omega
 have w2 : wrap64 (c.toNat : Int) = c.toNat := by unfold wrap64; omega
 rw [w1, w2, num_or _ _ hb.1 (by omega) (by omega) (by omega), List.take_succ_eq_append_getElem hk, numL_snoc, hc]
theorem ret_i64 {a b : Int} (h : a = b) : Ending.returned (.int .i64 a) = .returned (.int .i64 b) := by rw [h]
set_option maxHeartbeats 400000 in
theorem num (a0 : ByteArray) (w : World) (s : ByteArray) (hs : a0.size ≤ 4611686018427387904) (hS : s = a0.extract (a0.size - 7) a0.size) :
  Calls Try.prog 48 #[.string a0] w fun e w' => e = .returned (.int .i64 (numL s.data.toList)) ∧ Below w.heap.size w w' := by
 have hz : s.size ≤ 7 := by subst hS; simp; omega
 have HS : Aside0 (s = a0.extract (a0.size - 7) a0.size) := Aside0.mk hS
 clear hS
 have hconv := fun (s : ByteArray) (w : World) => Lib.run_convert_string_bytes (P := Try.prog) w 9 34 5 s Try.underlying9 Try.underlying34 Try.underlying5
 by_cases h7 : a0.size ≤ 7
 ·
  obtain rfl : s = a0 := by
   rw [HS.out, show a0.size - 7 = 0 by omega]; simp
  clear HS
  go_enter Try.func48, Try.ntmps48
  go_wp2
  have hb := below_bytes w 5 s
  have hcell := Lib.bytesWorld_cell w 5 s
  generalize Lib.bytesWorld w 5 s = W at *
  have HB := Aside0.mk hb
  have HC := Aside0.mk hcell
  clear hb hcell hconv
  go_loop [3, 14] (fun v i => NumRel s v i) (fun _ i => s.size - (intOf i).toNat)
  case atStart => exact ⟨0, Nat.zero_le _, rfl, rfl⟩
  case round =>
   obtain ⟨k, hk, rfl, rfl⟩ := hrel
   by_cases hlt : k < s.size
   ·
    have hc := HC.out k hlt
    go_wp2
    go_round
    case rel => exact ⟨k + 1, by omega, by go_num, congrArg (Value.int .i64) (num_round s.data.toList k _ (by simp) (by simpa using hz))⟩
    case measure => simp [intOf]; omega
   ·
    go_wp2
    go_ret
    have e : k = s.size := by omega
    exact ⟨ret_i64 (by rw [List.take_of_length_le (by simp; omega)]), HB.out⟩
 ·
  go_enter Try.func48, Try.ntmps48
  go_wp2
  have e0 : a0.extract (a0.size - 7) a0.size = s := HS.out.symm
  have e1 : a0.size - (a0.size - 7) = s.size := by rw [HS.out]; simp
  rw [e0, e1]
  clear e0 e1
  have hb := below_bytes w 5 s
  have hcell := Lib.bytesWorld_cell w 5 s
  generalize Lib.bytesWorld w 5 s = W at *
  have HB := Aside0.mk hb
  have HC := Aside0.mk hcell
  clear hb hcell hconv
  go_loop [3, 14] (fun v i => NumRel s v i) (fun _ i => s.size - (intOf i).toNat)
  case atStart => exact ⟨0, Nat.zero_le _, rfl, rfl⟩
  case round =>
   obtain ⟨k, hk, rfl, rfl⟩ := hrel
   by_cases hlt : k < s.size
   ·
    have hc := HC.out k hlt
    go_wp2
    go_round
    case rel => exact ⟨k + 1, by omega, by go_num, congrArg (Value.int .i64) (num_round s.data.toList k _ (by simp) (by simpa using hz))⟩
    case measure => simp [intOf]; omega
   ·
    go_wp2
    go_ret
    have e : k = s.size := by omega
    exact ⟨ret_i64 (by rw [List.take_of_length_le (by simp; omega)]), HB.out⟩
theorem sum_Num.calls (a0 : ByteArray) (r : Int) (w : World) (h : sum_Num.f a0 = some r) :
  Calls Try.prog 48 #[.string a0] w fun e w' => e = .returned (.int .i64 r) ∧ Below w.heap.size w w' := by
 unfold sum_Num.f at h
 split at h
 ·
  rename_i hs
  obtain rfl := Option.some.inj h
  have e : (a0.extract (a0.size - 7) a0.size).data.toList = a0.data.toList.drop (a0.size - 7) := by
   rw [Lib.extract_data, List.take_of_length_le (by simp)]
  have := num a0 w _ hs rfl
  rw [e] at this
  exact this
 ·
  cases h

-- NOT PRINTED: function 60 (dgram_wrong_string)

/-! ### dgram_GetUDP_1: function 61 -/
def dgram_GetUDP_1.f (a0 : ByteArray) : Option (Bool) := if 4 ≤ 6 then (if 6 ≤ (a0.size : Int) then ((sum_Num.f (a0.extract 4 6)).bind fun t127 => (some (t127 != (a0.size : Int)))) else (none)) else (none)
set_option maxHeartbeats 8000000 in
set_option maxRecDepth 100000 in
theorem dgram_GetUDP_1.calls (a0 : ByteArray) (r : Bool) (w : World) (h : dgram_GetUDP_1.f a0 = some r) :
  Calls Try.prog 61 #[.string a0] w fun e w' => e = .returned (.bool r) ∧ Below w.heap.size w w' := by
 have HB := Aside0.mk (Below.refl w.heap.size w)
 have H : (if 4 ≤ 6 then (if 6 ≤ (a0.size : Int) then ((sum_Num.f (a0.extract 4 6)).bind fun t127 => (some (t127 != (a0.size : Int)))) else (none)) else (none)) = some r := h
 clear h
 by_cases c2 : 4 ≤ 6
 ·
  rw [if_pos c2] at H
  have c2b0 := eq_true c2
  have c2b1 : decide (4 ≤ 6) = true := decide_eq_true c2
  clear c2
  by_cases c3 : 6 ≤ (a0.size : Int)
  ·
   rw [if_pos c3] at H
   have c3b0 := eq_true c3
   have c3b1 : decide (6 ≤ (a0.size : Int)) = true := decide_eq_true c3
   clear c3
   replace H := Option.bind_eq_some_iff.mp H
   obtain ⟨t127, A40, H⟩ := H
   replace H : (some (t127 != (a0.size : Int))) = some r := H
   have A4 := Aside0.mk A40
   clear A40
   obtain rfl := Option.some.inj H
   go_enter Try.func61, Try.ntmps61
   go_wp2_with (first | ((with_reducible refine gate_callee (f := 48) rfl ?_); refine goesL_ (some 5) rfl rfl Try.func48 (by kernel_rfl) rfl #[.string (a0.extract 4 6)] rfl (by (try simp only [List.map_toArray, List.map_cons, List.map_nil]); first | done | rfl | (simp only [List.length_drop, List.length_take]; rfl)) ?_; (with_reducible refine (sum_Num.calls (a0.extract 4 6) t127 _ A4.out).mono ?_); rintro e w5 ⟨rfl, hb⟩; refine ⟨_, rfl, ?_⟩; have n0_ := Aside0.mk (below_step (by repeat (first | (with_reducible first | exact HB.out | apply below_alloc | apply pw_below_drewN | apply below_drew1) | exact HB.out)) hb); clear HB; have HB := n0_; clear n0_; (try clear hb); (try clear hb2); (try clear hk); (try clear hi)))
   go_ret
   exact ⟨by first | rfl | (simp [errW_none, errW_some] <;> rfl) | (simp [*, errW_none, errW_some] <;> rfl), by repeat (first | (with_reducible first | exact HB.out | apply below_alloc | apply pw_below_drewN | apply below_drew1) | exact HB.out)⟩
  ·
   rw [if_neg c3] at H
   exact absurd H (by simp)
 ·
  rw [if_neg c2] at H
  exact absurd H (by simp)

/-! ### dgram_GetUDP_2: function 62 -/
/-! ### dgram_sumsU: function 62 -/
def dgram_sumsU.f (k : Nat) (a0 : ByteArray) (a1 : Int) (a2 : Int) : Option (Bool) := if 6 ≤ 8 then (if 8 ≤ (a0.size : Int) then (if (a0.extract 6 8).toList = ([0, 0] : List UInt8) then (some false) else ((dgram_pseudo.f k a1 a2 (a0.size : Int)).bind fun t128 => ((sum_Of.f k (([t128, a0] : List ByteArray))).bind fun t132 => (some (t132 != 0))))) else (none)) else (none)
theorem dgram_sumsU.mono : ∀ a0 a1 a2 k, LeO (dgram_sumsU.f k a0 a1 a2) (dgram_sumsU.f (k + 1) a0 a1 a2) := by
 intro a0 a1 a2 k
 unfold dgram_sumsU.f
 repeat' first
   | (with_reducible exact dgram_pseudo.mono _ _ _ _)
   | (with_reducible exact sum_Of.mono _ _)
   | (with_reducible exact LeO.refl _)
   | (with_reducible exact LeO.none _)
   | (with_reducible refine LeO.ite ?_ ?_)
   | (with_reducible refine LeO.bind ?_ (fun _ => ?_))
   | exact dgram_pseudo.mono _ _ _ _
   | exact sum_Of.mono _ _
   | exact LeO.none _
   | refine LeO.ite ?_ ?_
   | refine LeO.bind ?_ (fun _ => ?_)
set_option maxHeartbeats 8000000 in
set_option maxRecDepth 100000 in
theorem dgram_sumsU.calls (k : Nat) (a0 : ByteArray) (a1 : Int) (a2 : Int) (r : Bool) (g1 g2 : Nat) (w : World) (hc1 : w.cell? ⟨g1, 0, none⟩ = some (.int .u32 a1)) (hc2 : w.cell? ⟨g2, 0, none⟩ = some (.int .u32 a2)) (h : dgram_sumsU.f k a0 a1 a2 = some r) :
  Calls Try.prog 62 #[.string a0, .pointer (some ⟨g1, 0, none⟩), .pointer (some ⟨g2, 0, none⟩)] w fun e w' => e = .returned (.bool r) ∧ Below w.heap.size w w' := by
 have HB := Aside0.mk (Below.refl w.heap.size w)
 have H : (if 6 ≤ 8 then (if 8 ≤ (a0.size : Int) then (if (a0.extract 6 8).toList = ([0, 0] : List UInt8) then (some false) else ((dgram_pseudo.f k a1 a2 (a0.size : Int)).bind fun t128 => ((sum_Of.f k (([t128, a0] : List ByteArray))).bind fun t132 => (some (t132 != 0))))) else (none)) else (none)) = some r := h
 clear h
 by_cases c4 : 6 ≤ 8
 ·
  rw [if_pos c4] at H
  have c4b0 := eq_true c4
  have c4b1 : decide (6 ≤ 8) = true := decide_eq_true c4
  clear c4
  by_cases c5 : 8 ≤ (a0.size : Int)
  ·
   rw [if_pos c5] at H
   have c5b0 := eq_true c5
   have c5b1 : decide (8 ≤ (a0.size : Int)) = true := decide_eq_true c5
   clear c5
   by_cases c6 : (a0.extract 6 8).toList = ([0, 0] : List UInt8)
   ·
    rw [if_pos c6] at H
    have c6b0 : ((a0.extract 6 8).toList == ([0, 0] : List UInt8)) = true := beq_iff_eq.mpr c6
    have c6b1 : ((a0.extract 6 8).toList != ([0, 0] : List UInt8)) = false := bne_eq_false_iff_eq.mpr c6
    clear c6
    obtain rfl := Option.some.inj H
    go_enter Try.func62, Try.ntmps62
    go_wp2
    go_ret
    exact ⟨by first | rfl | (simp [errW_none, errW_some] <;> rfl) | (simp [*, errW_none, errW_some] <;> rfl), by repeat (first | (with_reducible first | exact HB.out | apply below_alloc | apply pw_below_drewN | apply below_drew1) | exact HB.out)⟩
   ·
    rw [if_neg c6] at H
    have c6b0 : ((a0.extract 6 8).toList == ([0, 0] : List UInt8)) = false := beq_eq_false_iff_ne.mpr c6
    have c6b1 : ((a0.extract 6 8).toList != ([0, 0] : List UInt8)) = true := bne_iff_ne.mpr c6
    replace H := Option.bind_eq_some_iff.mp H
    obtain ⟨t128, A70, H⟩ := H
    replace H : ((sum_Of.f k (([t128, a0] : List ByteArray))).bind fun t132 => (some (t132 != 0))) = some r := H
    have A7 := Aside0.mk A70
    clear A70
    obtain ⟨y129, hy129⟩ : ∃ y_ : List ByteArray, y_ = (([t128, a0] : List ByteArray)) := ⟨_, rfl⟩
    replace H : ((sum_Of.f k y129).bind fun t132 => (some (t132 != 0))) = some r := by first | (rw [hy129]; with_reducible exact H) | (have H2_ := (Option.bind_some _ _).symm.trans H; rw [hy129]; with_reducible exact H2_) | (have H2_ := (Option.bind_some _ _).symm.trans H; with_reducible exact H2_) | with_reducible exact H | (rw [hy129]; exact H) | exact H
    have Ny129 := Aside0.mk hy129
    clear hy129
    replace H := Option.bind_eq_some_iff.mp H
    obtain ⟨t132, A80, H⟩ := H
    replace H : (some (t132 != 0)) = some r := H
    have A8 := Aside0.mk A80
    clear A80
    obtain rfl := Option.some.inj H
    go_enter Try.func62, Try.ntmps62
    go_wp2_with (first | (go_at_call 59; (with_reducible refine (dgram_pseudo.calls k a1 a2 (a0.size : Int) t128 _ A7.out).mono ?_); rintro e w9 ⟨rfl, hb⟩; have n0_ := Aside0.mk (below_step (by repeat (first | (with_reducible first | exact HB.out | apply below_alloc | apply pw_below_drewN | apply below_drew1) | exact HB.out)) hb); clear HB; have HB := n0_; clear n0_; (try clear hb); (try clear hb2); (try clear hk); (try clear hi)) | ((with_reducible refine gate_dst (N := 15) rfl ?_); (try (refine gate_guard (by rfl) ?_; dsimp only)); refine Kd.R_lit Kd.string _ 9 ?hg (N := 15) ?hd (xs := ([t128, a0] : List ByteArray)) (inner := [.string t128, .string a0]) (ok := fun _ => True) (okp := fun _ => True) ?hr ?hp (fun _ hk => hk) trivial (Below.refl _ _) (Nat.le_refl _) (by simp) ?_; (case hd => rfl); (case hg => rfl); (case hr => first | (go_simp; done) | (go_simp; rfl)); (case hp => exact (Reps.one (show Kd.M Kd.string _ _ _ t128 [.string t128] from rfl) (Reps.one (show Kd.M Kd.string _ _ _ a0 [.string a0] from rfl) (Reps.none _ _)))); intro v130 w10 ho11 hb hg_ hnew_; clear hg_ hnew_; (first | rw [← Ny129.out] at ho11 | (simp only [Int.reduceToNat] at ho11; rw [← Ny129.out] at ho11)); have n0_ := Aside0.mk (Kd.R_lower ho11 (below_size (by repeat (first | (with_reducible first | exact HB.out | apply below_alloc | apply pw_below_drewN | apply below_drew1) | exact HB.out)))); have n1_ := Aside0.mk (below_step (by repeat (first | (with_reducible first | exact HB.out | apply below_alloc | apply pw_below_drewN | apply below_drew1) | exact HB.out)) hb); clear HB; have HO131 := n0_; have HB := n1_; clear n0_ n1_; clear hb ho11; obtain ⟨Ao12, co12, eo12⟩ := Kd.R_slice HO131.out; subst eo12) | (go_at_call 44; (with_reducible refine (sum_Of.calls k _ _ y129 t132 _ ?side1 ?side2 A8.out).mono ?_); (case side1 => repeat (first | exact (Kd.R_reads' HO131.out).2.2 | (with_reducible refine Kd.C_alloc ?_ _) | (with_reducible refine Kd.C_drewN ?_ _) | (with_reducible refine Kd.C_drew ?_))); (case side2 => exact (Kd.R_reads' HO131.out).2.1); rintro e w' ⟨rfl, ⟨nd, rfl⟩⟩))
    go_ret
    exact ⟨by first | rfl | (simp [errW_none, errW_some] <;> rfl) | (simp [*, errW_none, errW_some] <;> rfl), by repeat (first | (with_reducible first | exact HB.out | apply below_alloc | apply pw_below_drewN | apply below_drew1) | exact HB.out)⟩
  ·
   rw [if_neg c5] at H
   exact absurd H (by simp)
 ·
  rw [if_neg c4] at H
  exact absurd H (by simp)

theorem cell_kept {w w' : World} {g : Nat} {v : Value} (hb : Below w.heap.size w w') (h : w.cell? ⟨g, 0, none⟩ = some v) : w'.cell? ⟨g, 0, none⟩ = some v :=
 (World.cell?_of_block (hb.block g (World.block_lt_of_cell? w ⟨g, 0, none⟩ h))).trans h
def dgram_GetUDP_2.f (k : Nat) (a0 : ByteArray) (a1 a2 : Int) : Option Int := if (a0.size : Int) < 8 then some 2 else (dgram_GetUDP_1.f a0).bind fun b => if b = true then some 3 else if (a0.size : Int) > 2000 then some 5 else (dgram_sumsU.f k a0 a1 a2).bind fun c => if c = true then some 4 else some 0
theorem dgram_GetUDP_2.mono : ∀ a0 a1 a2 k, LeO (dgram_GetUDP_2.f k a0 a1 a2) (dgram_GetUDP_2.f (k + 1) a0 a1 a2) := fun a0 a1 a2 k => LeO.ite (LeO.refl _) (LeO.bind (LeO.refl _) (fun _ => LeO.ite (LeO.refl _) (LeO.ite (LeO.refl _) (LeO.bind (dgram_sumsU.mono a0 a1 a2 k) (fun _ => LeO.refl _)))))
set_option maxRecDepth 100000 in
set_option maxHeartbeats 4000000 in
theorem dgram_GetUDP_2.calls (k : Nat) (a0 : ByteArray) (a1 a2 : Int) (r : Int) (g1 g2 : Nat) (w : World) (hc1 : w.cell? ⟨g1, 0, none⟩ = some (.int .u32 a1)) (hc2 : w.cell? ⟨g2, 0, none⟩ = some (.int .u32 a2)) (h : dgram_GetUDP_2.f k a0 a1 a2 = some r) :
  Calls Try.prog 60 #[.string a0, .func (.func 61) #[] #[], .func (.func 62) #[] #[.pointer (some ⟨g1, 0, none⟩), .pointer (some ⟨g2, 0, none⟩)]] w fun e w' => e = .returned (.int .i64 r) ∧ Below w.heap.size w w' := by
 have HC1 := Aside0.mk hc1
 have HC2 := Aside0.mk hc2
 clear hc1 hc2
 unfold dgram_GetUDP_2.f at h
 by_cases c1 : (a0.size : Int) < 8
 ·
  rw [if_pos c1] at h
  obtain rfl := Option.some.inj h
  have d1 : decide ((a0.size : Int) < 8) = true := decide_eq_true c1
  clear h c1
  go_enter Try.func60, Try.ntmps60
  go_wp2
  go_ret
  exact ⟨rfl, Below.refl _ _⟩
 rw [if_neg c1] at h
 have d1 : decide ((a0.size : Int) < 8) = false := decide_eq_false c1
 clear c1
 obtain ⟨b, A10, h⟩ := Option.bind_eq_some_iff.mp h
 have A1 := Aside0.mk A10
 clear A10
 by_cases c2 : b = true
 ·
  subst c2
  rw [if_pos rfl] at h
  obtain rfl := Option.some.inj h
  clear h
  go_enter Try.func60, Try.ntmps60
  go_wp2_with (go_at_call 61; refine (dgram_GetUDP_1.calls a0 true _ A1.out).mono ?_; rintro e w1 ⟨rfl, hb⟩)
  go_ret
  exact ⟨rfl, hb⟩
 obtain rfl : b = false := by simpa using c2
 clear c2
 rw [if_neg Bool.false_ne_true] at h
 by_cases c3 : (a0.size : Int) > 2000
 ·
  rw [if_pos c3] at h
  obtain rfl := Option.some.inj h
  have d2 : decide (2000 < (a0.size : Int)) = true := decide_eq_true c3
  clear h c3
  go_enter Try.func60, Try.ntmps60
  go_wp2_with (go_at_call 61; refine (dgram_GetUDP_1.calls a0 false _ A1.out).mono ?_; rintro e w1 ⟨rfl, hb⟩)
  go_ret
  exact ⟨rfl, hb⟩
 rw [if_neg c3] at h
 have d2 : decide (2000 < (a0.size : Int)) = false := decide_eq_false c3
 clear c3
 obtain ⟨c, A20, h⟩ := Option.bind_eq_some_iff.mp h
 have A2 := Aside0.mk A20
 clear A20
 by_cases c4 : c = true
 ·
  subst c4
  rw [if_pos rfl] at h
  obtain rfl := Option.some.inj h
  clear h
  go_enter Try.func60, Try.ntmps60
  go_wp2_with (first | (go_at_call 61; refine (dgram_GetUDP_1.calls a0 false _ A1.out).mono ?_; rintro e w1 ⟨rfl, hb⟩) | (go_at_call 62; refine (dgram_sumsU.calls k a0 a1 a2 true g1 g2 _ (cell_kept hb HC1.out) (cell_kept hb HC2.out) A2.out).mono ?_; rintro e w2 ⟨rfl, hb2⟩))
  go_ret
  exact ⟨rfl, below_step hb hb2⟩
 ·
  obtain rfl : c = false := by simpa using c4
  rw [if_neg c4] at h
  obtain rfl := Option.some.inj h
  clear h c4
  go_enter Try.func60, Try.ntmps60
  go_wp2_with (first | (go_at_call 61; refine (dgram_GetUDP_1.calls a0 false _ A1.out).mono ?_; rintro e w1 ⟨rfl, hb⟩) | (go_at_call 62; refine (dgram_sumsU.calls k a0 a1 a2 false g1 g2 _ (cell_kept hb HC1.out) (cell_kept hb HC2.out) A2.out).mono ?_; rintro e w2 ⟨rfl, hb2⟩))
  go_ret
  exact ⟨rfl, below_step hb hb2⟩


end Go.Proofs.Ytgolimfljndnmaa.HF
