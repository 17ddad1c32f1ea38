/- What is proved: the law of buffers. Conditions: those that stand in each theorem. -/
import Derived.Test.YtieolnekccacbaaDirPure
import Derived.Test.YtieolnekccacbaaDirAwake
import Derived.OpenShut
namespace Go.Proofs.Ytieolnekccacbaa
set_option linter.unusedVariables false
set_option linter.unusedSimpArgs false
set_option linter.unusedSectionVars false
open Go.RowKit Go.Maps Go.MapKept Go.ChangeMaps Fw
/-! ### Plain -/
theorem far_new (x : Int) : far [] x = false := rfl
/-- The two pushes of the law. -/
theorem buffers_over (start : Int) (hs : 0 ≤ start ∧ start < 4294967296) (b o k : Nat) (hb : b < 50) (ho : 1 ≤ o ∧ o ≤ 60) (hk : 1 ≤ k ∧ k ≤ 20) (h : b < o + k) :
    (DS.new start b 0).push ((start + o) % 4294967296) (zeros k) false = (DS.new start b 0, ⟨5, 0, ⟨#[]⟩, false⟩) := by
  unfold DS.push
  rw [if_neg (by rw [size_zeros]; omega)]
  have e : plc (DS.new start b 0).start ((start + (o : Int)) % 4294967296) (DS.new start b 0).pl = o := plc_at hs (Int.le_refl 0) (by show _ ≤ (o : Int) - 0; omega) (by show (o : Int) - 0 < _; omega)
  rw [e]
  have t : (DS.new start b 0).trim o ((o : Int) + (zeros k).size) (zeros k) false = ((o : Int) + k, zeros k, false) := by
    unfold DS.trim
    rw [if_pos (by show (-1 : Int) < 0; decide), size_zeros]
  rw [t]
  exact if_pos (by show (0 : Int) + max 0 (min (b : Int) 1024) < (o : Int) + k; omega)
def held1 (o k : Nat) : List (Int × Int) := ins [] o (zeros k).data.toList 0
def bd1 (start : Int) (b o k : Nat) : DS := ⟨start, max 0 (min b 1024), 0, 0, held1 o k, ⟨#[]⟩, -1, false⟩
theorem zeros_len (k : Nat) : (zeros k).data.toList.length = k := by
  exact Array.length_toList.trans (size_zeros k)
theorem held1_at (o k : Nat) (x : Int) : (held1 o k).lookup x = if 0 ≤ x ∧ (o : Int) ≤ x ∧ x < o + k then some 0 else none := by
  unfold held1
  rw [ins_lookup, zeros_at]
  rw [zeros_len]
  rfl
theorem held1_len (o k : Nat) : (held1 o k).length = k := by
  unfold held1
  rw [ins_fresh _ _ _ _ (by omega) (fun q hq => by cases hq)]
  rw [List.nil_append, lay_len, zeros_len]
theorem held1_nodup (o k : Nat) : ((held1 o k).map (·.1)).Nodup := ins_nodup _ _ _ _ List.nodup_nil
theorem keep_zero (s : ByteArray) : keep s 0 = ⟨#[]⟩ := by
  apply empty_of
  rw [size_keep]
  simp
theorem buffers_held (start : Int) (hs : 0 ≤ start ∧ start < 4294967296) (b o k : Nat) (hb : b < 50) (ho : 1 ≤ o ∧ o ≤ 60) (hk : 1 ≤ k ∧ k ≤ 20) (h : o + k ≤ b) :
    (DS.new start b 0).push ((start + o) % 4294967296) (zeros k) false = (bd1 start b o k, ⟨4, 0, ⟨#[]⟩, false⟩) := by
  unfold DS.push
  rw [if_neg (by rw [size_zeros]; omega)]
  have e : plc (DS.new start b 0).start ((start + (o : Int)) % 4294967296) (DS.new start b 0).pl = o := plc_at hs (Int.le_refl 0) (by show _ ≤ (o : Int) - 0; omega) (by show (o : Int) - 0 < _; omega)
  rw [e]
  have t : (DS.new start b 0).trim o ((o : Int) + (zeros k).size) (zeros k) false = ((o : Int) + k, zeros k, false) := by
    unfold DS.trim
    rw [if_pos (by show (-1 : Int) < 0; decide), size_zeros]
  rw [t, if_neg (by show ¬ (0 : Int) + max 0 (min (b : Int) 1024) < (o : Int) + k; omega)]
  have hE : (ins (DS.new start b 0).held o (zeros k).data.toList (DS.new start b 0).pl).lookup ((DS.new start b 0).pl + ((0 : Nat) : Int)) = none ∨ (DS.new start b 0).pl + ((0 : Nat) : Int) = -1 := by
    left
    show (held1 o k).lookup (0 + ((0 : Nat) : Int)) = none
    rw [held1_at, if_neg (by omega)]
  have h4 : bd1 start b o k = ⟨start, max 0 (min b 1024), 0, 0 + ((0 : Nat) : Int), (held1 o k).filter (fun q => !(decide (0 ≤ q.1) && decide (q.1 < 0 + ((0 : Nat) : Int)))), keep (⟨#[]⟩ ++ strOfNums []) 0, -1, false || false⟩ := by
    unfold bd1
    rw [keep_zero]
    congr 1
    symm
    apply List.filter_eq_self.2
    intro q _
    simp only [Bool.not_eq_true', Bool.and_eq_false_iff, decide_eq_false_iff_not]
    omega
  rw [push2_eq (DS.new start b 0) o ((o : Int) + k) (zeros k) false (-1) rfl List.nodup_nil 0 (fun _ => 0) (fun i hi => absurd hi (Nat.not_lt_zero i)) hE false rfl (bd1 start b o k) h4]
  rw [if_neg (by simp), if_pos (by show (0 : Int) + ((0 : Nat) : Int) < _; omega)]
def bd2 (start : Int) (b o k : Nat) : DS := ⟨start, max 0 (min b 1024), 0, (o + k : Nat), [], ⟨#[]⟩, -1, false⟩
theorem buffers_new (start : Int) (hs : 0 ≤ start ∧ start < 4294967296) (b o k : Nat) (hb : b < 50) (ho : 1 ≤ o ∧ o ≤ 60) (hk : 1 ≤ k ∧ k ≤ 20) (h : o + k ≤ b) :
    ∃ s : ByteArray, s.size = o + k ∧ (bd1 start b o k).push start (zeros o) false = (bd2 start b o k, ⟨1, 0, s, false⟩) := by
  refine ⟨strOfNums ((List.range (o + k)).map fun _ => 0), size_out _ _, ?_⟩
  unfold DS.push
  rw [if_neg (by rw [size_zeros]; omega)]
  have e : plc (bd1 start b o k).start start (bd1 start b o k).pl = 0 := by
    have := plc_at (start := start) (o := 0) (near := 0) hs (by decide) (by decide) (by decide)
    rw [Int.add_zero, Int.emod_eq_of_lt hs.1 hs.2] at this
    exact this
  rw [e]
  have t : (bd1 start b o k).trim 0 ((0 : Int) + (zeros o).size) (zeros o) false = ((0 : Int) + o, zeros o, false) := by
    unfold DS.trim
    rw [if_pos (by show (-1 : Int) < 0; decide), size_zeros]
  rw [t, if_neg (by show ¬ (0 : Int) + max 0 (min (b : Int) 1024) < 0 + (o : Int); omega)]
  have hl : ∀ x, (ins (held1 o k) 0 (zeros o).data.toList 0).lookup x = if 0 ≤ x ∧ x < (o + k : Nat) then some 0 else none := by
    intro x
    rw [ins_lookup, zeros_at, held1_at, zeros_len]
    by_cases h1 : 0 ≤ x ∧ (o : Int) ≤ x ∧ x < o + k
    · rw [if_pos h1, if_pos (show 0 ≤ x ∧ x < ((o + k : Nat) : Int) by omega)]; rfl
    · rw [if_neg h1]
      by_cases h2 : 0 ≤ x ∧ 0 ≤ x ∧ x < 0 + (o : Int)
      · rw [if_pos h2, if_pos (show 0 ≤ x ∧ x < ((o + k : Nat) : Int) by omega)]; rfl
      · rw [if_neg h2, if_neg (show ¬ (0 ≤ x ∧ x < ((o + k : Nat) : Int)) by omega)]; rfl
  have hT : ∀ i : Nat, i < o + k → (ins (bd1 start b o k).held 0 (zeros o).data.toList (bd1 start b o k).pl).lookup ((bd1 start b o k).pl + i) = some ((fun _ => 0 : Nat → Int) i) ∧ (bd1 start b o k).pl + i ≠ -1 := by
    intro i hi
    refine ⟨?_, by show (0 : Int) + i ≠ -1; omega⟩
    show (ins (held1 o k) 0 (zeros o).data.toList 0).lookup (0 + (i : Int)) = _
    rw [hl, if_pos (by omega)]
  have hE : (ins (bd1 start b o k).held 0 (zeros o).data.toList (bd1 start b o k).pl).lookup ((bd1 start b o k).pl + ((o + k : Nat) : Int)) = none ∨ (bd1 start b o k).pl + ((o + k : Nat) : Int) = -1 := by
    left
    show (ins (held1 o k) 0 (zeros o).data.toList 0).lookup (0 + ((o + k : Nat) : Int)) = _
    rw [hl, if_neg (by omega)]
  have h4 : bd2 start b o k = ⟨start, max 0 (min b 1024), 0, 0 + ((o + k : Nat) : Int), (ins (held1 o k) 0 (zeros o).data.toList 0).filter (fun q => !(decide (0 ≤ q.1) && decide (q.1 < 0 + ((o + k : Nat) : Int)))), keep (⟨#[]⟩ ++ strOfNums ((List.range (o + k)).map fun _ => 0)) 0, -1, false || false⟩ := by
    unfold bd2
    rw [keep_zero]
    congr 1
    · omega
    · symm
      apply List.filter_eq_nil_iff.2
      intro q hq
      have hm := lookup_of_mem (ins_nodup (zeros o).data.toList (held1 o k) 0 0 (held1_nodup o k)) hq
      rw [hl] at hm
      by_cases h2 : 0 ≤ q.1 ∧ q.1 < (o + k : Nat)
      · simp only [Bool.not_eq_true, Bool.not_eq_false', Bool.and_eq_true, decide_eq_true_eq]; omega
      · rw [if_neg h2] at hm; cases hm
  have hlast : false = (decide ((bd1 start b o k).pl + ((o + k : Nat) : Int) = -1) && !(bd1 start b o k).done) := by
    rw [decide_eq_false (by show ¬ (0 : Int) + ((o + k : Nat) : Int) = -1; omega)]; rfl
  rw [push2_eq (bd1 start b o k) 0 ((0 : Int) + o) (zeros o) false (-1) rfl (held1_nodup o k) (o + k) (fun _ => 0) hT hE false hlast (bd2 start b o k) h4]
  rw [if_pos (by left; omega)]; rfl
/-! ### The walk -/
theorem str_zeros (k : Nat) : (List.replicate k (Value.int .u8 0)) = ((List.replicate k (0 : Int)).map (Value.int .u8)) := by simp
theorem info_sl8 : Try.prog.underlying 30 = some (.slice 5) := by kernel_rfl
theorem und_u8 : Try.prog.underlying 5 = some (.int .u8) := by kernel_rfl
theorem und_str : Try.prog.underlying 9 = some .string := by kernel_rfl
theorem new_can (s b h : Int) (n : Nat) (hn : n ≤ 1000000) : Can (DS.new s b h) n := by
  refine ⟨Int.le_refl 0, by show (0 : Int) ≤ _; decide, by show (-1 : Int) ≤ -1; decide, by show (-1 : Int) ≤ _; decide, hn, by show 0 ≤ max 0 (min b 1024); omega, by show max 0 (min b 1024) ≤ 1024; omega, ⟨by show 0 + n ≤ _; omega, by show 0 ≤ max 0 (min h 1024); omega, by show max 0 (min h 1024) ≤ 1024; omega, ?_⟩⟩
  show ((0 : Nat) : Int) = min (max 0 (min h 1024)) 0
  omega
/-- 'string(make([]byte, k))': two operations. -/
theorem Ls.zeros {ops l : List Oper} {o1 o2 : Oper} {n : Nat} {f : Fr} {w : World} {Q : Exit → Act → World → Prop} {x : Operand} {k : Nat} {d1 d2 : Nat} (h1 : o1.op = .makeSlice 30 x x) (g1 : o1.guard = none) (e1 : o1.dst = some d1) (b1 : Nat.blt d1 n = true)
    (hx : feval f x = some (.int .i64 (k : Int))) (h2 : o2.op = .convert 30 9 (.tmp d1)) (g2 : o2.guard = none) (e2 : o2.dst = some d2) (b2 : Nat.blt d2 n = true) (hk : k ≤ 1000000)
    (hK : ∀ w', Mv (fun _ => False) w w' → Ls Try.prog n ops l ((d2, .string (Go.Proofs.Ytieolnekccacbaa.zeros k)) :: (d1, .slice (some ⟨w.heap.size, 0, none⟩) k k) :: f) w' Q) : Ls Try.prog n ops (o1 :: o2 :: l) f w Q := by
  refine Ls.makeSlice h1 g1 e1 b1 hx info_sl8 info_u8 rfl (by omega) (by omega) ?_
  have hb := heap_alloc_new w (.cells (List.replicate k (Value.int .u8 0)).toArray 5)
  have hm : Mv (fun _ => False) w (w.alloc (.cells (List.replicate k (Value.int .u8 0)).toArray 5)) := (Mv.refl _ w).alloc _
  rw [str_zeros] at hb
  refine fun a hf => wpList_plain g2 fun K hK' => ?_
  unfold Oper.wp
  have hc := conv_bytes info_sl8 und_u8 und_str (m := k) (c := k) hb (by simp) _ ⟨rfl, rfl, rfl, rfl⟩
  have he : a.eval (.tmp d1) = .slice (some ⟨w.heap.size, 0, none⟩) k k := hf.eval (by show (bif Nat.beq d1 d1 then _ else _) = _; rw [Nat.beq_refl]; rfl)
  have : (execOp a.eval o2).run Try.prog (w.alloc (.cells (List.replicate k (Value.int .u8 0)).toArray 5)) = .ok (.value (.string (Go.Proofs.Ytieolnekccacbaa.zeros k))) (w.alloc (.cells (List.replicate k (Value.int .u8 0)).toArray 5)) := by
    simp only [execOp, h2, he]
    rw [← str_zeros] at hc
    exact vrun hc
  rw [this, Oper.upon_value, e2]
  exact hK' _ _ (hK _ hm _ (hf.put b2 _))
set_option maxRecDepth 100000 in
set_option maxHeartbeats 4000000 in
theorem buffers_walk (start b o k : Int) (w : World) (hs : 0 ≤ start ∧ start < 4294967296) (hb : -9223372036854775808 ≤ b ∧ b ≤ 9223372036854775807) (ho : -9223372036854775808 ≤ o ∧ o ≤ 9223372036854775807) (hk : -9223372036854775808 ≤ k ∧ k ≤ 9223372036854775807) :
    Calls Try.prog 4 #[.int .u32 start, .int .i64 b, .int .i64 o, .int .i64 k] w (Yes w) := by
  refine calls_W (n := 113) (vs := [.int .u32 start, .int .i64 b, .int .i64 o, .int .i64 k]) Try.func4 rfl rfl rfl ?_
  apply W.readS LO mixed [0, 1, 2, 3] (by kernel_rfl)
  · repeat' (first | rfl | with_reducible assumption | assumption | constructor)
  intro w1 f1 s1 hf1
  replace hf1 : f1 = [(0, _), (1, _), (2, _), (3, _)] := hf1
  subst hf1
  obtain ⟨bn, hbn⟩ : ∃ bn : Nat, b % 50 = bn := ⟨(b % 50).toNat, by omega⟩
  obtain ⟨on, hon⟩ : ∃ on : Nat, 1 + o % 60 = on := ⟨(1 + o % 60).toNat, by omega⟩
  obtain ⟨kn, hkn⟩ : ∃ kn : Nat, 1 + k % 20 = kn := ⟨(1 + k % 20).toNat, by omega⟩
  have rb : bn < 50 := by omega
  have ro : 1 ≤ on ∧ on ≤ 60 := by omega
  have rk : 1 ≤ kn ∧ kn ≤ 20 := by omega
  have q1 := quiet_of (w := w1) fun w' s' => place00_says b 50 w' (by decide) (by decide) hb.1 hb.2
  have q2 := quiet_of (w := w1) fun w' s' => place00_says o 60 w' (by decide) (by decide) ho.1 ho.2
  have q3 := quiet_of (w := w1) fun w' s' => place00_says k 20 w' (by decide) (by decide) hk.1 hk.2
  rw [hbn] at q1
  have k1 : Kn (IntKind.i64.wrap (1 + o % 60)) (on : Int) := .of (by rw [hon]; exact IntWalk.i64_in _ (by omega))
  have k2 : Kn (IntKind.i64.wrap (1 + k % 20)) (kn : Int) := .of (by rw [hkn]; exact IntWalk.i64_in _ (by omega))
  apply W.readS LO mixed [0, 9, 10, 11] (by kernel_rfl)
  · repeat' (first | rfl | with_reducible assumption | assumption | constructor)
  intro w2 f2 s2 hf2
  replace hf2 : f2 = [(0, _), (9, _), (10, _), (11, _)] := hf2
  subst hf2
  have s2 := s1.trans s2
  clear q1 q2 q3 k1 k2 s1 hbn hon hkn hb ho hk
  -- the stream
  refine W.seq (W.list ?_)
  apply Ls.runK LO [0, 9, 10, 11, 23, 24] 2
  · repeat' (first | rfl | with_reducible assumption | assumption | constructor)
  intro w3 f3 s3 hf3
  replace hf3 : f3 = [(0, _), (9, _), (10, _), (11, _), (23, _), (24, _)] := hf3
  subst hf3
  refine Ls.call LO rfl rfl rfl rfl rfl (vs := [.int .u32 start, .int .i64 bn, .int .i64 0]) rfl (start_walk start bn 0 w3) ?_
  rintro _ w4 ⟨p, m, rfl, hD, hp, hm, hmv4⟩
  refine ⟨_, rfl, ?_⟩
  apply Ls.runK LO [0, 9, 10, 11, 12] 1
  · repeat' (first | rfl | with_reducible assumption | assumption | constructor)
  intro w5 f5 s5 hf5
  replace hf5 : f5 = [(0, _), (9, _), (10, _), (11, _), (12, _)] := hf5
  subst hf5
  refine Ls.nil (N.to ?_)
  have hD := hD.same s5
  have hmv : Mv (fun _ => False) w w5 := ((((Mv.refl _ w).same s2).same s3).trans hmv4).same s5
  have hp : w.heap.size ≤ p := by rw [s3.heap, s2.heap] at hp; exact hp
  have hm : w.heap.size ≤ m := by rw [s3.heap, s2.heap] at hm; exact hm
  clear hmv4 s5 s2 s3
  refine W.cutS (fun w' g => Same w5 w' ∧ g = [(0, .int .u32 start), (9, .int .i64 bn), (10, .int .i64 on), (11, .int .i64 kn), (12, .pointer (some ⟨p, 0, none⟩))]) ?_ ?_
  ·
    apply W.readS LO mixed [0, 9, 10, 11, 12, 27] (by kernel_rfl)
    · repeat' (first | rfl | with_reducible assumption | assumption | constructor)
    intro w4 f4 s4 hf4
    replace hf4 : f4 = [(0, _), (9, _), (10, _), (11, _), (12, _), (27, _)] := hf4
    subst hf4
    refine W.cond (b := false) rfl (fun h => by cases h) (fun _ => W.skip ?_)
    exact N.cut ⟨s4, rfl⟩ (sub_keys rfl)
  rintro w6 _ ⟨s6, rfl⟩
  have hD := hD.same s6
  have hmv := hmv.same s6
  clear s6
  -- the first push
  refine W.seq (W.list ?_)
  have k1 : Kn (IntKind.u32.wrap (on : Int)) (on : Int) := .of (by show (on : Int) % 4294967296 = on; omega)
  have k2 : Kn (IntKind.u32.wrap (start + (on : Int))) ((start + (on : Int)) % 4294967296) := .of rfl
  apply Ls.runK LO [0, 9, 10, 11, 12, 28, 32, 33] 6
  · repeat' (first | rfl | with_reducible assumption | assumption | constructor)
  intro w7 f7 s7 hf7
  replace hf7 : f7 = [(0, _), (9, _), (10, _), (11, _), (12, _), (28, _), (32, _), (33, _)] := hf7
  subst hf7
  have hD := hD.same s7
  have hmv := hmv.same s7
  refine Ls.zeros rfl rfl rfl rfl (k := kn) rfl rfl rfl rfl rfl (by omega) ?_
  intro w8 m8
  have hD := hD.moved m8 (fun e => e) (fun e => e)
  have hmv := hmv.trans m8
  clear s7 m8 k1 k2
  refine Ls.pushed (sq := (start + on) % 4294967296) (s := Go.Proofs.Ytieolnekccacbaa.zeros kn) (fin := false) rfl rfl rfl rfl rfl rfl rfl rfl rfl rfl rfl rfl rfl hD (new_can _ _ _ _ (by rw [size_zeros]; omega)) ?_
  intro w9 r hD9 hG9 hrp hrm hr hm9
  have hmv9 : Mv (fun _ => False) w w9 := hmv.cut hm9 fun i hi e => by rcases e with e | e <;> omega
  have hr : w.heap.size ≤ r := Nat.le_trans hmv.size hr
  clear hmv hD hm9
  refine Ls.nil (N.to ?_)
  obtain ⟨a0, a1, a2, a3⟩ := hG9.cls
  have kk : Kn (IntKind.i64.wrap ((on : Int) + kn)) ((on : Int) + kn) := .of (IntWalk.i64_in _ (by omega))
  by_cases hov : bn < on + kn
  · rw [buffers_over start hs bn on kn rb ro rk hov] at hD9 hG9 a0 a1 a2 a3
    have k1 : Kn (decide ((bn : Int) < (on : Int) + kn)) true := .yes (by omega)
    have q1 := quiet_of (w := w9) fun w' s' => at_says p m (DS.new start bn 0) w' (hD9.same s')
    refine W.cutS (fun w' g => Same w9 w' ∧ g = [(12, .pointer (some ⟨p, 0, none⟩)), (13, .pointer (some ⟨r, 0, none⟩))]) ?_ ?_
    ·
      apply W.readS LO mixed [12, 13, 60] (by kernel_rfl)
      · repeat' (first | rfl | with_reducible assumption | assumption | constructor)
      intro w4 f4 s4 hf4
      replace hf4 : f4 = [(12, _), (13, _), (60, _)] := hf4
      subst hf4
      refine W.cond (b := false) rfl (fun h => by cases h) (fun _ => W.skip ?_)
      exact N.cut ⟨s4, rfl⟩ (sub_keys rfl)
    rintro w10 _ ⟨s10, rfl⟩
    have hD9 := hD9.same s10
    have hmv9 := hmv9.same s10
    obtain ⟨a0, a1, a2, a3⟩ := (hG9.same s10).cls
    refine W.cutS (fun _ _ => False) ?_ (fun _ _ h => h.elim)
    apply W.readS LO mixed [12, 63] (by kernel_rfl)
    · repeat' (first | rfl | with_reducible assumption | assumption | constructor)
    intro w11 f11 s11 hf11
    replace hf11 : f11 = [(12, _), (63, _)] := hf11
    subst hf11
    refine W.cond (b := true) rfl (fun _ => ?_) (fun h => by cases h)
    have hD9 := hD9.same s11
    have hmv9 := hmv9.same s11
    refine W.seq (W.list ?_)
    have q2 := quiet_of (w := w11) fun w' s' => waits_says p m (DS.new start bn 0) w' (hD9.same s')
    apply Ls.runK LO [67] 4
    · repeat' (first | rfl | with_reducible assumption | assumption | constructor)
    intro w12 f12 s12 hf12
    replace hf12 : f12 = [(67, _)] := hf12
    subst hf12
    have hmv9 := hmv9.same s12
    refine Ls.call LO rfl rfl rfl rfl rfl (vs := []) rfl (awake_walk w12) ?_
    rintro _ w13 ⟨rfl, hm13⟩
    refine ⟨_, rfl, ?_⟩
    apply Ls.runK LO [8] 2
    · repeat' (first | rfl | with_reducible assumption | assumption | constructor)
    intro w14 f14 s14 hf14
    replace hf14 : f14 = [(8, _)] := hf14
    subst hf14
    refine Ls.nil (N.to (W.ret (post LO (rs := [.tmp 8]) rfl (vs := [.bool true]) (.tmp rfl .nil) ⟨rfl, (hmv9.trans hm13).same s14⟩)))
  · have hle : on + kn ≤ bn := by omega
    rw [buffers_held start hs bn on kn rb ro rk hle] at hD9 hG9 a0 a1 a2 a3
    have k1 : Kn (decide ((bn : Int) < (on : Int) + kn)) false := .no (by omega)
    have q1 := quiet_of (w := w9) fun w' s' => at_says p m (bd1 start bn on kn) w' (hD9.same s')
    refine W.cutS (fun w' g => Same w9 w' ∧ g = [(0, .int .u32 start), (10, .int .i64 on), (11, .int .i64 kn), (12, .pointer (some ⟨p, 0, none⟩)), (13, .pointer (some ⟨r, 0, none⟩))]) ?_ ?_
    ·
      apply W.readS LO mixed [0, 10, 11, 12, 13, 60] (by kernel_rfl)
      · repeat' (first | rfl | with_reducible assumption | assumption | constructor)
      intro w4 f4 s4 hf4
      replace hf4 : f4 = [(0, _), (10, _), (11, _), (12, _), (13, _), (60, _)] := hf4
      subst hf4
      refine W.cond (b := false) rfl (fun h => by cases h) (fun _ => W.skip ?_)
      exact N.cut ⟨s4, rfl⟩ (sub_keys rfl)
    rintro w10 _ ⟨s10, rfl⟩
    have hD9 := hD9.same s10
    have hmv9 := hmv9.same s10
    obtain ⟨a0, a1, a2, a3⟩ := (hG9.same s10).cls
    clear q1 k1 kk s10 hG9
    refine W.cutS (fun w' g => Same w10 w' ∧ g = [(0, .int .u32 start), (10, .int .i64 on), (11, .int .i64 kn), (12, .pointer (some ⟨p, 0, none⟩))]) ?_ ?_
    ·
      apply W.readS LO mixed [0, 10, 11, 12, 63] (by kernel_rfl)
      · repeat' (first | rfl | with_reducible assumption | assumption | constructor)
      intro w4 f4 s4 hf4
      replace hf4 : f4 = [(0, _), (10, _), (11, _), (12, _), (63, _)] := hf4
      subst hf4
      refine W.cond (b := false) rfl (fun h => by cases h) (fun _ => W.skip ?_)
      exact N.cut ⟨s4, rfl⟩ (sub_keys rfl)
    rintro w11 _ ⟨s11, rfl⟩
    have hD9 := hD9.same s11
    have hmv9 := hmv9.same s11
    clear a0 a1 a2 a3 s11
    have q1 := quiet_of (w := w11) fun w' s' => waits_says p m (bd1 start bn on kn) w' (hD9.same s')
    have hl1 : ((bd1 start bn on kn).held.length : Int) = kn := by show ((held1 on kn).length : Int) = kn; rw [held1_len]
    rw [hl1] at q1
    have k1 : Kn ((kn : Int) != kn) false := .of (bne_self_eq_false _)
    refine W.cutS (fun w' g => Same w11 w' ∧ g = [(0, .int .u32 start), (10, .int .i64 on), (11, .int .i64 kn), (12, .pointer (some ⟨p, 0, none⟩))]) ?_ ?_
    ·
      apply W.readS LO mixed [0, 10, 11, 12, 73] (by kernel_rfl)
      · repeat' (first | rfl | with_reducible assumption | assumption | constructor)
      intro w4 f4 s4 hf4
      replace hf4 : f4 = [(0, _), (10, _), (11, _), (12, _), (73, _)] := hf4
      subst hf4
      refine W.cond (b := false) rfl (fun h => by cases h) (fun _ => W.skip ?_)
      exact N.cut ⟨s4, rfl⟩ (sub_keys rfl)
    rintro w12 _ ⟨s12, rfl⟩
    have hD9 := hD9.same s12
    have hmv9 := hmv9.same s12
    clear q1 k1 s12
    refine W.seq (W.list ?_)
    apply Ls.runK LO [0, 10, 11, 12, 74, 75, 76] 3
    · repeat' (first | rfl | with_reducible assumption | assumption | constructor)
    intro w13 f13 s13 hf13
    replace hf13 : f13 = [(0, _), (10, _), (11, _), (12, _), (74, _), (75, _), (76, _)] := hf13
    subst hf13
    have hD9 := hD9.same s13
    have hmv9 := hmv9.same s13
    refine Ls.zeros rfl rfl rfl rfl (k := on) rfl rfl rfl rfl rfl (by omega) ?_
    intro w14 m14
    have hD9 := hD9.moved m14 (fun e => e) (fun e => e)
    have hmv9 := hmv9.trans m14
    clear s13 m14
    have hcan : Can (bd1 start bn on kn) (Go.Proofs.Ytieolnekccacbaa.zeros on).size := by
      rw [size_zeros]
      refine ⟨Int.le_refl 0, by show (0 : Int) ≤ _; decide, by show (-1 : Int) ≤ -1; decide, by show (-1 : Int) ≤ _; decide, by omega, by show 0 ≤ max 0 (min (bn : Int) 1024); omega, by show max 0 (min (bn : Int) 1024) ≤ 1024; omega, ⟨?_, Int.le_refl 0, by show (0 : Int) ≤ 1024; decide, by show ((0 : Nat) : Int) = min 0 0; decide⟩⟩
      show (held1 on kn).length + on ≤ _
      rw [held1_len]; omega
    obtain ⟨s, hsz, hpu⟩ := buffers_new start hs bn on kn rb ro rk hle
    refine Ls.pushed (sq := start) (s := Go.Proofs.Ytieolnekccacbaa.zeros on) (fin := false) rfl rfl rfl rfl rfl rfl rfl rfl rfl rfl rfl rfl rfl hD9 hcan ?_
    rw [hpu]
    intro w15 r2 hD15 hG15 hrp15 hrm15 hr15 hm15
    have hmv15 : Mv (fun _ => False) w w15 := hmv9.cut hm15 fun i hi e => by rcases e with e | e <;> omega
    clear hmv9 hD9 hm15
    refine Ls.nil (N.to ?_)
    obtain ⟨a0, a1, a2, a3⟩ := hG15.cls
    refine W.seq (W.list ?_)
    have hss : ((s.size : Nat) : Int) = (on : Int) + kn := by omega
    have kk : Kn (IntKind.i64.wrap ((on : Int) + kn)) ((on : Int) + kn) := .of (IntWalk.i64_in _ (by omega))
    have k1 : Kn (((s.size : Nat) : Int) == (on : Int) + kn) true := .of (by rw [hss]; exact beq_self_eq_true _)
    have k2 : Kn (((on + kn : Nat) : Int) == (on : Int) + kn) true := .of (by rw [show ((on + kn : Nat) : Int) = (on : Int) + kn by omega]; exact beq_self_eq_true _)
    have q1 := quiet_of (w := w15) fun w' s' => waits_says p m (bd2 start bn on kn) w' (hD15.same s')
    have q2 := quiet_of (w := w15) fun w' s' => at_says p m (bd2 start bn on kn) w' (hD15.same s')
    apply Ls.runK LO [110] 31
    · repeat' (first | rfl | with_reducible assumption | assumption | constructor)
    intro w16 f16 s16 hf16
    replace hf16 : f16 = [(110, _)] := hf16
    subst hf16
    have hmv15 := hmv15.same s16
    refine Ls.call LO rfl rfl rfl rfl rfl (vs := []) rfl (awake_walk w16) ?_
    rintro _ w17 ⟨rfl, hm17⟩
    refine ⟨_, rfl, ?_⟩
    apply Ls.runK LO [8] 2
    · repeat' (first | rfl | with_reducible assumption | assumption | constructor)
    intro w18 f18 s18 hf18
    replace hf18 : f18 = [(8, _)] := hf18
    subst hf18
    refine Ls.nil (N.to (W.ret (post LO (rs := [.tmp 8]) rfl (vs := [.bool true]) (.tmp rfl .nil) ⟨rfl, (hmv15.trans hm17).same s18⟩)))
theorem buffers_law (start b o k : Int) (w : World) (h0 : (Lit.int .u32 start).wf = true) (h1 : (Lit.int .i64 b).wf = true) (h2 : (Lit.int .i64 o).wf = true) (h3 : (Lit.int .i64 k).wf = true) :
    Calls Try.prog 4 #[.int .u32 start, .int .i64 b, .int .i64 o, .int .i64 k] w (Yes w) :=
  buffers_walk start b o k w (by have := bounds_u32 h0; omega) (bounds_i64 h1) (bounds_i64 h2) (bounds_i64 h3)
end Go.Proofs.Ytieolnekccacbaa
