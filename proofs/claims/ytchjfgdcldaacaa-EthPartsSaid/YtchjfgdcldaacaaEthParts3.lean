/- What is proved: a frame's bytes stand in their places: the law. Conditions: those that stand in each theorem. -/
import Derived.Test.YtchjfgdcldaacaaEthParts2
namespace Go.Proofs.Ytchjfgdcldaacaa
set_option linter.unusedVariables false
set_option linter.unusedSimpArgs false
set_option linter.unusedSectionVars false
open Go.RowKit Fw Nt
def hh : EthV := ⟨⟨#[10, 11, 12, 13, 14, 15]⟩, ⟨#[20, 21, 22, 23, 24, 25]⟩, 2048⟩
theorem hh_ok : hh.Ok := ⟨rfl, rfl⟩
def HC (i : Nat) : List Value := ((List.range 6).map fun j : Nat => Value.int .u8 (if j < i then 10 + (j : Int) else 0)) ++ (((List.range 6).map fun j : Nat => Value.int .u8 (if j < i then 20 + (j : Int) else 0)) ++ [.int .i64 2048])
theorem HC_len (i : Nat) : (HC i).length = 13 := rfl
theorem HC_all : HC 6 = hh.cs := rfl
theorem HC_step (i : Nat) (hi : i < 6) : wr (wr (HC i) i [.int .u8 (10 + (i : Int))]) (6 + i) [.int .u8 (20 + (i : Int))] = HC (i + 1) := by
  match i, hi with
  | 0, _ => rfl
  | 1, _ => rfl
  | 2, _ => rfl
  | 3, _ => rfl
  | 4, _ => rfl
  | 5, _ => rfl
theorem u8k {x : Int} (h : 0 ≤ x ∧ x ≤ 255) : Kn (IntKind.u8.wrap x) x := .of (by rw [IntKind.wrap_u8]; omega)
theorem bnek {a b : Int} : Kn (a != b) (decide (a ≠ b)) := .of (by by_cases h : a = b <;> simp [h])
theorem beqk {a b : Int} : Kn (a == b) (decide (a = b)) := .of (by by_cases h : a = b <;> simp [h])
set_option maxRecDepth 100000 in
set_option maxHeartbeats 8000000 in
theorem parts_walk (at_ y : Int) (body : ByteArray) (w : World) (ha : -9223372036854775808 ≤ at_ ∧ at_ ≤ 9223372036854775807) (hy : 0 ≤ y ∧ y ≤ 255) : Calls Try.prog 9 #[.int .i64 at_, .int .u8 y, .string body] w (Yes w) := by
  refine calls_W (n := 127) (vs := [.int .i64 at_, .int .u8 y, .string body]) Try.func9 rfl rfl rfl ?_
  have fin : ∀ w' f, Mv (fun _ => False) w w' → fget f 6 = some (.bool true) → N 127 f w' (bodyPost Try.prog Try.f9 (Yes w)) .ret := fun w' f m hf =>
    post LO (rs := [.tmp 6]) rfl (vs := [.bool true]) (.tmp hf .nil) ⟨rfl, m⟩
  apply W.readS LO mixed [0, 1, 2] (by kernel_rfl)
  · repeat' (first | rfl | with_reducible assumption | assumption | constructor)
  intro w1 f1 s1 hf1
  replace hf1 : f1 = [(0, _), (1, _), (2, _)] := hf1
  subst hf1
  have m1 : Mv (fun _ => False) w w1 := (Mv.refl _ w).same s1
  clear s1
  refine W.cutS (fun w' g => (Mv (fun _ => False) w w' ∧ g = [(0, .int .i64 at_), (1, .int .u8 y), (2, .string body)]) ∧ body.size ≤ 500) ?_ ?_
  · by_cases h : 500 < body.size
    · have k1 : Kn (decide (500 < (body.size : Int))) true := .yes (by omega)
      apply W.readS LO mixed [17] (by kernel_rfl)
      · repeat' (first | rfl | with_reducible assumption | assumption | constructor)
      intro w2 f2 s2 hf2
      replace hf2 : f2 = [(17, _)] := hf2
      subst hf2
      refine W.cond (b := true) rfl (fun _ => ?_) (fun h => by cases h)
      refine W.seq (W.list ?_)
      refine Ls.call LO rfl rfl rfl rfl rfl (vs := []) rfl (awake2_walk w2) ?_
      rintro _ w3 ⟨rfl, m3⟩
      refine ⟨_, rfl, ?_⟩
      apply Ls.runK LO [6] 1
      · repeat' (first | rfl | with_reducible assumption | assumption | constructor)
      intro w4 f4 s4 hf4
      replace hf4 : f4 = [(6, _)] := hf4
      subst hf4
      exact Ls.nil (N.to (W.ret (N.thenR (fin _ _ (((m1.same s2).trans m3).same s4) rfl))))
    · have k1 : Kn (decide (500 < (body.size : Int))) false := .no (by omega)
      apply W.readS LO mixed [0, 1, 2, 17] (by kernel_rfl)
      · repeat' (first | rfl | with_reducible assumption | assumption | constructor)
      intro w2 f2 s2 hf2
      replace hf2 : f2 = [(0, _), (1, _), (2, _), (17, _)] := hf2
      subst hf2
      refine W.cond (b := false) rfl (fun h => by cases h) (fun _ => W.skip ?_)
      exact N.cut ⟨⟨m1.same s2, rfl⟩, by omega⟩ (sub_keys rfl)
  clear m1
  rintro w2 _ ⟨⟨m2, rfl⟩, hbs⟩
  refine W.seq (W.list ?_)
  apply Ls.runK LO [0, 1, 2, 19] 1
  · repeat' (first | rfl | with_reducible assumption | assumption | constructor)
  intro w3 f3 s3 hf3
  replace hf3 : f3 = [(0, _), (1, _), (2, _), (19, _)] := hf3
  subst hf3
  have m3 := m2.same s3
  refine Ls.alloc LO rfl rfl rfl rfl (zs := E0.cs) rfl ?_
  have hb4 : BX (w3.alloc (.cells E0.cs.toArray 26)) w3.heap.size 26 E0.cs := heap_alloc_new w3 (.cells E0.cs.toArray 26)
  have m4 : Mv (fun _ => False) w3 (w3.alloc (.cells E0.cs.toArray 26)) := (Mv.refl _ w3).alloc _
  generalize w3.alloc (.cells E0.cs.toArray 26) = w4 at hb4 m4
  obtain ⟨p, hp⟩ : ∃ p, p = w3.heap.size := ⟨_, rfl⟩
  rw [← hp] at hb4
  rw [← hp]
  have hwp : w.heap.size ≤ p := by have := m3.size; omega
  refine Ls.store LO rfl rfl rfl rfl rfl (vs := HC 0) rfl rfl rfl hb4 rfl ?_
  intro w5 hb5 m5 _
  have hb5 : BX w5 p 26 (HC 0) := hb5
  have m5 : Mv (fun _ => False) w w5 := m3.trans (m4.cut m5 fun k hk e => by omega)
  refine Ls.nil (N.to ?_)
  clear m2 m3 m4 s3 hb4 hp
  refine W.cutS (fun w' g => (Mv (fun _ => False) w w' ∧ BX w' p 26 hh.cs) ∧ g = [(0, .int .i64 at_), (1, .int .u8 y), (2, .string body), (7, .pointer (some ⟨p, 0, none⟩))]) ?_ ?_
  ·
    apply W.readS LO mixed [0, 1, 2, 7, 8] (by kernel_rfl)
    · repeat' (first | rfl | with_reducible assumption | assumption | constructor)
    intro w6 f6 s6 hf6
    replace hf6 : f6 = [(0, _), (1, _), (2, _), (7, _), (8, _)] := hf6
    subst hf6
    refine W.block (W.loop (fun k w' g => ∃ i : Nat, k + i = 6 ∧ (Mv (fun _ => False) w w' ∧ BX w' p 26 (HC i)) ∧ g = [(0, .int .i64 at_), (1, .int .u8 y), (2, .string body), (7, .pointer (some ⟨p, 0, none⟩)), (8, .int .i64 i)]) 6 _ ⟨0, rfl, ⟨m5.same s6, hb5.same s6⟩, rfl⟩ (sub_keys rfl) ?_)
    clear m5 hb5 s6
    rintro k w7 _ ⟨i, hk, ⟨m7, hb7⟩, rfl⟩
    by_cases hlt : i < 6
    · have k1 : Kn (decide ((i : Int) < 6)) true := .yes (by omega)
      refine W.seq ?_
      apply W.readS LO mixed [0, 1, 2, 7, 8, 21] (by kernel_rfl)
      · repeat' (first | rfl | with_reducible assumption | assumption | constructor)
      intro w8 f8 s8 hf8
      replace hf8 : f8 = [(0, _), (1, _), (2, _), (7, _), (8, _), (21, _)] := hf8
      subst hf8
      have m8 := m7.same s8
      have hb8 := hb7.same s8
      clear m7 hb7 s8
      refine W.cond (b := true) rfl (fun _ => W.skip (N.to ?_)) (fun h => by cases h)
      refine W.cutS (fun w' g => (Mv (fun _ => False) w w' ∧ BX w' p 26 (HC (i + 1))) ∧ g = [(0, .int .i64 at_), (1, .int .u8 y), (2, .string body), (7, .pointer (some ⟨p, 0, none⟩)), (8, .int .i64 i)]) ?_ ?_
      · refine W.block (W.list ?_)
        have k2 : Kn (IntKind.i64.wrap (10 + (i : Int))) (10 + (i : Int)) := i64k (by omega)
        have k3 : Kn (IntKind.i64.wrap (20 + (i : Int))) (20 + (i : Int)) := i64k (by omega)
        have k4 : Kn (IntKind.u8.wrap (10 + (i : Int))) (10 + (i : Int)) := u8k (by omega)
        have k5 : Kn (IntKind.u8.wrap (20 + (i : Int))) (20 + (i : Int)) := u8k (by omega)
        have i0 : (0 : Int) ≤ (i : Int) := by omega
        have i1 : (i : Int) < ((6 : Nat) : Int) := by omega
        apply Ls.runK LO [0, 1, 2, 7, 8, 25, 28, 31, 33] 10
        · repeat' (first | rfl | with_reducible assumption | assumption | constructor)
        intro w9 f9 s9 hf9
        replace hf9 : f9 = [(0, _), (1, _), (2, _), (7, _), (8, _), (25, _), (28, _), (31, _), (33, _)] := hf9
        subst hf9
        refine Ls.store LO rfl rfl rfl rfl rfl (vs := [.int .u8 (10 + (i : Int))]) rfl rfl rfl (hb8.same s9) (Nat.ble_eq_true_of_le (by rw [HC_len]; simp only [List.length_singleton]; omega)) ?_
        intro w10 hb10 m10 _
        have hb10 : BX w10 p 26 (wr (HC i) i [.int .u8 (10 + (i : Int))]) := by
          rw [show 0 + 0 + (i : Int).toNat * 1 = i by omega] at hb10; exact hb10
        have hl10 : (wr (HC i) i [Value.int .u8 (10 + (i : Int))]).length = 13 := by
          rw [wr_one _ _ _ (by rw [HC_len]; omega), List.length_set, HC_len]
        apply Ls.runK LO [0, 1, 2, 7, 8, 31, 35] 2
        · repeat' (first | rfl | with_reducible assumption | assumption | constructor)
        intro w11 f11 s11 hf11
        replace hf11 : f11 = [(0, _), (1, _), (2, _), (7, _), (8, _), (31, _), (35, _)] := hf11
        subst hf11
        refine Ls.store LO rfl rfl rfl rfl rfl (vs := [.int .u8 (20 + (i : Int))]) rfl rfl rfl (hb10.same s11) (Nat.ble_eq_true_of_le (by rw [hl10]; simp only [List.length_singleton]; omega)) ?_
        intro w12 hb12 m12 _
        have hb12 : BX w12 p 26 (HC (i + 1)) := by
          rw [show 0 + 6 + (i : Int).toNat * 1 = 6 + i by omega, HC_step i hlt] at hb12; exact hb12
        have mp : Mv (· = p) w8 w12 := ((((Mv.refl _ w8).same s9).trans m10).same s11).trans m12
        exact Ls.nil (N.inb (N.cut ⟨⟨m8.cut mp fun k hk e => by omega, hb12⟩, rfl⟩ (sub_keys rfl)))
      · rintro w9 _ ⟨⟨m9, hb9⟩, rfl⟩
        have k9 : Kn (IntKind.i64.wrap ((i : Int) + 1)) ((i + 1 : Nat) : Int) := i64k (by omega)
        apply W.readN LO mixed [0, 1, 2, 7, 8] (by kernel_rfl)
        · repeat' (first | rfl | with_reducible assumption | assumption | constructor)
        intro w10 f10 s10 hf10
        replace hf10 : f10 = [(0, _), (1, _), (2, _), (7, _), (8, _)] := hf10
        subst hf10
        exact N.round (k - 1) _ (by omega) ⟨i + 1, by omega, ⟨m9.same s10, hb9.same s10⟩, rfl⟩ (sub_keys rfl)
    · have k1 : Kn (decide ((i : Int) < 6)) false := .no (by omega)
      refine W.seq ?_
      apply W.readS LO mixed [0, 1, 2, 7, 21] (by kernel_rfl)
      · repeat' (first | rfl | with_reducible assumption | assumption | constructor)
      intro w8 f8 s8 hf8
      replace hf8 : f8 = [(0, _), (1, _), (2, _), (7, _), (21, _)] := hf8
      subst hf8
      refine W.cond (b := false) rfl (fun h => by cases h) (fun _ => W.exit ?_)
      obtain rfl : i = 6 := by omega
      rw [HC_all] at hb7
      exact N.thenE (N.thenE (N.out (N.cut ⟨⟨m7.same s8, hb7.same s8⟩, rfl⟩ (sub_keys rfl))))
  clear m5 hb5
  rintro w6 _ ⟨⟨m6, hb6⟩, rfl⟩
  -- the frame's bytes
  obtain ⟨t, ht⟩ : ∃ t, t = putE hh body := ⟨_, rfl⟩
  have hts : t.size = 14 + body.size := by rw [ht]; exact put_size hh body hh_ok
  refine W.seq (W.list ?_)
  have hcell : CellsAt w6 p 0 13 hh.cs := by have := hb6.cells; rwa [hh_ok.len] at this
  apply Ls.runK LO [0, 1, 2, 7, 36, 37] 2
  · repeat' (first | rfl | with_reducible assumption | assumption | constructor)
  intro w7 f7 s7 hf7
  replace hf7 : f7 = [(0, _), (1, _), (2, _), (7, _), (36, _), (37, _)] := hf7
  subst hf7
  have m7 := m6.same s7
  refine Ls.call LO rfl rfl rfl rfl rfl (vs := [.agg hh.cs.toArray, .string body]) rfl (eput_walk hh body w7 hh_ok (by omega)) ?_
  rintro _ w8 ⟨rfl, m8'⟩
  rw [← ht]
  refine ⟨_, rfl, ?_⟩
  have hb8 := (hb6.same s7).moved m8' fun e => e
  have m8 := m7.trans m8'
  refine Ls.convB rfl rfl rfl rfl rfl und_str info_sl8 und_u8 ?_
  intro w9 c hg9 m9' _
  obtain ⟨b, hb⟩ : ∃ b, b = w8.heap.size := ⟨_, rfl⟩
  rw [← hb] at hg9
  rw [← hb]
  have hpb : p < b := by have := hb8.lt; omega
  have hb9 := hb8.moved m9' fun e => e
  have m9 := m8.trans m9'
  apply Ls.runK LO [0, 1, 2, 7, 9] 1
  · repeat' (first | rfl | with_reducible assumption | assumption | constructor)
  intro w10 f10 s10 hf10
  replace hf10 : f10 = [(0, _), (1, _), (2, _), (7, _), (9, _)] := hf10
  subst hf10
  refine Ls.nil (N.to ?_)
  have m10 := m9.same s10
  have hb10 := hb9.same s10
  have hg10 := hg9.same s10
  clear hcell m6 hb6 s7 m7 m8 m8' hb8 m9 m9' hb9 hg9 s10 hb
  refine W.cutS (fun w' g => (Mv (fun _ => False) w w' ∧ BX w' p 26 hh.cs ∧ BytesAt w' b t) ∧ g = [(0, .int .i64 at_), (1, .int .u8 y), (2, .string body), (7, .pointer (some ⟨p, 0, none⟩)), (9, .slice (some ⟨b, 0, none⟩) t.size c)]) ?_ ?_
  · have k1 : Kn (IntKind.i64.wrap (14 + (body.size : Int))) (t.size : Int) := .of (by rw [show 14 + (body.size : Int) = (t.size : Int) by omega]; exact IntWalk.i64_in _ (by omega))
    have k2 : Kn ((t.size : Int) != (t.size : Int)) false := .of (by simp)
    apply W.readS LO mixed [0, 1, 2, 7, 9, 45] (by kernel_rfl)
    · repeat' (first | rfl | with_reducible assumption | assumption | constructor)
    intro w11 f11 s11 hf11
    replace hf11 : f11 = [(0, _), (1, _), (2, _), (7, _), (9, _), (45, _)] := hf11
    subst hf11
    refine W.cond (b := false) rfl (fun h => by cases h) (fun _ => W.skip ?_)
    exact N.cut ⟨⟨m10.same s11, hb10.same s11, hg10.same s11⟩, rfl⟩ (sub_keys rfl)
  clear m10 hb10 hg10
  rintro w3 _ ⟨⟨m3, hb3, hg3⟩, rfl⟩
  obtain ⟨kn, hkn⟩ : ∃ kn : Nat, (kn : Int) = at_ % 14 := ⟨(at_ % 14).toNat, by omega⟩
  have hk14 : kn < 14 := by omega
  have q1 := quiet_of (w := w3) fun w' s' => place00_says at_ 14 w' (by decide) (by decide) ha.1 ha.2
  rw [← hkn] at q1
  apply W.readS LO mixed [1, 2, 7, 9, 10] (by kernel_rfl)
  · repeat' (first | rfl | with_reducible assumption | assumption | constructor)
  intro w4 f4 s4 hf4
  replace hf4 : f4 = [(1, _), (2, _), (7, _), (9, _), (10, _)] := hf4
  subst hf4
  have m4 := m3.same s4
  have hb4 := hb3.same s4
  have hg4 := hg3.same s4
  clear q1 m3 hb3 hg3 s4 hkn
  -- a byte turned
  have hbr := bt_range t (kn : Int)
  have hxr := (xor_byte (bt t (kn : Int)) y hbr hy).1
  have T := turned hh hh_ok (by decide) body hbs kn hk14 y hy
  rw [← ht] at T
  obtain ⟨v, hv⟩ : ∃ v, v = bits .xor .u8 (bt t (kn : Int)) y := ⟨_, rfl⟩
  rw [← hv] at T hxr
  have kv : Kn (bits .xor .u8 (bt t (kn : Int)) y) v := .of hv.symm
  refine W.seq (W.list ?_)
  have i0 : (0 : Int) ≤ (kn : Int) := by omega
  have i1 : (kn : Int) < (t.size : Int) := by omega
  have cx : Cl w4 ⟨b, 0 + (kn : Int).toNat * 1, none⟩ (.int .u8 (bt t (kn : Int))) := ⟨by
    have := hg4.cell (j := kn) (by omega)
    rw [show 0 + (kn : Int).toNat * 1 = kn by omega]
    exact this⟩
  apply Ls.runK LO [1, 2, 7, 9, 10, 55, 56] 9
  · repeat' (first | rfl | with_reducible assumption | assumption | constructor)
  intro w5 f5 s5 hf5
  replace hf5 : f5 = [(1, _), (2, _), (7, _), (9, _), (10, _), (55, _), (56, _)] := hf5
  subst hf5
  refine Ls.storeB LO rfl rfl rfl rfl rfl rfl (hg4.same s5) (by omega) hxr.1 hxr.2 ?_
  intro w6 hg6 m6 _
  rw [show 0 + (kn : Int).toNat * 1 = kn by omega] at hg6
  obtain ⟨u, hu⟩ : ∃ u, u = bset t kn v := ⟨_, rfl⟩
  have hus : u.size = t.size := by rw [hu, bset_size]
  rw [← hu] at hg6 T
  have hwb : w.heap.size ≤ b := by omega
  have hb6 := (hb4.same s5).moved m6 (by omega)
  have m6 : Mv (fun _ => False) w w6 := (m4.same s5).cut m6 fun k hk e => by omega
  refine Ls.nil (N.to ?_)
  clear cx kv m4 hb4 hg4 s5 hbr hxr
  -- got again
  refine W.seq (W.list ?_)
  have cv := BytesAt.back (c := c) hg6 info_sl8 und_u8 und_str
  rw [hus] at cv
  apply Ls.runK LO [1, 2, 7, 10, 59] 2
  · repeat' (first | rfl | with_reducible assumption | assumption | constructor)
  intro w7 f7 s7 hf7
  replace hf7 : f7 = [(1, _), (2, _), (7, _), (10, _), (59, _)] := hf7
  subst hf7
  have m7 := m6.same s7
  refine Ls.call LO rfl rfl rfl rfl rfl (vs := [.string u]) rfl (eget_walk u w7 (by omega)) ?_
  rintro _ w8 ⟨rfl, m8'⟩
  refine ⟨_, rfl, ?_⟩
  have hb8 := (hb6.same s7).moved m8' fun e => e
  have m8 := m7.trans m8'
  have hrok := getE_ok u
  obtain ⟨r, hr⟩ : ∃ r, r = getE u := ⟨_, rfl⟩
  rw [← hr] at T hrok
  rw [← hr]
  obtain ⟨r1, r2, r3⟩ := r
  obtain ⟨rfl, rfl, Td, Ts, Tt⟩ := T
  clear hr
  apply Ls.runK LO [1, 2, 7, 10, 61, 62, 63] 4
  · repeat' (first | rfl | with_reducible assumption | assumption | constructor)
  intro w9 f9 s9 hf9
  replace hf9 : f9 = [(1, _), (2, _), (7, _), (10, _), (61, _), (62, _), (63, _)] := hf9
  subst hf9
  have m9 := m8.same s9
  have hb9 := hb8.same s9
  refine Ls.alloc LO rfl rfl rfl rfl (zs := E0.cs) rfl ?_
  have hq10 : BX (w9.alloc (.cells E0.cs.toArray 26)) w9.heap.size 26 E0.cs := heap_alloc_new w9 (.cells E0.cs.toArray 26)
  have m10 : Mv (fun _ => False) w9 (w9.alloc (.cells E0.cs.toArray 26)) := (Mv.refl _ w9).alloc _
  generalize w9.alloc (.cells E0.cs.toArray 26) = w10 at hq10 m10
  obtain ⟨q, hq⟩ : ∃ q, q = w9.heap.size := ⟨_, rfl⟩
  rw [← hq] at hq10
  rw [← hq]
  refine Ls.store LO rfl rfl rfl rfl rfl (vs := r1.cs) rfl (by rw [hrok.len]; rfl) (EthV.one r1) hq10 (by rw [hrok.len]; rfl) ?_
  intro w11 hq11 m11 _
  have hq11 : BX w11 q 26 r1.cs := by
    have e : wr E0.cs 0 r1.cs = r1.cs := by
      have := wr_mid [] E0.cs [] r1.cs (k := 0) rfl (by rw [hrok.len]; rfl)
      simpa using this
    rw [e] at hq11
    exact hq11
  have m911 : Mv (fun _ => False) w9 w11 := m10.cut m11 fun k hk e => by omega
  have hb11 := hb9.moved m911 fun e => e
  have m11 := m9.trans m911
  apply Ls.runK LO [1, 2, 7, 10, 11, 12, 13] 2
  · repeat' (first | rfl | with_reducible assumption | assumption | constructor)
  intro w12 f12 s12 hf12
  replace hf12 : f12 = [(1, _), (2, _), (7, _), (10, _), (11, _), (12, _), (13, _)] := hf12
  subst hf12
  refine Ls.nil (N.to ?_)
  have m12 := m11.same s12
  have hb12 := hb11.same s12
  have hq12 := hq11.same s12
  clear cv m6 hb6 hg6 s7 m7 m8 m8' hb8 s9 m9 hb9 hq10 m10 hq hq11 m911 hb11 m11 s12
  refine W.cutS (fun w' g => (Mv (fun _ => False) w w' ∧ BX w' p 26 hh.cs ∧ BX w' q 26 r1.cs) ∧ g = [(1, .int .u8 y), (7, .pointer (some ⟨p, 0, none⟩)), (10, .int .i64 kn), (11, .pointer (some ⟨q, 0, none⟩))]) ?_ ?_
  · have k1 : Kn (r2.toList == r2.toList) true := .of (beq_self_eq_true _)
    apply W.readS LO mixed [1, 7, 10, 11, 70] (by kernel_rfl)
    · repeat' (first | rfl | with_reducible assumption | assumption | constructor)
    intro w13 f13 s13 hf13
    replace hf13 : f13 = [(1, _), (7, _), (10, _), (11, _), (70, _)] := hf13
    subst hf13
    refine W.cond (b := false) rfl (fun h => by cases h) (fun _ => W.skip ?_)
    exact N.cut ⟨⟨m12.same s13, hb12.same s13, hq12.same s13⟩, rfl⟩ (sub_keys rfl)
  clear m12 hb12 hq12
  rintro w3 _ ⟨⟨m3, hb3, hq3⟩, rfl⟩
  obtain ⟨c3, hc3⟩ : ∃ c3, c3 = decide (y = 0) := ⟨_, rfl⟩
  rw [← hc3] at Tt
  have kc3 : Kn (y == 0) c3 := by rw [hc3]; exact beqk
  refine W.cutS (fun w' g => (Mv (fun _ => False) w w' ∧ BX w' p 26 hh.cs ∧ BX w' q 26 r1.cs) ∧ g = [(1, .int .u8 y), (7, .pointer (some ⟨p, 0, none⟩)), (10, .int .i64 kn), (11, .pointer (some ⟨q, 0, none⟩))]) ?_ ?_
  ·
    apply W.readS LO mixed [1, 7, 10, 11, 14] (by kernel_rfl)
    · repeat' (first | rfl | with_reducible assumption | assumption | constructor)
    intro w4 f4 s4 hf4
    replace hf4 : f4 = [(1, _), (7, _), (10, _), (11, _), (14, _)] := hf4
    subst hf4
    refine W.block (W.loop (fun k w' g => ∃ i : Nat, k + i = 6 ∧ (Mv (fun _ => False) w w' ∧ BX w' p 26 hh.cs ∧ BX w' q 26 r1.cs) ∧ g = [(1, .int .u8 y), (7, .pointer (some ⟨p, 0, none⟩)), (10, .int .i64 kn), (11, .pointer (some ⟨q, 0, none⟩)), (14, .int .i64 i)]) 6 _ ⟨0, rfl, ⟨m3.same s4, hb3.same s4, hq3.same s4⟩, rfl⟩ (sub_keys rfl) ?_)
    clear m3 hb3 hq3 s4
    rintro k w5 _ ⟨i, hk, ⟨m5, hb5, hq5⟩, rfl⟩
    by_cases hlt : i < 6
    · have k1 : Kn (decide ((i : Int) < 6)) true := .yes (by omega)
      refine W.seq ?_
      apply W.readS LO mixed [1, 7, 10, 11, 14, 72] (by kernel_rfl)
      · repeat' (first | rfl | with_reducible assumption | assumption | constructor)
      intro w6 f6 s6 hf6
      replace hf6 : f6 = [(1, _), (7, _), (10, _), (11, _), (14, _), (72, _)] := hf6
      subst hf6
      have m6 := m5.same s6
      have hb6 := hb5.same s6
      have hq6 := hq5.same s6
      clear m5 hb5 hq5 s6
      refine W.cond (b := true) rfl (fun _ => W.skip (N.to ?_)) (fun h => by cases h)
      refine W.cutS (fun w' g => (Mv (fun _ => False) w w' ∧ BX w' p 26 hh.cs ∧ BX w' q 26 r1.cs) ∧ g = [(1, .int .u8 y), (7, .pointer (some ⟨p, 0, none⟩)), (10, .int .i64 kn), (11, .pointer (some ⟨q, 0, none⟩)), (14, .int .i64 i)]) ?_ ?_
      · refine W.block ?_
        have Tdi := Td i hlt
        have Tsi := Ts i hlt
        rw [← hc3] at Tdi Tsi
        obtain ⟨c2, hc2⟩ : ∃ c2, c2 = decide (kn ≠ i) := ⟨_, rfl⟩
        obtain ⟨c4, hc4⟩ : ∃ c4, c4 = decide (kn ≠ 6 + i) := ⟨_, rfl⟩
        rw [← hc2] at Tdi
        rw [← hc4] at Tsi
        have a1 : Kn (bt r1.d (i : Int) == bt hh.d (i : Int)) (c2 || c3) := .of Tdi
        have a2 : Kn (bt r1.s (i : Int) == bt hh.s (i : Int)) (c4 || c3) := .of Tsi
        have a3 : Kn ((kn : Int) != (i : Int)) c2 := .of (by rw [hc2]; by_cases e : kn = i <;> simp [e]; omega)
        have a4 : Kn ((kn : Int) != 6 + (i : Int)) c4 := .of (by rw [hc4]; by_cases e : kn = 6 + i <;> simp [e]; omega)
        have a5 : Kn (IntKind.i64.wrap (6 + (i : Int))) (6 + (i : Int)) := i64k (by omega)
        have g0 : (0 : Int) ≤ (i : Int) := by omega
        have g1 : (i : Int) < ((6 : Nat) : Int) := by omega
        have d1 : Cl w6 ⟨q, 0 + 0 + (i : Int).toNat * 1, none⟩ (.int .u8 (bt r1.d (i : Int))) := hq6.cl (by rw [show 0 + 0 + (i : Int).toNat * 1 = i by omega]; exact EthV.at_d hrok hlt)
        have d2 : Cl w6 ⟨p, 0 + 0 + (i : Int).toNat * 1, none⟩ (.int .u8 (bt hh.d (i : Int))) := hb6.cl (by rw [show 0 + 0 + (i : Int).toNat * 1 = i by omega]; exact EthV.at_d hh_ok hlt)
        have d3 : Cl w6 ⟨q, 0 + 6 + (i : Int).toNat * 1, none⟩ (.int .u8 (bt r1.s (i : Int))) := hq6.cl (by rw [show 0 + 6 + (i : Int).toNat * 1 = 6 + i by omega]; exact EthV.at_s hrok hlt)
        have d4 : Cl w6 ⟨p, 0 + 6 + (i : Int).toNat * 1, none⟩ (.int .u8 (bt hh.s (i : Int))) := hb6.cl (by rw [show 0 + 6 + (i : Int).toNat * 1 = 6 + i by omega]; exact EthV.at_s hh_ok hlt)
        clear Td Ts Tdi Tsi hc2 hc4 hc3 Tt
        refine W.cutS (fun w' g => Same w6 w' ∧ g = [(1, .int .u8 y), (7, .pointer (some ⟨p, 0, none⟩)), (10, .int .i64 kn), (11, .pointer (some ⟨q, 0, none⟩)), (14, .int .i64 i), (111, .bool false)]) ?_ ?_
        · cases c2 with
          | false =>
            cases c3 with
            | false =>
              cases c4 with
              | false =>
                apply W.readN LO mixed [1, 7, 10, 11, 14, 111] (by kernel_rfl)
                · repeat' (first | rfl | with_reducible assumption | assumption | constructor)
                intro w7 f7 s7 hf7
                replace hf7 : f7 = [(1, _), (7, _), (10, _), (11, _), (14, _), (111, _)] := hf7
                subst hf7
                exact N.cut ⟨s7, rfl⟩ (sub_keys rfl)
              | true =>
                apply W.readN LO mixed [1, 7, 10, 11, 14, 111] (by kernel_rfl)
                · repeat' (first | rfl | with_reducible assumption | assumption | constructor)
                intro w7 f7 s7 hf7
                replace hf7 : f7 = [(1, _), (7, _), (10, _), (11, _), (14, _), (111, _)] := hf7
                subst hf7
                exact N.cut ⟨s7, rfl⟩ (sub_keys rfl)
            | true =>
              cases c4 with
              | false =>
                apply W.readN LO mixed [1, 7, 10, 11, 14, 111] (by kernel_rfl)
                · repeat' (first | rfl | with_reducible assumption | assumption | constructor)
                intro w7 f7 s7 hf7
                replace hf7 : f7 = [(1, _), (7, _), (10, _), (11, _), (14, _), (111, _)] := hf7
                subst hf7
                exact N.cut ⟨s7, rfl⟩ (sub_keys rfl)
              | true =>
                apply W.readN LO mixed [1, 7, 10, 11, 14, 111] (by kernel_rfl)
                · repeat' (first | rfl | with_reducible assumption | assumption | constructor)
                intro w7 f7 s7 hf7
                replace hf7 : f7 = [(1, _), (7, _), (10, _), (11, _), (14, _), (111, _)] := hf7
                subst hf7
                exact N.cut ⟨s7, rfl⟩ (sub_keys rfl)
          | true =>
            cases c3 with
            | false =>
              cases c4 with
              | false =>
                apply W.readN LO mixed [1, 7, 10, 11, 14, 111] (by kernel_rfl)
                · repeat' (first | rfl | with_reducible assumption | assumption | constructor)
                intro w7 f7 s7 hf7
                replace hf7 : f7 = [(1, _), (7, _), (10, _), (11, _), (14, _), (111, _)] := hf7
                subst hf7
                exact N.cut ⟨s7, rfl⟩ (sub_keys rfl)
              | true =>
                apply W.readN LO mixed [1, 7, 10, 11, 14, 111] (by kernel_rfl)
                · repeat' (first | rfl | with_reducible assumption | assumption | constructor)
                intro w7 f7 s7 hf7
                replace hf7 : f7 = [(1, _), (7, _), (10, _), (11, _), (14, _), (111, _)] := hf7
                subst hf7
                exact N.cut ⟨s7, rfl⟩ (sub_keys rfl)
            | true =>
              cases c4 with
              | false =>
                apply W.readN LO mixed [1, 7, 10, 11, 14, 111] (by kernel_rfl)
                · repeat' (first | rfl | with_reducible assumption | assumption | constructor)
                intro w7 f7 s7 hf7
                replace hf7 : f7 = [(1, _), (7, _), (10, _), (11, _), (14, _), (111, _)] := hf7
                subst hf7
                exact N.cut ⟨s7, rfl⟩ (sub_keys rfl)
              | true =>
                apply W.readN LO mixed [1, 7, 10, 11, 14, 111] (by kernel_rfl)
                · repeat' (first | rfl | with_reducible assumption | assumption | constructor)
                intro w7 f7 s7 hf7
                replace hf7 : f7 = [(1, _), (7, _), (10, _), (11, _), (14, _), (111, _)] := hf7
                subst hf7
                exact N.cut ⟨s7, rfl⟩ (sub_keys rfl)
        · rintro w7 _ ⟨s7, rfl⟩
          refine W.cond (b := false) rfl (fun h => by cases h) (fun _ => W.skip ?_)
          exact N.inb (N.cut ⟨⟨m6.same s7, hb6.same s7, hq6.same s7⟩, rfl⟩ (sub_keys rfl))
      · rintro w7 _ ⟨⟨m7, hb7, hq7⟩, rfl⟩
        have k9 : Kn (IntKind.i64.wrap ((i : Int) + 1)) ((i + 1 : Nat) : Int) := i64k (by omega)
        apply W.readN LO mixed [1, 7, 10, 11, 14] (by kernel_rfl)
        · repeat' (first | rfl | with_reducible assumption | assumption | constructor)
        intro w8 f8 s8 hf8
        replace hf8 : f8 = [(1, _), (7, _), (10, _), (11, _), (14, _)] := hf8
        subst hf8
        exact N.round (k - 1) _ (by omega) ⟨i + 1, by omega, ⟨m7.same s8, hb7.same s8, hq7.same s8⟩, rfl⟩ (sub_keys rfl)
    · have k1 : Kn (decide ((i : Int) < 6)) false := .no (by omega)
      refine W.seq ?_
      apply W.readS LO mixed [1, 7, 10, 11, 72] (by kernel_rfl)
      · repeat' (first | rfl | with_reducible assumption | assumption | constructor)
      intro w6 f6 s6 hf6
      replace hf6 : f6 = [(1, _), (7, _), (10, _), (11, _), (72, _)] := hf6
      subst hf6
      refine W.cond (b := false) rfl (fun h => by cases h) (fun _ => W.exit ?_)
      exact N.thenE (N.thenE (N.out (N.cut ⟨⟨m5.same s6, hb5.same s6, hq5.same s6⟩, rfl⟩ (sub_keys rfl))))
  clear m3 hb3 hq3
  rintro w3 _ ⟨⟨m3, hb3, hq3⟩, rfl⟩
  obtain ⟨c5, hc5⟩ : ∃ c5, c5 = decide (kn < 12) := ⟨_, rfl⟩
  rw [← hc5] at Tt
  have a1 : Kn (r1.t == hh.t) (c5 || c3) := .of Tt
  have a2 : Kn (decide ((kn : Int) < 12)) c5 := .of (by rw [hc5]; exact decide_eq_decide.2 (by omega))
  have d1 : Cl w3 ⟨q, 0 + 12, none⟩ (.int .i64 r1.t) := hq3.cl (EthV.at_t hrok)
  have d2 : Cl w3 ⟨p, 0 + 12, none⟩ (.int .i64 hh.t) := hb3.cl (EthV.at_t hh_ok)
  refine W.seq (W.list ?_)
  refine Ls.meet 13 (fun w' g => Same w3 w' ∧ g = [(124, .bool true)]) ?_ ?_
  · cases c5 with
    | false =>
      cases c3 with
      | false =>
        apply Ls.runK LO [124] 13
        · repeat' (first | rfl | with_reducible assumption | assumption | constructor)
        intro w4 f4 s4 hf4
        replace hf4 : f4 = [(124, _)] := hf4
        subst hf4
        exact Ls.nil (N.cut ⟨s4, rfl⟩ (sub_keys rfl))
      | true =>
        apply Ls.runK LO [124] 13
        · repeat' (first | rfl | with_reducible assumption | assumption | constructor)
        intro w4 f4 s4 hf4
        replace hf4 : f4 = [(124, _)] := hf4
        subst hf4
        exact Ls.nil (N.cut ⟨s4, rfl⟩ (sub_keys rfl))
    | true =>
      cases c3 with
      | false =>
        apply Ls.runK LO [124] 13
        · repeat' (first | rfl | with_reducible assumption | assumption | constructor)
        intro w4 f4 s4 hf4
        replace hf4 : f4 = [(124, _)] := hf4
        subst hf4
        exact Ls.nil (N.cut ⟨s4, rfl⟩ (sub_keys rfl))
      | true =>
        apply Ls.runK LO [124] 13
        · repeat' (first | rfl | with_reducible assumption | assumption | constructor)
        intro w4 f4 s4 hf4
        replace hf4 : f4 = [(124, _)] := hf4
        subst hf4
        exact Ls.nil (N.cut ⟨s4, rfl⟩ (sub_keys rfl))
  rintro w4 _ ⟨s4, rfl⟩
  refine Ls.call LO rfl rfl rfl rfl rfl (vs := []) rfl (awake2_walk w4) ?_
  rintro _ w5 ⟨rfl, m5⟩
  refine ⟨_, rfl, ?_⟩
  apply Ls.runK LO [6] 2
  · repeat' (first | rfl | with_reducible assumption | assumption | constructor)
  intro w6 f6 s6 hf6
  replace hf6 : f6 = [(6, _)] := hf6
  subst hf6
  exact Ls.nil (N.to (W.ret (fin _ _ (((m3.same s4).trans m5).same s6) rfl)))
theorem parts_law (at_ y : Int) (body : ByteArray) (w : World) (h0 : (Lit.int .i64 at_).wf = true) (h1 : (Lit.int .u8 y).wf = true) (_ : body.size ≤ 140737488351232) : Calls Try.prog 9 #[.int .i64 at_, .int .u8 y, .string body] w (Yes w) :=
  parts_walk at_ y body w (bounds_i64 h0) (by have := bounds_u8 h1; omega)
end Go.Proofs.Ytchjfgdcldaacaa
