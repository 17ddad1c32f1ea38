/- What is proved: the law of orders: a text in parts. Conditions: those that stand in each theorem. -/
import Derived.Test.YtnghmaejmfhigaaDefRow
namespace Go.Proofs.Ytnghmaejmfhigaa
set_option linter.unusedVariables false
set_option linter.unusedSimpArgs false
set_option linter.unusedSectionVars false
open Go.RowKit Go.Maps Go.MapKept Go.ChangeMaps Go.ChangeShapes Fw
/-- The parts' rows. -/
structure PW (w w' : World) (va vb : Value) (A B : List Nat) : Prop where
  oa : Own w' 3 va (ints A)
  ob : Own w' 3 vb (ints B)
  fa : ∀ k, va.ownBlock = some k → w.heap.size ≤ k
  fb : ∀ k, vb.ownBlock = some k → w.heap.size ≤ k
  nab : ∀ k, va.ownBlock = some k → vb.ownBlock ≠ some k
theorem PW.same {w w' w'' : World} {va vb : Value} {A B : List Nat} (h : PW w w' va vb A B) (s : Same w' w'') : PW w w'' va vb A B := ⟨h.oa.same s, h.ob.same s, h.fa, h.fb, h.nab⟩
theorem PW.non {w w' w'' : World} {va vb : Value} {A B : List Nat} (h : PW w w' va vb A B) (m : Mv (fun _ => False) w' w'') : PW w w'' va vb A B := ⟨h.oa.moved m fun _ _ e => e, h.ob.moved m fun _ _ e => e, h.fa, h.fb, h.nab⟩
theorem PW.keep {w w' w'' : World} {va vb : Value} {A B : List Nat} (h : PW w w' va vb A B) (k : Keep w' w'') : PW w w'' va vb A B := ⟨own_keep h.oa k (by decide) (by decide), own_keep h.ob k (by decide) (by decide), h.fa, h.fb, h.nab⟩
/-- .. beside a row of bools that is changed. -/
theorem PW.row {w w' w'' : World} {va vb v : Value} {A B : List Nat} {xs : List Value} (h : PW w w' va vb A B) (ho : Own w' 4 v xs) (m : Mv (fun k => v.ownBlock = some k) w' w'') : PW w w'' va vb A B :=
  ⟨h.oa.moved m fun k hk e => own_ne h.oa ho (by decide) k hk e, h.ob.moved m fun k hk e => own_ne h.ob ho (by decide) k hk e, h.fa, h.fb, h.nab⟩
theorem ints_len (l : List Nat) : (ints l).length = l.length := List.length_map ..
theorem ints_app (l : List Nat) (x : Nat) : ints (l ++ [x]) = ints l ++ [.int .i64 (x : Int)] := by unfold ints; rw [List.map_append]; rfl
set_option maxRecDepth 100000 in
set_option maxHeartbeats 4000000 in
theorem orders_walk (s : ByteArray) (a1 : Option Addr) (c1 : Nat) (l1 : List Int) (a2 : Option Addr) (c2 : Nat) (l2 : List Int) (w : World) (hrow1 : RowK .i64 w a1 l1) (hl1 : ∀ n ∈ l1, -9223372036854775808 ≤ n ∧ n ≤ 9223372036854775807) (hrow2 : RowK .i64 w a2 l2) (hl2 : ∀ n ∈ l2, -9223372036854775808 ≤ n ∧ n ≤ 9223372036854775807) :
    Calls Try.prog 5 #[.string s, .slice a1 l1.length c1, .slice a2 l2.length c2] w (Yes w) := by
  obtain ⟨iI, hiI, hzI, hsI, hbI⟩ := info_int
  obtain ⟨iO, hiO, hzO, hsO, hbO⟩ := info_bool
  refine calls_W (n := 187) (vs := [.string s, .slice a1 l1.length c1, .slice a2 l2.length c2]) Try.func5 rfl rfl rfl ?_
  apply W.readS LO mixed [0, 1, 2] (by kernel_rfl)
  · repeat' (first | rfl | with_reducible assumption | assumption | constructor)
  intro w1 f1 s1 hf1
  replace hf1 : f1 = [(0, _), (1, _), (2, _)] := hf1
  subst hf1
  have hm1 : Mv (fun _ => False) w w1 := (Mv.refl _ w).same s1
  refine W.cutS (fun w' g => (Same w1 w' ∧ g = [(0, .string s), (1, .slice a1 l1.length c1), (2, .slice a2 l2.length c2)]) ∧ 9 ≤ s.size ∧ s.size ≤ 600) ?_ ?_
  · by_cases hsz : 9 ≤ s.size ∧ s.size ≤ 600
    · have k1 : Kn (decide ((s.size : Int) < 9)) false := .no (by omega)
      have k2 : Kn (decide (600 < (s.size : Int))) false := .no (by omega)
      apply W.readS LO mixed [0, 1, 2, 28] (by kernel_rfl)
      · repeat' (first | rfl | with_reducible assumption | assumption | constructor)
      intro w2 f2 s2 hf2
      replace hf2 : f2 = [(0, _), (1, _), (2, _), (28, _)] := hf2
      subst hf2
      refine W.cond (b := false) rfl (fun h => by cases h) (fun _ => W.skip ?_)
      exact N.cut ⟨⟨s2, rfl⟩, hsz⟩ (sub_keys rfl)
    · refine W.cutS (fun w' g => Same w1 w' ∧ g = [(28, .bool true)]) ?_ ?_
      · by_cases h1 : s.size < 9
        · have k1 : Kn (decide ((s.size : Int) < 9)) true := .yes (by omega)
          apply W.readN LO mixed [28] (by kernel_rfl)
          · repeat' (first | rfl | with_reducible assumption | assumption | constructor)
          intro w2 f2 s2 hf2
          replace hf2 : f2 = [(28, _)] := hf2
          subst hf2
          exact N.cut ⟨s2, rfl⟩ (sub_keys rfl)
        · have k1 : Kn (decide ((s.size : Int) < 9)) false := .no (by omega)
          have k2 : Kn (decide (600 < (s.size : Int))) true := .yes (by omega)
          apply W.readN LO mixed [28] (by kernel_rfl)
          · repeat' (first | rfl | with_reducible assumption | assumption | constructor)
          intro w2 f2 s2 hf2
          replace hf2 : f2 = [(28, _)] := hf2
          subst hf2
          exact N.cut ⟨s2, rfl⟩ (sub_keys rfl)
      rintro w2 _ ⟨s2, rfl⟩
      refine W.cond (b := true) rfl (fun _ => ?_) (fun h => by cases h)
      refine W.seq (W.list ?_)
      refine Ls.call LO rfl rfl rfl rfl rfl (vs := []) rfl (awake_walk w2) ?_
      rintro _ w3 ⟨rfl, hm3⟩
      refine ⟨_, rfl, ?_⟩
      apply Ls.runK LO [6] 1
      · repeat' (first | rfl | with_reducible assumption | assumption | constructor)
      intro w4 f4 s4 hf4
      replace hf4 : f4 = [(6, _)] := hf4
      subst hf4
      refine Ls.nil (N.to (W.ret (N.thenR (post LO (rs := [.tmp 6]) rfl (vs := [.bool true]) (.tmp rfl .nil) ⟨rfl, ((hm1.same s2).trans hm3).same s4⟩))))
  rintro w2 _ ⟨⟨s2, rfl⟩, hN9, hN⟩
  have hm2 := hm1.same s2
  clear hm1 s1 s2
  apply W.readS LO mixed [0, 1, 2, 7, 8] (by kernel_rfl)
  · repeat' (first | rfl | with_reducible assumption | assumption | constructor)
  intro w3 f3 s3 hf3
  replace hf3 : f3 = [(0, _), (1, _), (2, _), (7, _), (8, _)] := hf3
  subst hf3
  -- the parts
  refine W.cutS (fun w' g => (∃ A B va vb, PW w w' va vb A B ∧ Parts s.size A B ∧ A.length ≤ s.size ∧ Mv (fun _ => False) w w' ∧ g = [(0, .string s), (2, .slice a2 l2.length c2), (7, va), (8, vb)])) ?_ ?_
  ·
    apply W.readS LO mixed [0, 1, 2, 7, 8, 9] (by kernel_rfl)
    · repeat' (first | rfl | with_reducible assumption | assumption | constructor)
    intro w4 f4 s4 hf4
    replace hf4 : f4 = [(0, _), (1, _), (2, _), (7, _), (8, _), (9, _)] := hf4
    subst hf4
    refine W.block (W.loop (fun q w' g => ∃ (k : Nat) (A B : List Nat) (va vb : Value), q + k = s.size ∧ PW w w' va vb A B ∧ Pre s.size A B k ∧ Mv (fun _ => False) w w' ∧
      g = [(0, .string s), (1, .slice a1 l1.length c1), (2, .slice a2 l2.length c2), (7, va), (8, vb), (9, .int .i64 k)]) s.size _ ⟨0, [], [], .slice none 0 0, .slice none 0 0, rfl, ⟨Own.nil _ _, Own.nil _ _, (fun k e => by cases e), (fun k e => by cases e), (fun k e => by cases e)⟩, Pre.nil _, (hm2.same s3).same s4, rfl⟩ (sub_keys rfl) ?_)
    clear hm2 s3 s4
    rintro q w5 _ ⟨k, A, B, va, vb, hqk, hPW, hP, hmv, rfl⟩
    by_cases hlt : k < s.size
    · have k1 : Kn (decide ((k : Int) < (s.size : Int))) true := .yes (by omega)
      refine W.seq ?_
      apply W.readS LO mixed [0, 1, 2, 7, 8, 9, 33] (by kernel_rfl)
      · repeat' (first | rfl | with_reducible assumption | assumption | constructor)
      intro w6 f6 s6 hf6
      replace hf6 : f6 = [(0, _), (1, _), (2, _), (7, _), (8, _), (9, _), (33, _)] := hf6
      subst hf6
      have hPW := hPW.same s6
      have hmv := hmv.same s6
      refine W.cond (b := true) rfl (fun _ => W.skip (N.to ?_)) (fun h => by cases h)
      refine W.block ?_
      apply W.readS LO mixed [0, 1, 2, 7, 8, 9, 10] (by kernel_rfl)
      · repeat' (first | rfl | with_reducible assumption | assumption | constructor)
      intro w7 f7 s7 hf7
      replace hf7 : f7 = [(0, _), (1, _), (2, _), (7, _), (8, _), (9, _), (10, _)] := hf7
      subst hf7
      have hPW := hPW.same s7
      have hmv := hmv.same s7
      obtain ⟨aA, cA, hva, _, _, _⟩ := own_slice hPW.oa
      rw [ints_len] at hva
      have hfew := hP.few
      refine W.cutS (fun w' g => ∃ v0 : Nat, (1 ≤ v0 ∧ v0 ≤ 32 ∧ v0 % 8 = 0) ∧ Same w7 w' ∧ g = [(0, .string s), (1, .slice a1 l1.length c1), (2, .slice a2 l2.length c2), (7, va), (8, vb), (9, .int .i64 k), (10, .int .i64 v0)]) ?_ ?_
      · rw [hva]
        by_cases hin : A.length < l1.length
        · have k2 : Kn (decide ((A.length : Int) < (l1.length : Int))) true := .yes (by omega)
          apply W.readS LO mixed [0, 1, 2, 7, 8, 9, 10, 38] (by kernel_rfl)
          · repeat' (first | rfl | with_reducible assumption | assumption | constructor)
          intro w8 f8 s8 hf8
          replace hf8 : f8 = [(0, _), (1, _), (2, _), (7, _), (8, _), (9, _), (10, _), (38, _)] := hf8
          subst hf8
          refine W.cond (b := true) rfl (fun _ => ?_) (fun h => by cases h)
          obtain ⟨x, hx⟩ : ∃ x, l1[A.length]? = some x := ⟨_, List.getElem?_eq_getElem hin⟩
          have hx64 := hl1 x (List.mem_of_getElem? hx)
          obtain ⟨ad, hae, cx⟩ := hrow1 _ x hx
          have ei : ((A.length : Int)).toNat * 1 = A.length := by omega
          rw [← ei] at cx
          have cx8 : Cl w8 (ad.add ((A.length : Int).toNat * 1)) (.int .i64 x) := ⟨(hmv.same s8).cell cx (fun e => e)⟩
          have i0 : (0 : Int) ≤ (A.length : Int) := by omega
          have i1 : (A.length : Int) < (l1.length : Int) := by omega
          rw [hae]
          have qv : ∀ w', Same w8 w' → Calls Try.prog 10 #[.int .i64 x, .int .i64 4] w' fun e w'' => e = .returned (.int .i64 (x % 4)) ∧ Same w8 w'' := quiet_of (w := w8) fun w' _ => place00_says x 4 w' (by decide) (by decide) hx64.1 hx64.2
          have k3 : Kn (IntKind.i64.wrap (8 * (x % 4))) (8 * (x % 4)) := .of (IntWalk.i64_in _ (by omega))
          have k4 : Kn (IntKind.i64.wrap (8 + 8 * (x % 4))) (((8 + 8 * (x % 4)).toNat : Nat) : Int) := .of ((IntWalk.i64_in _ (by omega)).trans (by omega))
          apply W.readN LO mixed [0, 1, 2, 7, 8, 9, 10] (by kernel_rfl)
          · repeat' (first | rfl | with_reducible assumption | assumption | constructor)
          intro w9 f9 s9 hf9
          replace hf9 : f9 = [(0, _), (1, _), (2, _), (7, _), (8, _), (9, _), (10, _)] := hf9
          subst hf9
          exact N.cut ⟨_, by omega, s8.trans s9, rfl⟩ (sub_keys rfl)
        · have k2 : Kn (decide ((A.length : Int) < (l1.length : Int))) false := .no (by omega)
          apply W.readS LO mixed [0, 1, 2, 7, 8, 9, 10, 38] (by kernel_rfl)
          · repeat' (first | rfl | with_reducible assumption | assumption | constructor)
          intro w8 f8 s8 hf8
          replace hf8 : f8 = [(0, _), (1, _), (2, _), (7, _), (8, _), (9, _), (10, _), (38, _)] := hf8
          subst hf8
          refine W.cond (b := false) rfl (fun h => by cases h) (fun _ => W.skip ?_)
          exact N.cut ⟨8, by omega, s8, rfl⟩ (sub_keys rfl)
      rintro w8 _ ⟨v0, hv0, s8, rfl⟩
      have hPW := hPW.same s8
      have hmv := hmv.same s8
      clear s6 s7 s8
      obtain ⟨v, hv⟩ : ∃ v, v = min v0 (s.size - k) := ⟨_, rfl⟩
      have k3 : Kn (IntKind.i64.wrap ((s.size : Int) - (k : Int))) ((s.size : Int) - k) := .of (IntWalk.i64_in _ (by omega))
      have k4 : Kn (if ((s.size : Int) - (k : Int)) < (v0 : Int) then ((s.size : Int) - (k : Int)) else (v0 : Int)) (v : Int) := .of (by rw [hv]; split <;> omega)
      apply W.readS LO mixed [0, 1, 2, 7, 8, 9, 10] (by kernel_rfl)
      · repeat' (first | rfl | with_reducible assumption | assumption | constructor)
      intro w9 f9 s9 hf9
      replace hf9 : f9 = [(0, _), (1, _), (2, _), (7, _), (8, _), (9, _), (10, _)] := hf9
      subst hf9
      have hPW := hPW.same s9
      have hmv := hmv.same s9
      clear s9 k3 k4
      -- both rows grow
      refine W.seq (W.list ?_)
      apply Ls.runK LO [0, 1, 2, 7, 8, 9, 10, 53, 54] 2
      · repeat' (first | rfl | with_reducible assumption | assumption | constructor)
      intro w10 f10 s10 hf10
      replace hf10 : f10 = [(0, _), (1, _), (2, _), (7, _), (8, _), (9, _), (10, _), (53, _), (54, _)] := hf10
      subst hf10
      have hPW := hPW.same s10
      have hmv := hmv.same s10
      refine Ls.buildSlice rfl rfl rfl rfl und_ints hiI hzI hsI rfl (ps := [(0, .int .i64 (k : Int))]) rfl rfl rfl (cells := [.int .i64 (k : Int)]) (by rw [hsI]; exact fill_one _ _ rfl rfl) ?_
      have hrd := reads_one w10 3 (.int .i64 (k : Int))
      have m11 : Mv (fun _ => False) w10 (w10.alloc (.cells [.int .i64 (k : Int)].toArray 3)) := (Mv.refl _ w10).alloc _
      generalize w10.alloc (.cells [Value.int .i64 (k : Int)].toArray 3) = w11 at hrd m11
      have hPW := hPW.non m11
      have hmv := hmv.trans m11
      refine Ls.append rfl rfl rfl rfl und_ints hiI hzI hsI hbI rfl rfl rfl hPW.oa hrd (fun u hu => by obtain rfl := List.mem_singleton.1 hu; rfl) (by rw [ints_len]; simp only [List.length_singleton, maxLen]; omega) (by rw [ints_len]; simp only [List.length_singleton]; omega) ?_
      intro va' w12 hoa12 m12 hb12
      rw [← ints_app] at hoa12
      have hz11 := hmv.size
      have hob12 := hPW.ob.moved m12 fun j hj e => hPW.nab j e hj
      have hfa12 : ∀ j, va'.ownBlock = some j → w.heap.size ≤ j := fun j hj => by
        rcases hb12 with e | e
        · exact hPW.fa j (by rw [← e]; exact hj)
        · rw [e] at hj; have : w11.heap.size = j := Option.some.inj hj; omega
      have hnab12 : ∀ j, va'.ownBlock = some j → vb.ownBlock ≠ some j := fun j hj e2 => by
        rcases hb12 with e | e
        · exact hPW.nab j (by rw [← e]; exact hj) e2
        · rw [e] at hj
          have h1 : w11.heap.size = j := Option.some.inj hj
          have := hPW.ob.lt j e2
          omega
      have hmv12 : Mv (fun _ => False) w w12 := hmv.cut m12 fun j hj e => by have := hPW.fa j e; omega
      have hPW12 : PW w w12 va' vb (A ++ [k]) B := ⟨hoa12, hob12, hfa12, hPW.fb, hnab12⟩
      clear hrd m11 hPW hmv m12 hb12 hoa12 hob12 hfa12 hnab12 hz11
      apply Ls.runK LO [0, 1, 2, 9, 10, 56, 57, 58] 2
      · repeat' (first | rfl | with_reducible assumption | assumption | constructor)
      intro w13 f13 s13 hf13
      replace hf13 : f13 = [(0, _), (1, _), (2, _), (9, _), (10, _), (56, _), (57, _), (58, _)] := hf13
      subst hf13
      have hPW := hPW12.same s13
      have hmv := hmv12.same s13
      refine Ls.buildSlice rfl rfl rfl rfl und_ints hiI hzI hsI rfl (ps := [(0, .int .i64 (v : Int))]) rfl rfl rfl (cells := [.int .i64 (v : Int)]) (by rw [hsI]; exact fill_one _ _ rfl rfl) ?_
      have hrd := reads_one w13 3 (.int .i64 (v : Int))
      have m14 : Mv (fun _ => False) w13 (w13.alloc (.cells [.int .i64 (v : Int)].toArray 3)) := (Mv.refl _ w13).alloc _
      generalize w13.alloc (.cells [Value.int .i64 (v : Int)].toArray 3) = w14 at hrd m14
      have hPW := hPW.non m14
      have hmv := hmv.trans m14
      have hlB := hP.len
      refine Ls.append rfl rfl rfl rfl und_ints hiI hzI hsI hbI rfl rfl rfl hPW.ob hrd (fun u hu => by obtain rfl := List.mem_singleton.1 hu; rfl) (by rw [ints_len]; simp only [List.length_singleton, maxLen]; omega) (by rw [ints_len]; simp only [List.length_singleton]; omega) ?_
      intro vb' w15 hob15 m15 hb15
      rw [← ints_app] at hob15
      have hz14 := hmv.size
      have hoa15 := hPW.oa.moved m15 fun j hj e => hPW.nab j hj e
      have hfb15 : ∀ j, vb'.ownBlock = some j → w.heap.size ≤ j := fun j hj => by
        rcases hb15 with e | e
        · exact hPW.fb j (by rw [← e]; exact hj)
        · rw [e] at hj; have : w14.heap.size = j := Option.some.inj hj; omega
      have hnab15 : ∀ j, va'.ownBlock = some j → vb'.ownBlock ≠ some j := fun j hj e2 => by
        rcases hb15 with e | e
        · exact hPW.nab j hj (by rw [← e]; exact e2)
        · rw [e] at e2
          have h1 : w14.heap.size = j := Option.some.inj e2
          have := hPW.oa.lt j hj
          omega
      have hmv15 : Mv (fun _ => False) w w15 := hmv.cut m15 fun j hj e => by have := hPW.fb j e; omega
      have hPW15 : PW w w15 va' vb' (A ++ [k]) (B ++ [v]) := ⟨hoa15, hob15, hPW.fa, hfb15, hnab15⟩
      clear hrd m14 hPW hmv m15 hb15 hoa15 hob15 hfb15 hnab15 hz14 hPW12 hmv12
      apply Ls.runK LO [0, 1, 2, 7, 8, 9, 10] 2
      · repeat' (first | rfl | with_reducible assumption | assumption | constructor)
      intro w16 f16 s16 hf16
      replace hf16 : f16 = [(0, _), (1, _), (2, _), (7, _), (8, _), (9, _), (10, _)] := hf16
      subst hf16
      refine Ls.nil (N.to ?_)
      have hPW := hPW15.same s16
      have hmv := hmv15.same s16
      have k5 : Kn (IntKind.i64.wrap ((k : Int) + (v : Int))) ((k + v : Nat) : Int) := .of ((IntWalk.i64_in _ (by omega)).trans (by omega))
      apply W.readN LO mixed [0, 1, 2, 7, 8, 9] (by kernel_rfl)
      · repeat' (first | rfl | with_reducible assumption | assumption | constructor)
      intro w17 f17 s17 hf17
      replace hf17 : f17 = [(0, _), (1, _), (2, _), (7, _), (8, _), (9, _)] := hf17
      subst hf17
      exact N.inb (N.round (q - v) _ (by omega) ⟨k + v, A ++ [k], B ++ [v], va', vb', by omega, hPW.same s17, hP.push hlt (by omega) (by omega) (by omega), hmv.same s17, rfl⟩ (sub_keys rfl))
    · have k1 : Kn (decide ((k : Int) < (s.size : Int))) false := .no (by omega)
      refine W.seq ?_
      apply W.readS LO mixed [0, 2, 7, 8, 33] (by kernel_rfl)
      · repeat' (first | rfl | with_reducible assumption | assumption | constructor)
      intro w6 f6 s6 hf6
      replace hf6 : f6 = [(0, _), (2, _), (7, _), (8, _), (33, _)] := hf6
      subst hf6
      refine W.cond (b := false) rfl (fun h => by cases h) (fun _ => W.exit ?_)
      have hkN : k = s.size := by have := hP.kN; omega
      subst hkN
      exact N.thenE (N.thenE (N.out (N.cut ⟨A, B, va, vb, hPW.same s6, hP.parts, hP.few, hmv.same s6, rfl⟩ (sub_keys rfl))))
  rintro w4 _ ⟨A, B, va, vb, hPW, hP, hfew, hmv, rfl⟩
  clear hm2 s3
  obtain ⟨p, hp⟩ : ∃ p, p = A.length := ⟨_, rfl⟩
  have hlB := hP.len
  obtain ⟨aA, cA, hva, _, _, _⟩ := own_slice hPW.oa
  rw [ints_len, ← hp] at hva
  refine W.cutS (fun w' g => (PW w w' va vb A B ∧ Mv (fun _ => False) w w' ∧ g = [(0, .string s), (2, .slice a2 l2.length c2), (7, .slice aA p cA), (8, vb)]) ∧ 2 ≤ p) ?_ ?_
  · by_cases h2 : 2 ≤ p
    · have k1 : Kn (decide ((p : Int) < 2)) false := .no (by omega)
      rw [hva] at hPW ⊢
      apply W.readS LO mixed [0, 2, 7, 8, 66] (by kernel_rfl)
      · repeat' (first | rfl | with_reducible assumption | assumption | constructor)
      intro w5 f5 s5 hf5
      replace hf5 : f5 = [(0, _), (2, _), (7, _), (8, _), (66, _)] := hf5
      subst hf5
      refine W.cond (b := false) rfl (fun h => by cases h) (fun _ => W.skip ?_)
      exact N.cut ⟨⟨hPW.same s5, hmv.same s5, rfl⟩, h2⟩ (sub_keys rfl)
    · have k1 : Kn (decide ((p : Int) < 2)) true := .yes (by omega)
      rw [hva]
      apply W.readS LO mixed [66] (by kernel_rfl)
      · repeat' (first | rfl | with_reducible assumption | assumption | constructor)
      intro w5 f5 s5 hf5
      replace hf5 : f5 = [(66, _)] := hf5
      subst hf5
      refine W.cond (b := true) rfl (fun _ => ?_) (fun h => by cases h)
      refine W.seq (W.list ?_)
      refine Ls.call LO rfl rfl rfl rfl rfl (vs := []) rfl (awake_walk w5) ?_
      rintro _ w6 ⟨rfl, hm6⟩
      refine ⟨_, rfl, ?_⟩
      apply Ls.runK LO [6] 1
      · repeat' (first | rfl | with_reducible assumption | assumption | constructor)
      intro w7 f7 s7 hf7
      replace hf7 : f7 = [(6, _)] := hf7
      subst hf7
      refine Ls.nil (N.to (W.ret (N.thenR ?_)))
      exact post (fn := Try.f5) (R := Yes w) LO (rs := [.tmp 6]) rfl (vs := [.bool true]) (.tmp rfl .nil) ⟨rfl, ((hmv.same s5).trans hm6).same s7⟩
  rintro w5 _ ⟨⟨hPW, hmv, rfl⟩, h2⟩
  -- the table
  refine W.seq (W.list ?_)
  refine Ls.call LO rfl rfl rfl rfl rfl (vs := [.int .i64 1, .int .i64 9]) rfl (new_walk 1 9 w5) ?_
  rintro _ w6 ⟨t, mt, rfl, hA6, ht6, hmt6, hm6⟩
  have hS : TS w w6 t 1 9 [] := ⟨mt, [], hA6, rfl, hmv.trans hm6, fun k hk => by
    have := hmv.size
    rcases hk with e | e | ⟨x, hx, _⟩
    · omega
    · omega
    · cases hx⟩
  have hPW := hPW.non hm6
  refine ⟨_, rfl, ?_⟩
  apply Ls.runK LO [0, 2, 7, 8, 11] 1
  · repeat' (first | rfl | with_reducible assumption | assumption | constructor)
  intro w7 f7 s7 hf7
  replace hf7 : f7 = [(0, _), (2, _), (7, _), (8, _), (11, _)] := hf7
  subst hf7
  refine Ls.nil (N.to ?_)
  have hPW := hPW.same s7
  have hS := hS.same s7
  clear hA6 ht6 hmt6 hm6 s7 hmv
  refine W.cutS (fun w' g => PW w w' va vb A B ∧ TS w w' t 1 9 [] ∧ g = [(0, .string s), (2, .slice a2 l2.length c2), (7, .slice aA p cA), (8, vb), (11, .pointer (some ⟨t, 0, none⟩))]) ?_ ?_
  ·
    apply W.readS LO mixed [0, 2, 7, 8, 11, 70] (by kernel_rfl)
    · repeat' (first | rfl | with_reducible assumption | assumption | constructor)
    intro w8 f8 s8 hf8
    replace hf8 : f8 = [(0, _), (2, _), (7, _), (8, _), (11, _), (70, _)] := hf8
    subst hf8
    refine W.cond (b := false) rfl (fun h => by cases h) (fun _ => W.skip ?_)
    exact N.cut ⟨hPW.same s8, hS.same s8, rfl⟩ (sub_keys rfl)
  rintro w8 _ ⟨hPW, hS, rfl⟩
  apply W.readS LO mixed [0, 2, 7, 8, 11, 12] (by kernel_rfl)
  · repeat' (first | rfl | with_reducible assumption | assumption | constructor)
  intro w9 f9 s9 hf9
  replace hf9 : f9 = [(0, _), (2, _), (7, _), (8, _), (11, _), (12, _)] := hf9
  subst hf9
  have hPW := hPW.same s9
  have hS := hS.same s9
  clear s9
  -- which went
  refine W.cutS (fun w' g => ∃ vw, PW w w' va vb A B ∧ TS w w' t 1 9 [] ∧ Own w' 4 vw ((List.replicate p false).map Value.bool) ∧ (∀ k, vw.ownBlock = some k → w.heap.size ≤ k) ∧ g = [(0, .string s), (2, .slice a2 l2.length c2), (7, .slice aA p cA), (8, vb), (11, .pointer (some ⟨t, 0, none⟩)), (12, vw)]) ?_ ?_
  ·
    apply W.readS LO mixed [0, 2, 7, 8, 11, 12, 13] (by kernel_rfl)
    · repeat' (first | rfl | with_reducible assumption | assumption | constructor)
    intro w10 f10 s10 hf10
    replace hf10 : f10 = [(0, _), (2, _), (7, _), (8, _), (11, _), (12, _), (13, _)] := hf10
    subst hf10
    refine W.block (W.loop (fun q w' g => ∃ (i : Nat) (vw : Value), q + i = p ∧ PW w w' va vb A B ∧ TS w w' t 1 9 [] ∧ Own w' 4 vw ((List.replicate i false).map Value.bool) ∧ (∀ k, vw.ownBlock = some k → w.heap.size ≤ k) ∧
      g = [(0, .string s), (2, .slice a2 l2.length c2), (7, .slice aA p cA), (8, vb), (11, .pointer (some ⟨t, 0, none⟩)), (12, vw), (13, .int .i64 i)]) p _ ⟨0, .slice none 0 0, rfl, hPW.same s10, hS.same s10, Own.nil _ _, (fun k e => by cases e), rfl⟩ (sub_keys rfl) ?_)
    clear hPW hS s10
    rintro q w11 _ ⟨i, vw, hqi, hPW, hS, hO, hfw, rfl⟩
    by_cases hlt : i < p
    · have k1 : Kn (decide ((i : Int) < (p : Int))) true := .yes (by omega)
      refine W.seq ?_
      apply W.readS LO mixed [0, 2, 7, 8, 11, 12, 13, 74] (by kernel_rfl)
      · repeat' (first | rfl | with_reducible assumption | assumption | constructor)
      intro w12 f12 s12 hf12
      replace hf12 : f12 = [(0, _), (2, _), (7, _), (8, _), (11, _), (12, _), (13, _), (74, _)] := hf12
      subst hf12
      have hPW := hPW.same s12
      have hS := hS.same s12
      have hO := hO.same s12
      refine W.cond (b := true) rfl (fun _ => W.skip (N.to ?_)) (fun h => by cases h)
      refine W.cutS (fun w' g => ∃ vw', PW w w' va vb A B ∧ TS w w' t 1 9 [] ∧ Own w' 4 vw' ((List.replicate (i + 1) false).map Value.bool) ∧ (∀ k, vw'.ownBlock = some k → w.heap.size ≤ k) ∧ g = [(0, .string s), (2, .slice a2 l2.length c2), (7, .slice aA p cA), (8, vb), (11, .pointer (some ⟨t, 0, none⟩)), (12, vw'), (13, .int .i64 i)]) ?_ ?_
      · refine W.block (W.list ?_)
        apply Ls.runK LO [0, 2, 7, 8, 11, 13, 77] 1
        · repeat' (first | rfl | with_reducible assumption | assumption | constructor)
        intro w13 f13 s13 hf13
        replace hf13 : f13 = [(0, _), (2, _), (7, _), (8, _), (11, _), (13, _), (77, _)] := hf13
        subst hf13
        have hPW := hPW.same s13
        have hS := hS.same s13
        have hO := hO.same s13
        refine Ls.buildSlice rfl rfl rfl rfl und_bools hiO hzO hsO rfl (ps := [(0, .bool false)]) rfl rfl rfl (cells := [.bool false]) (by rw [hsO]; exact fill_one _ _ rfl rfl) ?_
        have hrd := reads_one w13 4 (.bool false)
        have m14 : Mv (fun _ => False) w13 (w13.alloc (.cells [.bool false].toArray 4)) := (Mv.refl _ w13).alloc _
        generalize w13.alloc (.cells [Value.bool false].toArray 4) = w14 at hrd m14
        have hPW := hPW.non m14
        have hS := hS.non m14
        have hO := hO.moved m14 (fun _ _ e => e)
        refine Ls.append rfl rfl rfl rfl und_bools hiO hzO hsO hbO rfl rfl rfl hO hrd (fun u hu => by obtain rfl := List.mem_singleton.1 hu; rfl) (by simp only [List.length_map, List.length_replicate, List.length_singleton, maxLen]; omega) (by simp only [List.length_map, List.length_replicate, List.length_singleton]; omega) ?_
        intro vw' w15 hO15 m15 hb15
        have hz14 := hS.mv.size
        have hS15 := hS.row hO (by decide) (by decide) hfw m15
        have hPW15 := hPW.row hO m15
        apply Ls.runK LO [0, 2, 7, 8, 11, 12, 13] 1
        · repeat' (first | rfl | with_reducible assumption | assumption | constructor)
        intro w16 f16 s16 hf16
        replace hf16 : f16 = [(0, _), (2, _), (7, _), (8, _), (11, _), (12, _), (13, _)] := hf16
        subst hf16
        refine Ls.nil (N.inb (N.cut ⟨vw', hPW15.same s16, hS15.same s16, ?_, fun k hk => ?_, rfl⟩ (sub_keys rfl)))
        · rw [List.replicate_succ', List.map_append]; exact hO15.same s16
        · rcases hb15 with e | e
          · exact hfw k (by rw [← e]; exact hk)
          · rw [e] at hk; have : w14.heap.size = k := Option.some.inj hk; omega
      · rintro w13 _ ⟨vw', hPW, hS, hO, hfw', rfl⟩
        have k5 : Kn (IntKind.i64.wrap ((i : Int) + 1)) ((i + 1 : Nat) : Int) := .of (IntWalk.i64_in _ (by omega))
        apply W.readN LO mixed [0, 2, 7, 8, 11, 12, 13] (by kernel_rfl)
        · repeat' (first | rfl | with_reducible assumption | assumption | constructor)
        intro w14 f14 s14 hf14
        replace hf14 : f14 = [(0, _), (2, _), (7, _), (8, _), (11, _), (12, _), (13, _)] := hf14
        subst hf14
        exact N.round (q - 1) _ (by omega) ⟨i + 1, vw', by omega, hPW.same s14, hS.same s14, hO.same s14, hfw', rfl⟩ (sub_keys rfl)
    · have k1 : Kn (decide ((i : Int) < (p : Int))) false := .no (by omega)
      refine W.seq ?_
      apply W.readS LO mixed [0, 2, 7, 8, 11, 12, 74] (by kernel_rfl)
      · repeat' (first | rfl | with_reducible assumption | assumption | constructor)
      intro w12 f12 s12 hf12
      replace hf12 : f12 = [(0, _), (2, _), (7, _), (8, _), (11, _), (12, _), (74, _)] := hf12
      subst hf12
      refine W.cond (b := false) rfl (fun h => by cases h) (fun _ => W.exit ?_)
      have hip : i = p := by omega
      subst hip
      exact N.thenE (N.thenE (N.out (N.cut ⟨vw, hPW.same s12, hS.same s12, hO.same s12, hfw, rfl⟩ (sub_keys rfl))))
  rintro w10 _ ⟨vw, hPW, hS, hO, hfw, rfl⟩
  apply W.readS LO mixed [0, 2, 7, 8, 11, 12, 14] (by kernel_rfl)
  · repeat' (first | rfl | with_reducible assumption | assumption | constructor)
  intro w11 f11 s11 hf11
  replace hf11 : f11 = [(0, _), (2, _), (7, _), (8, _), (11, _), (12, _), (14, _)] := hf11
  subst hf11
  have hPW := hPW.same s11
  have hS := hS.same s11
  have hO := hO.same s11
  clear s11
  -- they come
  refine W.cutS (fun w' g => TS w w' t 1 9 [] ∧ g = [(11, .pointer (some ⟨t, 0, none⟩))]) ?_ ?_
  ·
    apply W.readS LO mixed [0, 2, 7, 8, 11, 12, 14, 15] (by kernel_rfl)
    · repeat' (first | rfl | with_reducible assumption | assumption | constructor)
    intro w12 f12 s12 hf12
    replace hf12 : f12 = [(0, _), (2, _), (7, _), (8, _), (11, _), (12, _), (14, _), (15, _)] := hf12
    subst hf12
    have hOI : OI s A B (List.replicate p false) ⟨[], 0, 0⟩ := by
      have hf : ∀ j, (List.replicate p false).getD j false = false := fun j => by
        rw [List.getD_eq_getElem?_getD, List.getElem?_replicate]; split <;> rfl
      refine ⟨.nil, fun x hg => ?_, fun x _ => rfl, ?_⟩
      · obtain ⟨j, hj, _⟩ := hg
        rw [hf] at hj; cases hj
      · rw [hf, if_neg (by decide)]
    refine W.block (W.loop (fun q w' g => ∃ (i : Nat) (went : List Bool) (T : List (KeyV × EV)), (q + i = 50 + p ∨ q = 0) ∧ i ≤ 50 + p ∧ went.length = p ∧ PW w w' va vb A B ∧ TS w w' t 1 9 T ∧ Own w' 4 vw (went.map Value.bool) ∧ ((went.count false ≠ 0 ∧ q + i = 50 + p ∧ TO s A B went T ∧ allB T = true) ∨ (went.count false = 0 ∧ T = [])) ∧
      (∀ j, 50 ≤ j → j < i → went.getD (j % p) false = true) ∧
      g = [(0, .string s), (2, .slice a2 l2.length c2), (7, .slice aA p cA), (8, vb), (11, .pointer (some ⟨t, 0, none⟩)), (12, vw), (14, .int .i64 (went.count false)), (15, .int .i64 i)]) (50 + p) [(0, .string s), (2, .slice a2 l2.length c2), (7, .slice aA p cA), (8, vb), (11, .pointer (some ⟨t, 0, none⟩)), (12, vw), (14, .int .i64 p), (15, .int .i64 0)]
      ⟨0, List.replicate p false, [], .inl rfl, Nat.zero_le _, List.length_replicate .., hPW.same s12, hS.same s12, hO.same s12, .inl ⟨by rw [List.count_replicate_self]; omega, rfl, .inl ⟨rfl, hOI⟩, rfl⟩, fun j h1 h2 => by omega, by rw [List.count_replicate_self]; rfl⟩ (sub_keys rfl) ?_)
    clear hPW hS hO s12 hOI
    rintro q w13 _ ⟨i, went, T, hqi, hi50, hwl, hPW, hS, hO, hst, hcyc, rfl⟩
    by_cases hleft : went.count false = 0
    · have k1 : Kn (decide (0 < ((went.count false : Nat) : Int))) false := .no (by omega)
      refine W.seq ?_
      apply W.readS LO mixed [11, 83] (by kernel_rfl)
      · repeat' (first | rfl | with_reducible assumption | assumption | constructor)
      intro w14 f14 s14 hf14
      replace hf14 : f14 = [(11, _), (83, _)] := hf14
      subst hf14
      refine W.cond (b := false) rfl (fun h => by cases h) (fun _ => W.exit ?_)
      have hT : T = [] := by
        rcases hst with h | h
        · exact absurd hleft h.1
        · exact h.2
      subst hT
      exact N.thenE (N.thenE (N.out (N.cut ⟨hS.same s14, rfl⟩ (sub_keys rfl))))
    · have k1 : Kn (decide (0 < ((went.count false : Nat) : Int))) true := .yes (by omega)
      obtain ⟨_, hqi', hTO, hallT⟩ := hst.resolve_right fun h => hleft h.1
      have hi : i < 50 + p := by
        rcases Nat.lt_or_ge i (50 + p) with h | h
        · exact h
        · exfalso
          apply hleft
          rw [count_zero]
          intro j hj
          rw [hwl] at hj
          have h50 : ∃ j', 50 ≤ j' ∧ j' < i ∧ j' % p = j := by
            by_cases hc : 50 % p ≤ j
            · refine ⟨50 + (j - 50 % p), by omega, by omega, ?_⟩
              have e : 50 + (j - 50 % p) = j + p * (50 / p) := by have := Nat.div_add_mod 50 p; omega
              rw [e, Nat.add_mul_mod_self_left, Nat.mod_eq_of_lt hj]
            · have hlt50 : 50 % p < p := Nat.mod_lt _ (by omega)
              refine ⟨50 + (j + p - 50 % p), by omega, by omega, ?_⟩
              have e : 50 + (j + p - 50 % p) = j + p * (50 / p + 1) := by have := Nat.div_add_mod 50 p; rw [Nat.mul_add]; omega
              rw [e, Nat.add_mul_mod_self_left, Nat.mod_eq_of_lt hj]
          obtain ⟨j', h1, h2, h3⟩ := h50
          have := hcyc j' h1 h2
          rwa [h3] at this
      refine W.seq ?_
      apply W.readS LO mixed [0, 2, 7, 8, 11, 12, 14, 15, 83] (by kernel_rfl)
      · repeat' (first | rfl | with_reducible assumption | assumption | constructor)
      intro w14 f14 s14 hf14
      replace hf14 : f14 = [(0, _), (2, _), (7, _), (8, _), (11, _), (12, _), (14, _), (15, _), (83, _)] := hf14
      subst hf14
      have hPW := hPW.same s14
      have hS := hS.same s14
      have hO := hO.same s14
      clear s14
      refine W.cond (b := true) rfl (fun _ => W.skip (N.to ?_)) (fun h => by cases h)
      refine W.cutS (fun w' g => ∃ (went' : List Bool) (T' : List (KeyV × EV)), went'.length = p ∧ PW w w' va vb A B ∧ TS w w' t 1 9 T' ∧ Own w' 4 vw (went'.map Value.bool) ∧ ((went'.count false ≠ 0 ∧ TO s A B went' T' ∧ allB T' = true) ∨ (went'.count false = 0 ∧ T' = [])) ∧
        (∀ j, 50 ≤ j → j < i + 1 → went'.getD (j % p) false = true) ∧
        g = [(0, .string s), (2, .slice a2 l2.length c2), (7, .slice aA p cA), (8, vb), (11, .pointer (some ⟨t, 0, none⟩)), (12, vw), (14, .int .i64 (went'.count false)), (15, .int .i64 i)]) ?_ ?_
      · refine W.block ?_
        have rp : (p : Int) ≠ 0 := by omega
        obtain ⟨ip, hip⟩ : ∃ ip, ip = i % p := ⟨_, rfl⟩
        have k2 : Kn ((i : Int).tmod (p : Int)) (ip : Int) := .of (by rw [Int.tmod_eq_emod_of_nonneg (by omega), hip]; exact (Int.natCast_emod i p).symm)
        have hipp : ip < p := by rw [hip]; exact Nat.mod_lt _ (by omega)
        apply W.readS LO mixed [0, 2, 7, 8, 11, 12, 14, 15, 16] (by kernel_rfl)
        · repeat' (first | rfl | with_reducible assumption | assumption | constructor)
        intro w15 f15 s15 hf15
        replace hf15 : f15 = [(0, _), (2, _), (7, _), (8, _), (11, _), (12, _), (14, _), (15, _), (16, _)] := hf15
        subst hf15
        have hPW := hPW.same s15
        have hS := hS.same s15
        have hO := hO.same s15
        clear s15 k2
        refine W.cutS (fun w' g => ∃ k : Nat, k < p ∧ (50 ≤ i → k = i % p) ∧ Same w15 w' ∧ g = [(0, .string s), (7, .slice aA p cA), (8, vb), (2, .slice a2 l2.length c2), (11, .pointer (some ⟨t, 0, none⟩)), (12, vw), (14, .int .i64 (went.count false)), (15, .int .i64 i), (16, .int .i64 k)]) ?_ ?_
        · by_cases hin : i < l2.length ∧ i < 50
          · have k3 : Kn (decide ((i : Int) < (l2.length : Int))) true := .yes (by omega)
            have k4 : Kn (decide ((i : Int) < 50)) true := .yes (by omega)
            apply W.readS LO mixed [0, 7, 8, 2, 11, 12, 14, 15, 16, 97] (by kernel_rfl)
            · repeat' (first | rfl | with_reducible assumption | assumption | constructor)
            intro w16 f16 s16 hf16
            replace hf16 : f16 = [(0, _), (7, _), (8, _), (2, _), (11, _), (12, _), (14, _), (15, _), (16, _), (97, _)] := hf16
            subst hf16
            refine W.cond (b := true) rfl (fun _ => ?_) (fun h => by cases h)
            obtain ⟨x, hx⟩ : ∃ x, l2[i]? = some x := ⟨_, List.getElem?_eq_getElem hin.1⟩
            have hx64 := hl2 x (List.mem_of_getElem? hx)
            obtain ⟨ad, hae, cx⟩ := hrow2 _ x hx
            have ei : ((i : Int)).toNat * 1 = i := by omega
            rw [← ei] at cx
            have cx8 : Cl w16 (ad.add ((i : Int).toNat * 1)) (.int .i64 x) := ⟨(hS.mv.same s16).cell cx (fun e => e)⟩
            have i0 : (0 : Int) ≤ (i : Int) := by omega
            have i1 : (i : Int) < (l2.length : Int) := by omega
            rw [hae]
            obtain ⟨xp, hxp⟩ : ∃ xp : Nat, (xp : Int) = x % (p : Int) := ⟨(x % (p : Int)).toNat, by have := Int.emod_nonneg x rp; omega⟩
            have hxpp : xp < p := by have := Int.emod_lt_of_pos x (show (0 : Int) < p by omega); omega
            have qv : ∀ w', Same w16 w' → Calls Try.prog 10 #[.int .i64 x, .int .i64 p] w' fun e w'' => e = .returned (.int .i64 (xp : Int)) ∧ Same w16 w'' := by
              rw [hxp]
              exact quiet_of (w := w16) fun w' _ => place00_says x p w' (by omega) (by omega) hx64.1 hx64.2
            apply W.readN LO mixed [0, 7, 8, 2, 11, 12, 14, 15, 16] (by kernel_rfl)
            · repeat' (first | rfl | with_reducible assumption | assumption | constructor)
            intro w17 f17 s17 hf17
            replace hf17 : f17 = [(0, _), (7, _), (8, _), (2, _), (11, _), (12, _), (14, _), (15, _), (16, _)] := hf17
            subst hf17
            exact N.cut ⟨xp, hxpp, fun h => by omega, s16.trans s17, rfl⟩ (sub_keys rfl)
          · refine W.cutS (fun w' g => Same w15 w' ∧ g = [(0, .string s), (7, .slice aA p cA), (8, vb), (2, .slice a2 l2.length c2), (11, .pointer (some ⟨t, 0, none⟩)), (12, vw), (14, .int .i64 (went.count false)), (15, .int .i64 i), (16, .int .i64 ip), (97, .bool false)]) ?_ ?_
            · by_cases h1 : i < l2.length
              · have k3 : Kn (decide ((i : Int) < (l2.length : Int))) true := .yes (by omega)
                have k4 : Kn (decide ((i : Int) < 50)) false := .no (by omega)
                apply W.readN LO mixed [0, 7, 8, 2, 11, 12, 14, 15, 16, 97] (by kernel_rfl)
                · repeat' (first | rfl | with_reducible assumption | assumption | constructor)
                intro w16 f16 s16 hf16
                replace hf16 : f16 = [(0, _), (7, _), (8, _), (2, _), (11, _), (12, _), (14, _), (15, _), (16, _), (97, _)] := hf16
                subst hf16
                exact N.cut ⟨s16, rfl⟩ (sub_keys rfl)
              · have k3 : Kn (decide ((i : Int) < (l2.length : Int))) false := .no (by omega)
                apply W.readN LO mixed [0, 7, 8, 2, 11, 12, 14, 15, 16, 97] (by kernel_rfl)
                · repeat' (first | rfl | with_reducible assumption | assumption | constructor)
                intro w16 f16 s16 hf16
                replace hf16 : f16 = [(0, _), (7, _), (8, _), (2, _), (11, _), (12, _), (14, _), (15, _), (16, _), (97, _)] := hf16
                subst hf16
                exact N.cut ⟨s16, rfl⟩ (sub_keys rfl)
            rintro w16 _ ⟨s16, rfl⟩
            refine W.cond (b := false) rfl (fun h => by cases h) (fun _ => W.skip ?_)
            exact N.cut ⟨ip, hipp, fun _ => hip, s16, rfl⟩ (sub_keys rfl)
        rintro w16 _ ⟨k, hkp, hk50, s16, rfl⟩
        have hPW := hPW.same s16
        have hS := hS.same s16
        have hO := hO.same s16
        clear s16
        obtain ⟨ga, ca, hva', hga, hca, _⟩ := own_pos hPW.oa (by rw [ints_len]; omega)
        obtain ⟨gb, cb, hvb', hgb, hcb, _⟩ := own_pos hPW.ob (by rw [ints_len]; omega)
        obtain ⟨gw, cw, hvw', hgw, hcw, cs, hcs, hcsl, hset⟩ := own_pos hO (by rw [List.length_map]; omega)
        rw [ints_len, ← hlB, ← hp] at hvb'
        rw [List.length_map, hwl] at hvw'
        have hae : aA = some ⟨ga, 0, none⟩ ∧ cA = ca := by rw [hva] at hva'; cases hva'; exact ⟨rfl, rfl⟩
        obtain ⟨rfl, rfl⟩ := hae
        obtain ⟨ak, hak⟩ : ∃ ak, ak = A.getD k 0 := ⟨_, rfl⟩
        obtain ⟨bk, hbk⟩ : ∃ bk, bk = B.getD k 0 := ⟨_, rfl⟩
        have hbnd := hP.bound k (by omega)
        have hb1 := hP.b1 k (by omega)
        rw [← hak, ← hbk] at hbnd
        rw [← hbk] at hb1
        have ek : 0 + (k : Int).toNat * 1 = 0 + k := by omega
        have ca16 : ∀ w', (∀ u, w16.cell? ⟨ga, 0 + k, none⟩ = some u → w'.cell? ⟨ga, 0 + k, none⟩ = some u) → Cl w' ⟨ga, 0 + (k : Int).toNat * 1, none⟩ (.int .i64 ak) := fun w' h => ⟨by
          rw [ek]; exact h _ (by rw [hak]; exact hca k _ (ints_at (by omega)))⟩
        have cb16 : ∀ w', (∀ u, w16.cell? ⟨gb, 0 + k, none⟩ = some u → w'.cell? ⟨gb, 0 + k, none⟩ = some u) → Cl w' ⟨gb, 0 + (k : Int).toNat * 1, none⟩ (.int .i64 bk) := fun w' h => ⟨by
          rw [ek]; exact h _ (by rw [hbk]; exact hcb k _ (ints_at (by omega)))⟩
        have i0 : (0 : Int) ≤ (k : Int) := by omega
        have i1 : (k : Int) < (p : Int) := by omega
        have c1 := ca16 w16 fun u h => h
        have c2' := cb16 w16 fun u h => h
        have k5 : Kn (IntKind.i64.wrap ((ak : Int) + (bk : Int))) ((ak + bk : Nat) : Int) := .of ((IntWalk.i64_in _ (by omega)).trans (by omega))
        have b0 : (0 : Int) ≤ (ak : Int) := by omega
        have b1 : (ak : Int) ≤ ((ak + bk : Nat) : Int) := by omega
        have b2 : ((ak + bk : Nat) : Int) ≤ (s.size : Int) := by omega
        rw [hvb'] at hPW ⊢
        rw [hvw'] at hO ⊢
        rw [hvw'] at hfw hset
        have ex1 : (ak : Int).toNat = ak := by omega
        have ex2 : ((ak + bk : Nat) : Int).toNat = ak + bk := by omega
        apply W.readS LO mixed [0, 7, 8, 2, 11, 12, 14, 15, 16, 17] (by kernel_rfl)
        · repeat' (first | rfl | with_reducible assumption | assumption | constructor)
        intro w17 f17 s17 hf17
        replace hf17 : f17 = [(0, _), (7, _), (8, _), (2, _), (11, _), (12, _), (14, _), (15, _), (16, _), (17, _)] := hf17
        rw [ex1, ex2] at hf17
        subst hf17
        have hPW := hPW.same s17
        have hS := hS.same s17
        have hO := hO.same s17
        have cw17 : Cl w17 ⟨gw, 0 + (k : Int).toNat * 1, none⟩ (.bool (went.getD k false)) := ⟨by
          rw [ek, same_cell s17]; exact hcw k _ (bools_at (by omega))⟩
        obtain ⟨wk, hwk⟩ : ∃ wk, wk = went.getD k false := ⟨_, rfl⟩
        rw [← hwk] at cw17
        refine W.cutS (fun w' g => ∃ body : ByteArray, body.size = bk ∧ (wk = false → body = s.extract ak (ak + bk)) ∧ Mv (fun _ => False) w17 w' ∧ g = [(0, .string s), (7, .slice (some ⟨ga, 0, none⟩) p cA), (8, .slice (some ⟨gb, 0, none⟩) p cb), (2, .slice a2 l2.length c2), (11, .pointer (some ⟨t, 0, none⟩)), (12, .slice (some ⟨gw, 0, none⟩) p cw), (14, .int .i64 ((went.set k true).count false)), (15, .int .i64 i), (16, .int .i64 k), (17, .string body)]) ?_ ?_
        · cases wk with
          | true =>
            apply W.readS LO mixed [0, 7, 8, 2, 11, 12, 14, 15, 16, 123] (by kernel_rfl)
            · repeat' (first | rfl | with_reducible assumption | assumption | constructor)
            intro w18 f18 s18 hf18
            replace hf18 : f18 = [(0, _), (7, _), (8, _), (2, _), (11, _), (12, _), (14, _), (15, _), (16, _), (123, _)] := hf18
            subst hf18
            refine W.cond (b := true) rfl (fun _ => W.list ?_) (fun h => by cases h)
            have c3 := cb16 w18 fun u h => by rw [same_cell s18, same_cell s17]; exact h
            apply Ls.runK LO [0, 7, 8, 2, 11, 12, 14, 15, 16, 127] 4
            · repeat' (first | rfl | with_reducible assumption | assumption | constructor)
            intro w19 f19 s19 hf19
            replace hf19 : f19 = [(0, _), (7, _), (8, _), (2, _), (11, _), (12, _), (14, _), (15, _), (16, _), (127, _)] := hf19
            subst hf19
            refine Ls.makeSlice rfl rfl rfl rfl rfl info_sl8 info_u8 rfl (by omega) (by omega) ?_
            have hb20 := heap_alloc_new w19 (.cells (List.replicate bk (Value.int .u8 0)).toArray 5)
            have m20 : Mv (fun _ => False) w19 (w19.alloc (.cells (List.replicate bk (Value.int .u8 0)).toArray 5)) := (Mv.refl _ w19).alloc _
            generalize w19.alloc (.cells (List.replicate bk (Value.int .u8 0)).toArray 5) = w20 at hb20 m20
            rw [← List.map_replicate] at hb20
            have hcv := conv_bytes (P := Try.prog) (d := 9) (c := bk) info_sl8 und_u8 und_str hb20 (List.length_replicate ..)
            apply Ls.runK LO [0, 7, 8, 2, 11, 12, 14, 15, 16, 17] 2
            · repeat' (first | rfl | with_reducible assumption | assumption | constructor)
            intro w21 f21 s21 hf21
            replace hf21 : f21 = [(0, _), (7, _), (8, _), (2, _), (11, _), (12, _), (14, _), (15, _), (16, _), (17, _)] := hf21
            subst hf21
            rw [set_same hwk.symm]
            exact Ls.nil (N.cut ⟨_, by rw [size_nums, List.length_replicate], (fun h => by cases h), ((((Mv.refl _ w17).same s18).same s19).trans m20).same s21, rfl⟩ (sub_keys rfl))
          | false =>
            apply W.readS LO mixed [0, 7, 8, 2, 11, 12, 14, 15, 16, 17, 123] (by kernel_rfl)
            · repeat' (first | rfl | with_reducible assumption | assumption | constructor)
            intro w18 f18 s18 hf18
            replace hf18 : f18 = [(0, _), (7, _), (8, _), (2, _), (11, _), (12, _), (14, _), (15, _), (16, _), (17, _), (123, _)] := hf18
            subst hf18
            refine W.cond (b := false) rfl (fun h => by cases h) (fun _ => ?_)
            have hct : went.getD k true = false := by
              rw [List.getD_eq_getElem?_getD, List.getElem?_eq_getElem (by omega)] at hwk ⊢
              exact hwk.symm
            have hcs := count_set hct
            have k6 : Kn (IntKind.i64.wrap (((went.count false : Nat) : Int) - 1)) (((went.set k true).count false : Nat) : Int) := .of ((IntWalk.i64_in _ (by have := List.count_le_length (a := false) (l := went); omega)).trans (by omega))
            apply W.readN LO mixed [0, 7, 8, 2, 11, 12, 14, 15, 16, 17] (by kernel_rfl)
            · repeat' (first | rfl | with_reducible assumption | assumption | constructor)
            intro w19 f19 s19 hf19
            replace hf19 : f19 = [(0, _), (7, _), (8, _), (2, _), (11, _), (12, _), (14, _), (15, _), (16, _), (17, _)] := hf19
            subst hf19
            exact N.cut ⟨_, by rw [ByteArray.size_extract]; omega, fun _ => rfl, ((Mv.refl _ w17).same s18).same s19, rfl⟩ (sub_keys rfl)
        rintro w18 _ ⟨body, hbsz, hbody, hm18, rfl⟩
        have hPW := hPW.non hm18
        have hS := hS.non hm18
        have hm1718 : w18.heap[gw]? = some (.cells cs.toArray 4 (0, 0)) := by
          have h17 : w17.heap[gw]? = some (.cells cs.toArray 4 (0, 0)) := by rw [s17.heap]; exact hcs
          exact (hm18.block gw (Array.getElem?_eq_some_iff.1 h17).1 (fun e => e)).trans h17
        -- it went
        refine W.seq (W.list ?_)
        apply Ls.runK LO [0, 7, 8, 2, 11, 12, 14, 15, 16, 17, 134] 3
        · repeat' (first | rfl | with_reducible assumption | assumption | constructor)
        intro w19 f19 s19 hf19
        replace hf19 : f19 = [(0, _), (7, _), (8, _), (2, _), (11, _), (12, _), (14, _), (15, _), (16, _), (17, _), (134, _)] := hf19
        subst hf19
        have hPW := hPW.same s19
        have hS := hS.same s19
        rw [← s19.heap] at hm1718
        have ek' : 0 + (k : Int).toNat * 1 = k := by omega
        rw [List.length_map, hwl] at hcsl
        refine Ls.store LO rfl rfl rfl rfl rfl (vs := [.bool true]) rfl rfl rfl hm1718 (by rw [ek']; exact Nat.ble_eq_true_of_le (by simp only [List.length_singleton]; omega)) ?_
        intro w20 hb20 m20 _
        rw [ek'] at hb20
        have hO20 : Own w20 4 (.slice (some ⟨gw, 0, none⟩) p cw) ((went.set k true).map Value.bool) := by
          rw [List.map_set]
          exact hset w20 k (.bool true) (by rw [List.length_map]; omega) hb20
        have hgww : w.heap.size ≤ gw := hfw gw rfl
        have hS20 := hS.beside m20 hm1718 (by decide) (by decide) hgww
        have hPW20 : PW w w20 va (.slice (some ⟨gb, 0, none⟩) p cb) A B := ⟨own_beside hPW.oa m20 hm1718 (by decide), own_beside hPW.ob m20 hm1718 (by decide), hPW.fa, hPW.fb, hPW.nab⟩
        refine Ls.nil (N.to ?_)
        clear hm18 hm1718 s19 s17 hPW hS hO m20 hb20 hcsl hset hcs c1 c2' cw17 k5 b0 b1 b2
        -- it is told
        obtain ⟨go1, go2⟩ := ord_step (body := body) hP (by omega) hN (by omega) hTO (k := k) (by omega) (by rw [← hbk]; exact hbsz) (by rw [← hak, ← hbk, ← hwk]; exact hbody)
        rw [← hak, ← hp] at go1 go2
        refine W.seq (W.list ?_)
        obtain ⟨ga', ca', hva2, _, hca2, _⟩ := own_pos hPW20.oa (by rw [ints_len]; omega)
        have hga' : ga' = ga := by
          rw [hva] at hva2
          cases hva2; rfl
        subst hga'
        have c4 : Cl w20 ⟨ga', 0 + (k : Int).toNat * 1, none⟩ (.int .i64 ak) := ⟨by rw [ek, hak]; exact hca2 k _ (ints_at (by omega))⟩
        have k6 : Kn (IntKind.i64.wrap ((k : Int) + 1)) ((k + 1 : Nat) : Int) := .of (IntWalk.i64_in _ (by omega))
        have k7 : Kn (decide (((k + 1 : Nat) : Int) < (p : Int))) (decide (k + 1 < p)) := .of (decide_eq_decide.2 (by omega))
        apply Ls.runK LO [0, 7, 8, 2, 11, 12, 14, 15, 16, 136, 146, 147] 12
        · repeat' (first | rfl | with_reducible assumption | assumption | constructor)
        intro w21 f21 s21 hf21
        replace hf21 : f21 = [(0, _), (7, _), (8, _), (2, _), (11, _), (12, _), (14, _), (15, _), (16, _), (136, _), (146, _), (147, _)] := hf21
        subst hf21
        have hPW := hPW20.same s21
        have hO := hO20.same s21
        refine Ls.call LO rfl rfl rfl rfl rfl (vs := [.pointer (some ⟨t, 0, none⟩), .agg (ipVs (i7 (decide (k + 1 < p)) (ak : Int))).toArray, .string body]) rfl (ts_add2 w w21 t 1 9 T (i7 (decide (k + 1 < p)) (ak : Int)) body (hS20.same s21) (ipok (i7 (decide (k + 1 < p)) (ak : Int)) rfl rfl rfl rfl (by show (-9223372036854775808 : Int) ≤ (ak : Int) ∧ (ak : Int) ≤ 9223372036854775807; omega)) (by omega) hallT) ?_
        rintro _ w22 ⟨rfl, hS, hkp, _⟩
        have hPW := hPW.keep hkp
        have hO := own_keep hO hkp (by decide) (by decide)
        refine ⟨_, rfl, ?_⟩
        have hcyc' : ∀ j, 50 ≤ j → j < i + 1 → (went.set k true).getD (j % p) false = true := fun j h1 h2 => by
          rw [getD_set (by omega)]
          by_cases hj : j = i
          · have := hk50 (by omega)
            rw [if_pos (by rw [hj, this])]
          · split
            · rfl
            · exact hcyc j h1 (by omega)
        have hwl' : (went.set k true).length = p := by rw [List.length_set]; exact hwl
        by_cases hall : (went.set k true).count false = 0
        · have hr := go1 (fun j hj => count_zero.1 hall j (by omega))
          rw [hr] at hS ⊢
          rw [hall]
          apply Ls.runK LO [0, 7, 8, 2, 11, 12, 14, 15, 18, 19, 20] 7
          · repeat' (first | rfl | with_reducible assumption | assumption | constructor)
          intro w23 f23 s23 hf23
          replace hf23 : f23 = [(0, _), (7, _), (8, _), (2, _), (11, _), (12, _), (14, _), (15, _), (18, _), (19, _), (20, _)] := hf23
          subst hf23
          refine Ls.nil (N.to ?_)
          have ks : Kn (s.toList == s.toList) true := .of (beq_self_eq_true _)
          apply W.readS LO mixed [0, 7, 8, 2, 11, 12, 14, 15, 175] (by kernel_rfl)
          · repeat' (first | rfl | with_reducible assumption | assumption | constructor)
          intro w24 f24 s24 hf24
          replace hf24 : f24 = [(0, _), (7, _), (8, _), (2, _), (11, _), (12, _), (14, _), (15, _), (175, _)] := hf24
          subst hf24
          refine W.cond (b := false) rfl (fun h => by cases h) (fun _ => W.skip ?_)
          refine N.inb (N.cut ⟨went.set k true, [], hwl', (hPW.same s23).same s24, (hS.same s23).same s24, (hO.same s23).same s24, .inr ⟨hall, rfl⟩, hcyc', ?_⟩ (sub_keys (f := _) (g := [(0, .string s), (2, .slice a2 l2.length c2), (7, .slice (some ⟨ga', 0, none⟩) p cA), (8, .slice (some ⟨gb, 0, none⟩) p cb), (11, .pointer (some ⟨t, 0, none⟩)), (12, .slice (some ⟨gw, 0, none⟩) p cw), (14, .int .i64 0), (15, .int .i64 i)]) rfl))
          rw [hall]; rfl
        · obtain ⟨T', hr, hTO', hallT'⟩ := go2 (by obtain ⟨j, hj, hjf⟩ := count_pos hall; exact ⟨j, by omega, hjf⟩)
          rw [hr] at hS ⊢
          obtain ⟨lf, hlf⟩ : ∃ lf : Int, lf = (((went.set k true).count false : Nat) : Int) := ⟨_, rfl⟩
          rw [← hlf]
          have kl : Kn (lf == 0) false := .of (by rw [beq_eq_false_iff_ne]; omega)
          apply Ls.runK LO [0, 7, 8, 2, 11, 12, 14, 15, 18, 19, 20] 7
          · repeat' (first | rfl | with_reducible assumption | assumption | constructor)
          intro w23 f23 s23 hf23
          replace hf23 : f23 = [(0, _), (7, _), (8, _), (2, _), (11, _), (12, _), (14, _), (15, _), (18, _), (19, _), (20, _)] := hf23
          subst hf23
          refine Ls.nil (N.to ?_)
          have ks : Kn ((⟨#[]⟩ : ByteArray).toList == (⟨#[]⟩ : ByteArray).toList) true := .of isEmpty_em
          apply W.readS LO mixed [0, 7, 8, 2, 11, 12, 14, 15, 175] (by kernel_rfl)
          · repeat' (first | rfl | with_reducible assumption | assumption | constructor)
          intro w24 f24 s24 hf24
          replace hf24 : f24 = [(0, _), (7, _), (8, _), (2, _), (11, _), (12, _), (14, _), (15, _), (175, _)] := hf24
          subst hf24
          refine W.cond (b := false) rfl (fun h => by cases h) (fun _ => W.skip ?_)
          refine N.inb (N.cut ⟨went.set k true, T', hwl', (hPW.same s23).same s24, (hS.same s23).same s24, (hO.same s23).same s24, .inl ⟨hall, hTO', hallT'⟩, hcyc', ?_⟩ (sub_keys (f := _) (g := [(0, .string s), (2, .slice a2 l2.length c2), (7, .slice (some ⟨ga', 0, none⟩) p cA), (8, .slice (some ⟨gb, 0, none⟩) p cb), (11, .pointer (some ⟨t, 0, none⟩)), (12, .slice (some ⟨gw, 0, none⟩) p cw), (14, .int .i64 lf), (15, .int .i64 i)]) rfl))
          rw [hlf]
      · rintro w17 _ ⟨went', T', hwl', hPW, hS, hO, hst', hcyc', rfl⟩
        have k5 : Kn (IntKind.i64.wrap ((i : Int) + 1)) ((i + 1 : Nat) : Int) := .of (IntWalk.i64_in _ (by omega))
        apply W.readN LO mixed [0, 2, 7, 8, 11, 12, 14, 15] (by kernel_rfl)
        · repeat' (first | rfl | with_reducible assumption | assumption | constructor)
        intro w18 f18 s18 hf18
        replace hf18 : f18 = [(0, _), (2, _), (7, _), (8, _), (11, _), (12, _), (14, _), (15, _)] := hf18
        subst hf18
        refine N.round (q - 1) _ (by omega) ⟨i + 1, went', T', .inl (by omega), by omega, hwl', hPW.same s18, hS.same s18, hO.same s18, ?_, hcyc', rfl⟩ (sub_keys rfl)
        rcases hst' with h | h
        · exact .inl ⟨h.1, by omega, h.2⟩
        · exact .inr h
  rintro w12 _ ⟨hS, rfl⟩
  refine W.seq (W.list ?_)
  have ql := quiet_of (w := w12) fun w' s' => ts_len w w' t 1 9 _ (hS.same s')
  apply Ls.runK LO [11, 179, 180] 5
  · repeat' (first | rfl | with_reducible assumption | assumption | constructor)
  intro w13 f13 s13 hf13
  replace hf13 : f13 = [(11, _), (179, _), (180, _)] := hf13
  subst hf13
  refine Ls.call LO rfl rfl rfl rfl rfl (vs := [.pointer (some ⟨t, 0, none⟩)]) rfl (ts_bytes w w13 t 1 9 [] (hS.same s13) (by decide)) ?_
  rintro _ w14 ⟨rfl, hS, _⟩
  refine ⟨_, rfl, ?_⟩
  rw [show sumB [] = 0 from rfl]
  apply Ls.runK LO [184] 3
  · repeat' (first | rfl | with_reducible assumption | assumption | constructor)
  intro w15 f15 s15 hf15
  replace hf15 : f15 = [(184, _)] := hf15
  subst hf15
  refine Ls.call LO rfl rfl rfl rfl rfl (vs := []) rfl (awake_walk w15) ?_
  rintro _ w16 ⟨rfl, hm16⟩
  refine ⟨_, rfl, ?_⟩
  apply Ls.runK LO [6] 2
  · repeat' (first | rfl | with_reducible assumption | assumption | constructor)
  intro w17 f17 s17 hf17
  replace hf17 : f17 = [(6, _)] := hf17
  subst hf17
  refine Ls.nil (N.to (W.ret (post LO (rs := [.tmp 6]) rfl (vs := [.bool true]) (.tmp rfl .nil) ⟨rfl, ((hS.mv.same s15).trans hm16).same s17⟩)))
theorem orders_law (s : ByteArray) (a1 : Option Addr) (c1 : Nat) (l1 : List Int) (a2 : Option Addr) (c2 : Nat) (l2 : List Int) (w : World) (_ : s.size ≤ 140737488351232) (hrow1 : RowK .i64 w a1 l1) (hl1 : ∀ n ∈ l1, (Lit.int .i64 n).wf = true) (hrow2 : RowK .i64 w a2 l2) (hl2 : ∀ n ∈ l2, (Lit.int .i64 n).wf = true) :
    Calls Try.prog 5 #[.string s, .slice a1 l1.length c1, .slice a2 l2.length c2] w (Yes w) :=
  orders_walk s a1 c1 l1 a2 c2 l2 w hrow1 (fun n hn => bounds_i64 (hl1 n hn)) hrow2 (fun n hn => bounds_i64 (hl2 n hn))
end Go.Proofs.Ytnghmaejmfhigaa
