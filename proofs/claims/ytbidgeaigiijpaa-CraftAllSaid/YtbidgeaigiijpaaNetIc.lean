/- What is proved: messages of ICMP: put and got. Conditions: those that stand in each theorem. -/
import Derived.Test.YtbidgeaigiijpaaNetCr4
namespace Go.Proofs.Ytbidgeaigiijpaa
set_option linter.unusedVariables false
set_option linter.unusedSimpArgs false
set_option linter.unusedSectionVars false
open Go.RowKit Fw Nt
theorem frontC_length (s2 s3 : Int) : (frontC s2 s3).data.toList.length = 2 := by
  have := frontC_size s2 s3
  simpa using this
theorem icmp_list (s2 s3 s4 : Int) (body : ByteArray) : (icmpS s2 s3 s4 body).data.toList = (frontC s2 s3).data.toList ++ ((bigS (sumC s2 s3 s4 body) 2).data.toList ++ (backC s4 body).data.toList) := by
  simp only [icmpS, app_list, List.append_assoc]
theorem icmp_ok (s2 s3 s4 : Int) (body : ByteArray) : sumOf (icmpS s2 s3 s4 body).data.toList = 0 := by
  rw [icmp_list]
  unfold sumC
  rw [z2_list]
  exact sum_fill _ _ (by rw [frontC_length])
theorem c_right (s2 s3 s4 : Int) (body : ByteArray) (h2 : 8 + body.size ≤ 2000) : wrongC (icmpS s2 s3 s4 body) = 0 := by
  unfold wrongC
  rw [icmpS_size, if_neg (by omega), if_neg (by omega), if_neg (by rw [icmp_ok]; decide)]
theorem one_byte (v : Int) (h : 0 ≤ v ∧ v ≤ 255) : (bigS v 1).data.toList = [UInt8.ofNat v.toNat] := by
  have e0 : (bigS v 0).data.toList = [] := by simp [bigS, bigL, strOfNums]
  rw [bigS_cons, e0, show (256 : Int) ^ 0 = 1 from rfl, Int.ediv_one, Int.emod_eq_of_lt (by omega) (by omega)]
theorem byte_num (v : Int) (h : 0 ≤ v ∧ v ≤ 255) : (((UInt8.ofNat v.toNat).toNat : Nat) : Int) = v := by
  rw [UInt8.toNat_ofNat', Nat.mod_eq_of_lt (by omega)]
  omega
theorem c_back (s2 s3 s4 : Int) (body : ByteArray) (h2 : 0 ≤ s2 ∧ s2 ≤ 255) (h3 : 0 ≤ s3 ∧ s3 ≤ 255) (h4 : 0 ≤ s4 ∧ s4 ≤ 4294967295) (hb : 8 + body.size ≤ 2000) : getC (icmpS s2 s3 s4 body) = (0, 0, s2, s3, s4, body, 0) := by
  have hw := c_right s2 s3 s4 body hb
  have hl := icmp_list s2 s3 s4 body
  have hB : (backC s4 body).data.toList = (bigS s4 4).data.toList ++ body.data.toList := by simp only [backC, app_list]
  have hF : (frontC s2 s3).data.toList = [UInt8.ofNat s2.toNat, UInt8.ofNat s3.toNat] := by
    simp only [frontC, app_list, one_byte s2 h2, one_byte s3 h3]; rfl
  generalize icmpS s2 s3 s4 body = s at hw hl ⊢
  have l0 : s.data.toList = [] ++ UInt8.ofNat s2.toNat :: (UInt8.ofNat s3.toNat :: ((bigS (sumC s2 s3 s4 body) 2).data.toList ++ (backC s4 body).data.toList)) := by
    rw [hl, hF]; rfl
  have l1 : s.data.toList = [UInt8.ofNat s2.toNat] ++ UInt8.ofNat s3.toNat :: ((bigS (sumC s2 s3 s4 body) 2).data.toList ++ (backC s4 body).data.toList) := by
    rw [hl, hF]; rfl
  have l4 : s.data.toList = ((frontC s2 s3).data.toList ++ (bigS (sumC s2 s3 s4 body) 2).data.toList) ++ ((bigS s4 4).data.toList ++ body.data.toList) := by
    rw [hl, hB]; simp only [List.append_assoc]
  have l8 : s.data.toList = (((frontC s2 s3).data.toList ++ (bigS (sumC s2 s3 s4 body) 2).data.toList) ++ (bigS s4 4).data.toList) ++ body.data.toList := by
    rw [l4]; simp only [List.append_assoc]
  have b0 : bt s 0 = s2 := by
    have := bt_at_list (i := 0) l0 List.length_nil
    rw [byte_num s2 h2] at this
    exact this
  have b1 : bt s 1 = s3 := by
    have := bt_at_list (i := 1) l1 rfl
    rw [byte_num s3 h3] at this
    exact this
  have c4 : (s.extract 4 8).data.toList = (bigS s4 4).data.toList := cut_at l4 (by rw [List.length_append, frontC_length, bigS_length]) (by rw [bigS_length])
  have c8 : s.extract 8 s.size = body := ba_ext (cut_end l8 (by rw [List.length_append, List.length_append, frontC_length, bigS_length, bigS_length]))
  unfold getC
  rw [if_pos hw]
  unfold okC
  rw [c8, numOf_list c4 (by omega), b0, b1, show (256 : Int) ^ 4 = 4294967296 from rfl, Int.emod_eq_of_lt (by omega) (by omega), Int.emod_eq_of_lt (by omega) (by omega)]
def IntsAt (w : World) (v : Value) (l : List Int) : Prop := Rd w 1 v l.length (l.flatMap fun x => [Value.int .i64 x])
theorem und_ints : Try.prog.underlying 91 = some (.slice 3) := by kernel_rfl
theorem info_int : ∃ i, Try.prog.info? 3 = some i ∧ i.zero = some (.int .i64 0) ∧ i.size = 1 ∧ i.bytes = 8 := info_parts (by kernel_rfl)
set_option maxRecDepth 100000 in
set_option maxHeartbeats 4000000 in
theorem din_says (m : Int) (l : List Int) (v : Value) (w : World) (hv : IntsAt w v l) (hall : ∀ x ∈ l, 0 ≤ x ∧ x ≤ m) (hl : l.length ≤ 1000000) : Calls Try.prog 69 #[.int .i64 m, v] w (Says w (.bool true)) := by
  obtain ⟨a, c, hv'⟩ := hv.len
  subst hv'
  refine calls_W (n := 21) (vs := [.int .i64 m, .slice a l.length c]) Try.func69 rfl rfl rfl ?_
  apply W.readS LO mixed [0, 1] (by kernel_rfl)
  · repeat' (first | rfl | with_reducible assumption | assumption | constructor)
  intro w1 f1 s1 hf1
  replace hf1 : f1 = [(0, _), (1, _)] := hf1
  subst hf1
  refine W.cutS (fun w' g => Same w w' ∧ g = []) ?_ ?_
  ·
    apply W.readS LO mixed [0, 7, 8, 9] (by kernel_rfl)
    · repeat' (first | rfl | with_reducible assumption | assumption | constructor)
    intro w2 f2 s2 hf2
    replace hf2 : f2 = [(0, _), (7, _), (8, _), (9, _)] := hf2
    subst hf2
    have s2 := s1.trans s2
    refine W.block (W.loop (fun k w' g => ∃ i : Nat, k + i = l.length ∧ Same w w' ∧ g = [(0, .int .i64 m), (7, .slice a l.length c), (8, .int .i64 l.length), (9, .int .i64 i)]) l.length _ ⟨0, by omega, s2, rfl⟩ (sub_keys rfl) ?_)
    clear s1 s2
    rintro k w3 _ ⟨i, hk, s3, rfl⟩
    by_cases hlt : i < l.length
    · have k1 : Kn (decide ((i : Int) < (l.length : Int))) true := .yes (by omega)
      apply W.readS LO mixed [0, 7, 8, 9, 10] (by kernel_rfl)
      · repeat' (first | rfl | with_reducible assumption | assumption | constructor)
      intro w4 f4 s4 hf4
      replace hf4 : f4 = [(0, _), (7, _), (8, _), (9, _), (10, _)] := hf4
      subst hf4
      have s4 := s3.trans s4
      clear s3
      refine W.seq (W.cond (b := true) rfl (fun _ => W.skip (N.to ?_)) (fun h => by cases h))
      obtain ⟨x, hx⟩ : ∃ x, l[i]? = some x := ⟨_, List.getElem?_eq_getElem hlt⟩
      have hxr := hall x (List.mem_of_getElem? hx)
      refine W.cutS (fun w' g => Same w w' ∧ g = [(0, .int .i64 m), (7, .slice a l.length c), (8, .int .i64 l.length), (9, .int .i64 i)]) ?_ ?_
      · refine W.block ?_
        obtain ⟨b, o, c', hv', hcell⟩ := (Rd.moved hv ((Mv.refl _ w).same s4)).at (f := fun x : Int => [Value.int .i64 x]) (fun _ => rfl) (by decide) hx
        injection hv' with ea _ ec
        subst ea ec
        have i0 : (0 : Int) ≤ (i : Int) := by omega
        have i1 : (i : Int) < (l.length : Int) := by omega
        have cx : Cl w4 ⟨b, o + (i : Int).toNat * 1, none⟩ (.int .i64 x) := by
          cases hcell with | cons hc _ => exact hc
        apply W.readS LO mixed [0, 6, 7, 8, 9] (by kernel_rfl)
        · repeat' (first | rfl | with_reducible assumption | assumption | constructor)
        intro w5 f5 s5 hf5
        replace hf5 : f5 = [(0, _), (6, _), (7, _), (8, _), (9, _)] := hf5
        subst hf5
        have k2 : Kn (decide (x < 0)) false := .no (by omega)
        have k3 : Kn (decide (m < x)) false := .no (by omega)
        apply W.readS LO mixed [0, 7, 8, 9, 19] (by kernel_rfl)
        · repeat' (first | rfl | with_reducible assumption | assumption | constructor)
        intro w6 f6 s6 hf6
        replace hf6 : f6 = [(0, _), (7, _), (8, _), (9, _), (19, _)] := hf6
        subst hf6
        refine W.cond (b := false) rfl (fun h => by cases h) (fun _ => W.skip ?_)
        exact N.inb (N.cut ⟨(s4.trans s5).trans s6, rfl⟩ (sub_keys rfl))
      · clear s4
        rintro w6 _ ⟨s6, rfl⟩
        have k9 : Kn (IntKind.i64.wrap ((i : Int) + 1)) ((i + 1 : Nat) : Int) := i64k (by omega)
        apply W.readN LO mixed [0, 7, 8, 9] (by kernel_rfl)
        · repeat' (first | rfl | with_reducible assumption | assumption | constructor)
        intro w7 f7 s7 hf7
        replace hf7 : f7 = [(0, _), (7, _), (8, _), (9, _)] := hf7
        subst hf7
        exact N.round (k - 1) _ (by omega) ⟨i + 1, by omega, s6.trans s7, rfl⟩ (sub_keys rfl)
    · have k1 : Kn (decide ((i : Int) < (l.length : Int))) false := .no (by omega)
      apply W.readS LO mixed [0, 10] (by kernel_rfl)
      · repeat' (first | rfl | with_reducible assumption | assumption | constructor)
      intro w5 f5 s5 hf5
      replace hf5 : f5 = [(0, _), (10, _)] := hf5
      subst hf5
      refine W.seq (W.cond (b := false) rfl (fun h => by cases h) (fun _ => W.exit ?_))
      exact N.thenE (N.thenE (N.out (N.cut ⟨s3.trans s5, rfl⟩ (sub_keys rfl))))
  clear s1
  rintro w3 _ ⟨s3, rfl⟩
  apply W.readS LO mixed [4] (by kernel_rfl)
  · repeat' (first | rfl | with_reducible assumption | assumption | constructor)
  intro w4 f4 s4 hf4
  replace hf4 : f4 = [(4, _)] := hf4
  subst hf4
  exact W.ret (post LO (rs := [.tmp 4]) rfl (vs := [.bool true]) (.tmp rfl .nil) ⟨rfl, s3.trans s4⟩)
def dgC (k c r : Int) : List Value := [.int .i64 0, .int .i64 0, .int .i64 k, .int .i64 c, .int .u32 r]
set_option maxRecDepth 100000 in
set_option maxHeartbeats 4000000 in
theorem cput_walk (k c r : Int) (body : ByteArray) (w : World) (hk : 0 ≤ k ∧ k ≤ 255) (hc : 0 ≤ c ∧ c ≤ 255) (hr : 0 ≤ r ∧ r ≤ 4294967295) (hb : 8 + body.size ≤ 2000) : Calls Try.prog 46 #[.agg (dgC k c r).toArray, .string body] w fun e w' => e = .returned (.tuple #[.string (icmpS k c r body), .int .i64 0]) ∧ Mv (fun _ => False) w w' := by
  obtain ⟨iS, hiS, hzS, hsS, _⟩ := info_str
  obtain ⟨iI, hiI, hzI, hsI, _⟩ := info_int
  refine calls_W (n := 43) (vs := [.agg (dgC k c r).toArray, .string body]) Try.func46 rfl rfl rfl ?_
  refine W.seq (W.list ?_)
  refine Ls.box rfl rfl rfl rfl rfl (vs := dgC k c r) rfl ?_
  have hb1 : BX (w.alloc (.cells (dgC k c r).toArray 56)) w.heap.size 56 (dgC k c r) := heap_alloc_new w (.cells (dgC k c r).toArray 56)
  have m1 : Mv (fun _ => False) w (w.alloc (.cells (dgC k c r).toArray 56)) := (Mv.refl _ w).alloc _
  generalize w.alloc (.cells (dgC k c r).toArray 56) = w1 at hb1 m1
  generalize w.heap.size = p at hb1
  apply Ls.runK LO [1, 2] 2
  · repeat' (first | rfl | with_reducible assumption | assumption | constructor)
  intro w2 f2 s2 hf2
  replace hf2 : f2 = [(1, _), (2, _)] := hf2
  subst hf2
  refine Ls.nil (N.to ?_)
  have m2 := m1.same s2
  have hb2 := hb1.same s2
  clear m1 hb1 s2
  refine W.cutS (fun w' g => Mv (fun _ => False) w w' ∧ BX w' p 56 (dgC k c r) ∧ g = [(1, .string body), (2, .pointer (some ⟨p, 0, none⟩))]) ?_ ?_
  · refine W.block ?_
    refine W.seq (W.list ?_)
    have d2 : Cl w2 ⟨p, 0 + 2, none⟩ (.int .i64 k) := hb2.cl rfl
    have d3 : Cl w2 ⟨p, 0 + 3, none⟩ (.int .i64 c) := hb2.cl rfl
    apply Ls.runK LO [1, 2, 10, 12] 4
    · repeat' (first | rfl | with_reducible assumption | assumption | constructor)
    intro w3 f3 s3 hf3
    replace hf3 : f3 = [(1, _), (2, _), (10, _), (12, _)] := hf3
    subst hf3
    refine Ls.buildZ [(.int .i64 k, [.int .i64 k]), (.int .i64 c, [.int .i64 c])] rfl rfl rfl rfl und_ints hiI hzI hsI rfl rfl rfl rfl rfl rfl (fun p hp => by
      simp only [List.mem_cons, List.not_mem_nil, or_false] at hp
      rcases hp with rfl | rfl <;> exact ⟨rfl, rfl⟩) ?_
    have hx4 := heap_alloc_new w3 (.cells [Value.int .i64 k, .int .i64 c].toArray 3)
    have l4 : Mv (fun _ => False) w3 (w3.alloc (.cells [Value.int .i64 k, .int .i64 c].toArray 3)) := (Mv.refl _ w3).alloc _
    show Ls Try.prog 43 _ _ _ (w3.alloc (.cells [Value.int .i64 k, .int .i64 c].toArray 3)) _
    generalize w3.alloc (.cells [Value.int .i64 k, .int .i64 c].toArray 3) = w4 at hx4 l4
    have hst : IntsAt w4 (.slice (some ⟨w3.heap.size, 0, none⟩) 2 2) [k, c] := Rd.new hx4 rfl
    refine Ls.call LO rfl rfl rfl rfl rfl (vs := [.int .i64 255, .slice (some ⟨w3.heap.size, 0, none⟩) 2 2]) rfl (din_says 255 [k, c] _ w4 hst (by
      intro x hx
      simp only [List.mem_cons, List.not_mem_nil, or_false] at hx
      rcases hx with rfl | rfl
      · exact hk
      · exact hc) (show 2 ≤ 1000000 by decide)) ?_
    rintro _ w5 ⟨rfl, s5⟩
    refine ⟨_, rfl, ?_⟩
    have m5 := ((m2.same s3).trans l4).same s5
    have hb5 := ((hb2.same s3).moved l4 fun e => e).same s5
    apply Ls.runK LO [1, 2, 8] 2
    · repeat' (first | rfl | with_reducible assumption | assumption | constructor)
    intro w6 f6 s6 hf6
    replace hf6 : f6 = [(1, _), (2, _), (8, _)] := hf6
    subst hf6
    refine Ls.nil (N.to ?_)
    refine W.cond (b := false) rfl (fun h => by cases h) (fun _ => ?_)
    have m6 := m5.same s6
    have hb6 := hb5.same s6
    have k1 : Kn (IntKind.i64.wrap (8 + (body.size : Int))) ((8 + body.size : Nat) : Int) := .of (by rw [show 8 + (body.size : Int) = ((8 + body.size : Nat) : Int) by omega]; exact IntWalk.i64_in _ (by omega))
    have k2 : Kn (decide (2000 < ((8 + body.size : Nat) : Int))) false := .no (by omega)
    apply W.readS LO mixed [1, 2, 16] (by kernel_rfl)
    · repeat' (first | rfl | with_reducible assumption | assumption | constructor)
    intro w7 f7 s7 hf7
    replace hf7 : f7 = [(1, _), (2, _), (16, _)] := hf7
    subst hf7
    refine W.cond (b := false) rfl (fun h => by cases h) (fun _ => W.skip ?_)
    exact N.inb (N.cut ⟨m6.same s7, hb6.same s7, rfl⟩ (sub_keys rfl))
  clear m2 hb2
  rintro w4 _ ⟨m4, hb4, rfl⟩
  have F2 : ∀ w', Mv (fun _ => False) w4 w' → Cl w' ⟨p, 0 + 2, none⟩ (.int .i64 k) := fun w' m => (hb4.moved m fun e => e).cl rfl
  have F3 : ∀ w', Mv (fun _ => False) w4 w' → Cl w' ⟨p, 0 + 3, none⟩ (.int .i64 c) := fun w' m => (hb4.moved m fun e => e).cl rfl
  have F4 : ∀ w', Mv (fun _ => False) w4 w' → Cl w' ⟨p, 0 + 4, none⟩ (.int .u32 r) := fun w' m => (hb4.moved m fun e => e).cl rfl
  have kr : Kn (IntKind.i64.wrap r) r := i64k (by omega)
  refine W.seq (W.held mixed (fun w' => Mv (fun _ => False) w4 w') [] 15 rfl (fun w' s => (Mv.refl _ w4).same s) ?_)
  intro x0 s0
  have m0 : Mv (fun _ => False) w4 x0 := (Mv.refl _ w4).same s0
  apply H.takesK LO true [1, 2, 22, 25, 30, 32] [0, 1, 3, 4, 7, 8, 9, 11] (k := 7) rfl (by kernel_rfl)
  · repeat' (first | rfl | with_reducible assumption | assumption | (intro w' hw'; replace hw' := hw' rfl; have h0' := F2 w' hw'; have h1' := F3 w' hw'; have h2' := F4 w' hw') | constructor)
  intro g_ hg_
  replace hg_ : g_ = [(1, _), (2, _), (22, _), (25, _), (30, _), (32, _)] := hg_
  subst hg_
  refine H.only (i := 2) rfl (by kernel_rfl) ?_
  refine Ls.call LO rfl rfl rfl rfl rfl (vs := [.int .i64 k, .int .i64 1]) rfl (big_walk k 1 x0 (by decide)) ?_
  rintro _ x1 ⟨rfl, n1⟩
  have n1 := m0.trans n1
  refine ⟨_, rfl, Ls.nil (N.goOn (fun _ => n1) ?_)⟩
  refine H.only (i := 5) rfl (by kernel_rfl) ?_
  refine Ls.call LO rfl rfl rfl rfl rfl (vs := [.int .i64 c, .int .i64 1]) rfl (big_walk c 1 x1 (by decide)) ?_
  rintro _ x2 ⟨rfl, n2⟩
  have n2 := n1.trans n2
  refine ⟨_, rfl, Ls.nil (N.goOn (fun _ => n2) ?_)⟩
  have z1 := sz2 (szb k 1) (szb c 1) (by decide)
  apply H.takesK LO false [1, 27, 30, 32] [6] (k := 4) rfl (by kernel_rfl)
  · repeat' (first | rfl | with_reducible assumption | assumption | (intro w' hw'; replace hw' := True.intro) | constructor)
  intro g_ hg_
  replace hg_ : g_ = [(1, _), (27, _), (30, _), (32, _)] := hg_
  subst hg_
  refine H.only (i := 10) rfl (by kernel_rfl) ?_
  refine Ls.call LO rfl rfl rfl rfl rfl (vs := [.int .i64 r, .int .i64 4]) rfl (big_walk r 4 x2 (by decide)) ?_
  rintro _ x3 ⟨rfl, n3⟩
  have n3 := n2.trans n3
  refine ⟨_, rfl, Ls.nil (N.goOn (fun _ => n3) ?_)⟩
  have hbs : body.size ≤ 1992 := by omega
  have z2 := sz2 (szb r 4) hbs (by decide)
  apply H.takesK LO false [6, 7] [12, 13, 14] (k := 0) rfl (by kernel_rfl)
  · repeat' (first | rfl | with_reducible assumption | assumption | (intro w' hw'; replace hw' := True.intro) | constructor)
  intro g_ hg_
  replace hg_ : g_ = [(6, _), (7, _)] := hg_
  subst hg_
  refine H.done (by kernel_rfl) (N.to ?_)
  have m6 := m4.trans n3
  obtain ⟨A, hA⟩ : ∃ A, A = bigS k 1 ++ bigS c 1 := ⟨_, rfl⟩
  obtain ⟨B, hB⟩ : ∃ B, B = bigS r 4 ++ body := ⟨_, rfl⟩
  have y1 : A.size ≤ 2 := by rw [hA]; exact szap (szb k 1) (szb c 1)
  have y2 : B.size ≤ 1996 := by rw [hB]; exact szap (szb r 4) hbs
  rw [← hA, ← hB]
  clear F2 F3 F4 kr m0 n1 n2 n3 s0 z1 z2 m4 hb4
  refine W.seq (W.list ?_)
  apply Ls.runK LO [7, 34, 35, 36] 3
  · repeat' (first | rfl | with_reducible assumption | assumption | constructor)
  intro u1 e1 r1 he1
  replace he1 : e1 = [(7, _), (34, _), (35, _), (36, _)] := he1
  subst he1
  refine Ls.buildZ [(.string A, [.string A]), (.string ⟨#[0, 0]⟩, [.string ⟨#[0, 0]⟩]), (.string B, [.string B])] rfl rfl rfl rfl und_strs hiS hzS hsS rfl rfl rfl rfl rfl rfl (fun p hp => by
    simp only [List.mem_cons, List.not_mem_nil, or_false] at hp
    rcases hp with rfl | rfl | rfl <;> exact ⟨rfl, rfl⟩) ?_
  have hx2 := heap_alloc_new u1 (.cells [Value.string A, .string ⟨#[0, 0]⟩, .string B].toArray 9)
  have l2 : Mv (fun _ => False) u1 (u1.alloc (.cells [Value.string A, .string ⟨#[0, 0]⟩, .string B].toArray 9)) := (Mv.refl _ u1).alloc _
  show Ls Try.prog 43 _ _ _ (u1.alloc (.cells [Value.string A, .string ⟨#[0, 0]⟩, .string B].toArray 9)) _
  generalize u1.alloc (.cells [Value.string A, .string ⟨#[0, 0]⟩, .string B].toArray 9) = u2 at hx2 l2
  have hst : StrsAt u2 (.slice (some ⟨u1.heap.size, 0, none⟩) 3 3) [A, ⟨#[0, 0]⟩, B] := Rd.new hx2 rfl
  have m7 := (m6.same r1).trans l2
  have hcl : cat [A, ⟨#[0, 0]⟩, B] = A.data.toList ++ (z2.data.toList ++ B.data.toList) := cat_three A z2 B
  refine Ls.call LO rfl rfl rfl rfl rfl (vs := [.slice (some ⟨u1.heap.size, 0, none⟩) 3 3]) rfl (of_says _ [A, ⟨#[0, 0]⟩, B] u2 hst (show 3 ≤ 1000000 by decide) (by rw [hcl]; simp only [List.length_append, list_len, z2_size]; omega)) ?_
  rintro _ u3 ⟨rfl, r3⟩
  refine ⟨_, rfl, ?_⟩
  rw [hcl]
  obtain ⟨S_, hS⟩ : ∃ S_, S_ = sumOf (A.data.toList ++ (z2.data.toList ++ B.data.toList)) := ⟨_, rfl⟩
  rw [← hS]
  refine Ls.call LO rfl rfl rfl rfl rfl (vs := [.int .i64 S_, .int .i64 2]) rfl (big_walk S_ 2 u3 (by decide)) ?_
  rintro _ u4 ⟨rfl, l4⟩
  refine ⟨_, rfl, ?_⟩
  have m8 := (m7.same r3).trans l4
  have z1 := sz2 y1 (szb S_ 2) (by decide)
  have z2' := sz2 (szap y1 (szb S_ 2)) y2 (by decide)
  apply Ls.runK LO [4, 5] 5
  · repeat' (first | rfl | with_reducible assumption | assumption | constructor)
  intro u5 e5 r5 he5
  replace he5 : e5 = [(4, _), (5, _)] := he5
  subst he5
  have eI : A ++ bigS S_ 2 ++ B = icmpS k c r body := by rw [hS, hA, hB]; rfl
  rw [eI]
  exact Ls.nil (N.to (W.ret (post LO (rs := [.tmp 4, .tmp 5]) rfl (vs := [.string (icmpS k c r body), .int .i64 0]) (.tmp rfl (.tmp rfl .nil)) ⟨rfl, m8.same r5⟩)))
/-! ### Get -/
set_option maxRecDepth 100000 in
theorem c1_says (s : ByteArray) (w : World) : Calls Try.prog 49 #[.string s] w (Says w (.bool false)) := by
  refine calls_W (n := 3) (vs := [.string s]) Try.func49 rfl rfl rfl ?_
  apply W.readS LO mixed [0] (by kernel_rfl)
  · repeat' (first | rfl | with_reducible assumption | assumption | constructor)
  intro w1 f1 s1 hf1
  replace hf1 : f1 = [(0, _)] := hf1
  subst hf1
  apply W.readS LO mixed [2] (by kernel_rfl)
  · repeat' (first | rfl | with_reducible assumption | assumption | constructor)
  intro w2 f2 s2 hf2
  replace hf2 : f2 = [(2, _)] := hf2
  subst hf2
  exact W.ret (post LO (rs := [.tmp 2]) rfl (vs := [.bool false]) (.tmp rfl .nil) ⟨rfl, s1.trans s2⟩)
set_option maxRecDepth 100000 in
theorem c2_walk (s : ByteArray) (w : World) (hs : s.size ≤ 1000000) : Calls Try.prog 50 #[.string s] w fun e w' => e = .returned (.bool (sumOf s.data.toList != 0)) ∧ Mv (fun _ => False) w w' := by
  obtain ⟨iS, hiS, hzS, hsS, _⟩ := info_str
  refine calls_W (n := 7) (vs := [.string s]) Try.func50 rfl rfl rfl ?_
  apply W.readS LO mixed [0] (by kernel_rfl)
  · repeat' (first | rfl | with_reducible assumption | assumption | constructor)
  intro w1 f1 s1 hf1
  replace hf1 : f1 = [(0, _)] := hf1
  subst hf1
  refine W.seq (W.list ?_)
  apply Ls.runK LO [3] 1
  · repeat' (first | rfl | with_reducible assumption | assumption | constructor)
  intro u1 e1 r1 he1
  replace he1 : e1 = [(3, _)] := he1
  subst he1
  refine Ls.buildZ [(.string s, [.string s])] rfl rfl rfl rfl und_strs hiS hzS hsS rfl rfl rfl rfl rfl rfl (fun p hp => by
    simp only [List.mem_cons, List.not_mem_nil, or_false] at hp
    rcases hp with rfl
    exact ⟨rfl, rfl⟩) ?_
  have hx2 := heap_alloc_new u1 (.cells [Value.string s].toArray 9)
  have l2 : Mv (fun _ => False) u1 (u1.alloc (.cells [Value.string s].toArray 9)) := (Mv.refl _ u1).alloc _
  show Ls Try.prog 7 _ _ _ (u1.alloc (.cells [Value.string s].toArray 9)) _
  generalize u1.alloc (.cells [Value.string s].toArray 9) = u2 at hx2 l2
  have hst : StrsAt u2 (.slice (some ⟨u1.heap.size, 0, none⟩) 1 1) [s] := Rd.new hx2 rfl
  have hcl : cat [s] = s.data.toList := by simp [cat]
  refine Ls.call LO rfl rfl rfl rfl rfl (vs := [.slice (some ⟨u1.heap.size, 0, none⟩) 1 1]) rfl (of_says _ [s] u2 hst (show 1 ≤ 1000000 by decide) (by rw [hcl, list_len]; omega)) ?_
  rintro _ u3 ⟨rfl, r3⟩
  refine ⟨_, rfl, ?_⟩
  rw [hcl]
  have m3 := ((((Mv.refl _ w).same s1).same r1).trans l2).same r3
  apply Ls.runK LO [2] 2
  · repeat' (first | rfl | with_reducible assumption | assumption | constructor)
  intro u4 e4 r4 he4
  replace he4 : e4 = [(2, _)] := he4
  subst he4
  exact Ls.nil (N.to (W.ret (post LO (rs := [.tmp 2]) rfl (vs := [.bool (sumOf s.data.toList != 0)]) (.tmp rfl .nil) ⟨rfl, m3.same r4⟩)))
/-- A message that is right: nothing is wrong of it. -/
theorem wrongC_zero {s : ByteArray} (h : wrongC s = 0) : 8 ≤ s.size ∧ s.size ≤ 2000 ∧ sumOf s.data.toList = 0 := by
  unfold wrongC at h
  split at h
  · cases h
  · split at h
    · cases h
    · split at h
      · cases h
      · rename_i a b c
        exact ⟨by omega, by omega, Classical.not_not.1 c⟩
set_option maxRecDepth 100000 in
set_option maxHeartbeats 4000000 in
theorem cwrong_walk (s : ByteArray) (w : World) (h : wrongC s = 0) : Calls Try.prog 48 #[.string s, .func (.func 49) #[] #[], .func (.func 50) #[] #[]] w fun e w' => e = .returned (.int .i64 0) ∧ Mv (fun _ => False) w w' := by
  obtain ⟨h8, h2000, h0⟩ := wrongC_zero h
  refine calls_W (n := 23) (vs := [.string s, .func (.func 49) #[] #[], .func (.func 50) #[] #[]]) Try.func48 rfl rfl rfl ?_
  apply W.readS LO mixed [0, 1, 2] (by kernel_rfl)
  · repeat' (first | rfl | with_reducible assumption | assumption | constructor)
  intro w1 f1 s1 hf1
  replace hf1 : f1 = [(0, _), (1, _), (2, _)] := hf1
  subst hf1
  have m1 : Mv (fun _ => False) w w1 := (Mv.refl _ w).same s1
  refine W.cutS (fun w' g => Mv (fun _ => False) w w' ∧ g = []) ?_ ?_
  · refine W.block ?_
    have k1 : Kn (decide ((s.size : Int) < 8)) false := .no (by omega)
    apply W.readS LO mixed [0, 1, 2, 7] (by kernel_rfl)
    · repeat' (first | rfl | with_reducible assumption | assumption | constructor)
    intro w2 f2 s2 hf2
    replace hf2 : f2 = [(0, _), (1, _), (2, _), (7, _)] := hf2
    subst hf2
    refine W.cond (b := false) rfl (fun h => by cases h) (fun _ => ?_)
    refine W.seq (W.list ?_)
    apply Ls.runK LO [0, 2, 12, 13] 2
    · repeat' (first | rfl | with_reducible assumption | assumption | constructor)
    intro w3 f3 s3 hf3
    replace hf3 : f3 = [(0, _), (2, _), (12, _), (13, _)] := hf3
    subst hf3
    refine Ls.callF LO rfl rfl rfl rfl rfl rfl (vs := [.string s]) rfl (c1_says s w3) ?_
    rintro _ w4 ⟨rfl, s4⟩
    refine ⟨_, rfl, ?_⟩
    apply Ls.runK LO [0, 2, 11] 1
    · repeat' (first | rfl | with_reducible assumption | assumption | constructor)
    intro w5 f5 s5 hf5
    replace hf5 : f5 = [(0, _), (2, _), (11, _)] := hf5
    subst hf5
    refine Ls.nil (N.to ?_)
    have m5 := (((m1.same s2).same s3).same s4).same s5
    refine W.cond (b := false) rfl (fun h => by cases h) (fun _ => ?_)
    have k2 : Kn (decide (2000 < (s.size : Int))) false := .no (by omega)
    apply W.readS LO mixed [0, 2, 15] (by kernel_rfl)
    · repeat' (first | rfl | with_reducible assumption | assumption | constructor)
    intro w6 f6 s6 hf6
    replace hf6 : f6 = [(0, _), (2, _), (15, _)] := hf6
    subst hf6
    refine W.cond (b := false) rfl (fun h => by cases h) (fun _ => ?_)
    refine W.seq (W.list ?_)
    apply Ls.runK LO [20, 21] 2
    · repeat' (first | rfl | with_reducible assumption | assumption | constructor)
    intro w7 f7 s7 hf7
    replace hf7 : f7 = [(20, _), (21, _)] := hf7
    subst hf7
    refine Ls.callF LO rfl rfl rfl rfl rfl rfl (vs := [.string s]) rfl (c2_walk s w7 (by omega)) ?_
    rintro _ w8 ⟨rfl, m8⟩
    refine ⟨_, rfl, ?_⟩
    rw [show (sumOf s.data.toList != 0) = false by rw [h0]; rfl]
    apply Ls.runK LO [19] 1
    · repeat' (first | rfl | with_reducible assumption | assumption | constructor)
    intro w9 f9 s9 hf9
    replace hf9 : f9 = [(19, _)] := hf9
    subst hf9
    refine Ls.nil (N.to ?_)
    refine W.cond (b := false) rfl (fun h => by cases h) (fun _ => W.skip ?_)
    exact N.inb (N.cut ⟨(((m5.same s6).same s7).trans m8).same s9, rfl⟩ (sub_keys rfl))
  clear m1
  rintro w2 _ ⟨m2, rfl⟩
  apply W.readS LO mixed [6] (by kernel_rfl)
  · repeat' (first | rfl | with_reducible assumption | assumption | constructor)
  intro w3 f3 s3 hf3
  replace hf3 : f3 = [(6, _)] := hf3
  subst hf3
  exact W.ret (post LO (rs := [.tmp 6]) rfl (vs := [.int .i64 0]) (.tmp rfl .nil) ⟨rfl, m2.same s3⟩)
set_option maxRecDepth 100000 in
set_option maxHeartbeats 8000000 in
theorem cget_walk (s : ByteArray) (w : World) (h : wrongC s = 0) : Calls Try.prog 29 #[.string s] w fun e w' => e = .returned (.tuple #[.agg (dgC (bt s 0) (bt s 1) (numOf (s.extract 4 8) % 4294967296)).toArray, .string (s.extract 8 s.size), .int .i64 0]) ∧ Mv (fun _ => False) w w' := by
  obtain ⟨h8, h2000, _⟩ := wrongC_zero h
  refine calls_W (n := 25) (vs := [.string s]) Try.func29 rfl rfl rfl ?_
  refine W.seq (W.list ?_)
  refine Ls.alloc LO rfl rfl rfl rfl (zs := dgC 0 0 0) rfl ?_
  have hb1 : BX (w.alloc (.cells (dgC 0 0 0).toArray 56)) w.heap.size 56 (dgC 0 0 0) := heap_alloc_new w (.cells (dgC 0 0 0).toArray 56)
  have m1 : Mv (fun _ => False) w (w.alloc (.cells (dgC 0 0 0).toArray 56)) := (Mv.refl _ w).alloc _
  generalize w.alloc (.cells (dgC 0 0 0).toArray 56) = w1 at hb1 m1
  obtain ⟨p, hp⟩ : ∃ p, p = w.heap.size := ⟨_, rfl⟩
  rw [← hp] at hb1
  rw [← hp]
  apply Ls.runK LO [0, 2] 2
  · repeat' (first | rfl | with_reducible assumption | assumption | constructor)
  intro w2 f2 s2 hf2
  replace hf2 : f2 = [(0, _), (2, _)] := hf2
  subst hf2
  refine Ls.nil (N.to ?_)
  have m2 := m1.same s2
  have hb2 := hb1.same s2
  clear m1 hb1 s2
  refine W.seq (W.list ?_)
  apply Ls.runK LO [0, 2, 6] 1
  · repeat' (first | rfl | with_reducible assumption | assumption | constructor)
  intro w3 f3 s3 hf3
  replace hf3 : f3 = [(0, _), (2, _), (6, _)] := hf3
  subst hf3
  refine Ls.call LO rfl rfl rfl rfl rfl (vs := [.string s, .func (.func 49) #[] #[], .func (.func 50) #[] #[]]) rfl (cwrong_walk s w3 h) ?_
  rintro _ w4 ⟨rfl, m4⟩
  refine ⟨_, rfl, ?_⟩
  have hb4 := (hb2.same s3).moved m4 fun e => e
  have m4 := (m2.same s3).trans m4
  apply Ls.runK LO [0, 2, 5] 1
  · repeat' (first | rfl | with_reducible assumption | assumption | constructor)
  intro w5 f5 s5 hf5
  replace hf5 : f5 = [(0, _), (2, _), (5, _)] := hf5
  subst hf5
  refine Ls.nil (N.to ?_)
  have k1 : Kn ((0 : Int) != 0) false := .of rfl
  refine W.seq ?_
  apply W.readS LO mixed [0, 2, 9] (by kernel_rfl)
  · repeat' (first | rfl | with_reducible assumption | assumption | constructor)
  intro w6 f6 s6 hf6
  replace hf6 : f6 = [(0, _), (2, _), (9, _)] := hf6
  subst hf6
  refine W.cond (b := false) rfl (fun h => by cases h) (fun _ => W.skip (N.to ?_))
  have m6 := (m4.same s5).same s6
  have hb6 := (hb4.same s5).same s6
  clear m2 hb2 s3 m4 hb4 s5 s6 k1
  have r0 := bt_range s 0
  have r1 := bt_range s 1
  have g0 : (0 : Int) ≤ 0 := by decide
  have g0' : (0 : Int) < (s.size : Int) := by omega
  have g1 : (0 : Int) ≤ 1 := by decide
  have g1' : (1 : Int) < (s.size : Int) := by omega
  have g4 : (0 : Int) ≤ 4 := by decide
  have g48 : (4 : Int) ≤ 8 := by decide
  have g8 : (8 : Int) ≤ (s.size : Int) := by omega
  have g08 : (0 : Int) ≤ 8 := by decide
  obtain ⟨v0, hv0⟩ : ∃ v, v = bt s 0 := ⟨_, rfl⟩
  obtain ⟨v1, hv1⟩ : ∃ v, v = bt s 1 := ⟨_, rfl⟩
  obtain ⟨v4, hv4⟩ : ∃ v, v = numOf (s.extract 4 8) := ⟨_, rfl⟩
  have k0 : Kn (IntKind.i64.wrap (bt s 0)) v0 := .of (by rw [hv0]; exact IntWalk.i64_in _ (by omega))
  have k1 : Kn (IntKind.i64.wrap (bt s 1)) v1 := .of (by rw [hv1]; exact IntWalk.i64_in _ (by omega))
  have k4 : Kn (IntKind.u32.wrap v4) (v4 % 4294967296) := .of (by rw [IntKind.wrap_u32])
  refine W.seq (W.held mixed (fun w' => True) [] 16 rfl (fun w' s => True.intro) ?_)
  intro x0 s0
  apply H.takesK LO false [2, 14, 17, 19, 24] [0, 1, 2, 3, 4, 5, 6, 7, 11, 12] (k := 6) rfl (by kernel_rfl)
  · repeat' (first | rfl | with_reducible assumption | assumption | (intro w' hw'; replace hw' := True.intro) | constructor)
  intro g_ hg_
  replace hg_ : g_ = [(2, _), (14, _), (17, _), (19, _), (24, _)] := hg_
  subst hg_
  have n0 : Mv (fun _ => False) w6 x0 := (Mv.refl _ w6).same s0
  refine H.only (i := 8) rfl (by kernel_rfl) ?_
  refine Ls.call LO rfl rfl rfl rfl rfl (vs := [.string (s.extract 4 8)]) rfl (num_walk (s.extract 4 8) x0 (by simp; omega)) ?_
  rintro _ x1 ⟨rfl, n1⟩
  have n1 := n0.trans n1
  rw [← hv4]
  refine ⟨_, rfl, Ls.nil (N.goOn (fun _ => True.intro) ?_)⟩
  apply H.takesK LO false [2, 22, 24] [9, 10] (k := 3) rfl (by kernel_rfl)
  · repeat' (first | rfl | with_reducible assumption | assumption | (intro w' hw'; replace hw' := True.intro) | constructor)
  intro g_ hg_
  replace hg_ : g_ = [(2, _), (22, _), (24, _)] := hg_
  subst hg_
  refine H.only (i := 13) rfl (by kernel_rfl) ?_
  refine Ls.store LO rfl rfl rfl rfl rfl (vs := dgC v0 v1 (v4 % 4294967296)) rfl rfl rfl (hb6.moved n1 fun e => e) rfl ?_
  intro x2 hb7 n2 _
  have hb7 : BX x2 p 56 (dgC v0 v1 (v4 % 4294967296)) := hb7
  refine Ls.nil (N.goOn (fun _ => True.intro) ?_)
  apply H.takesK LO false [2, 3, 4] [14, 15] (k := 0) rfl (by kernel_rfl)
  · repeat' (first | rfl | with_reducible assumption | assumption | (intro w' hw'; replace hw' := True.intro) | constructor)
  intro g_ hg_
  replace hg_ : g_ = [(2, _), (3, _), (4, _)] := hg_
  subst hg_
  refine H.done (by kernel_rfl) (N.to (W.ret ?_))
  rw [← hv0, ← hv1]
  have hl : CellsAt x2 p 0 5 (dgC v0 v1 (v4 % 4294967296)) := hb7.cells
  exact post LO (rs := [.cell 2 56, .tmp 3, .tmp 4]) rfl (vs := [.agg (dgC v0 v1 (v4 % 4294967296)).toArray, .string (s.extract 8 s.size), .int .i64 0]) (.cell rfl rfl (.agg hl) (.tmp rfl (.tmp rfl .nil))) ⟨rfl, (m6.trans n1).cut n2 fun k hk e => by omega⟩
/-- What was put is got. -/
theorem cget_as {k c r : Int} {body : ByteArray} (w : World) (hk : 0 ≤ k ∧ k ≤ 255) (hc : 0 ≤ c ∧ c ≤ 255) (hr : 0 ≤ r ∧ r ≤ 4294967295) (hb : 8 + body.size ≤ 2000) : Calls Try.prog 29 #[.string (icmpS k c r body)] w fun e w' => e = .returned (.tuple #[.agg (dgC k c r).toArray, .string body, .int .i64 0]) ∧ Mv (fun _ => False) w w' := by
  have hw := c_right k c r body hb
  have hg := c_back k c r body hk hc hr hb
  have := cget_walk (icmpS k c r body) w hw
  generalize icmpS k c r body = s at hw hg this ⊢
  unfold getC at hg
  rw [if_pos hw] at hg
  unfold okC at hg
  simp only [Prod.mk.injEq] at hg
  obtain ⟨_, _, e1, e2, e3, e4, _⟩ := hg
  rw [e1, e2, e3, e4] at this
  exact this
end Go.Proofs.Ytbidgeaigiijpaa
