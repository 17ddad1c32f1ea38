/- What is proved: resets; that what is made is got again. Conditions: those that stand in each theorem. -/
import Derived.Test.YtbidgeaigiijpaaNetCr2
import Derived.Test.YtbidgeaigiijpaaNetTcp3
import Derived.Test.YtbidgeaigiijpaaNetIp4
namespace Go.Proofs.Ytbidgeaigiijpaa
set_option linter.unusedVariables false
set_option linter.unusedSimpArgs false
set_option linter.unusedSectionVars false
open Go.RowKit Fw Nt
def turnF (back : Bool) : Nat := bif back then 32 else 31
def turnE (back : Bool) (e : EthV) : EthV := bif back then ⟨e.s, e.d, e.t⟩ else e
def turnI (back : Bool) (i : IpV) : IpV := bif back then i.back else i.plain
def turnH (back : Bool) (h : SegV) : SegV := bif back then ⟨h.dp, h.sp, h.seq, h.ack, h.flags, h.win, h.o⟩ else h
def rstH (h : SegV) (seq ack : Int) : SegV := ⟨h.sp, h.dp, seq, ack, 20, 0, ⟨#[]⟩⟩
def resetS (e : EthV) (i : IpV) (h : SegV) (seq ack : Int) (back : Bool) : ByteArray := segS (turnE back e) (turnI back i) (rstH (turnH back h) seq ack) ⟨#[]⟩
theorem turn_walk (back : Bool) (f g : Nat → Int) (t : Int) (i : IpV) (w : World) : Calls Try.prog (turnF back) #[.agg (two f g t i).toArray] w fun e w' => e = .returned (.agg (two (bif back then g else f) (bif back then f else g) t (turnI back i)).toArray) ∧ Mv (fun _ => False) w w' := by
  cases back
  · exact plain_walk f g t i w
  · exact back_walk f g t i w
theorem turnE_ok {back : Bool} {e : EthV} (ok : e.Ok) : (turnE back e).Ok := by
  cases back
  · exact ok
  · exact ⟨ok.s, ok.d⟩
theorem turnI_ok {back : Bool} {i : IpV} (ok : i.Ok) : (turnI back i).Ok := by
  cases back
  · exact ⟨ok.src, ok.dst, Nat.zero_le _⟩
  · exact ⟨ok.dst, ok.src, Nat.zero_le _⟩
set_option maxRecDepth 100000 in
set_option maxHeartbeats 4000000 in
theorem reset_walk (e : EthV) (i : IpV) (h : SegV) (seq ack : Int) (back : Bool) (w : World) (ok : e.Ok) (iok : i.Ok) (hs : 0 ≤ seq ∧ seq ≤ 4294967295) (ha : 0 ≤ ack ∧ ack ≤ 4294967295) :
    Calls Try.prog 9 #[.agg e.cs.toArray, .agg i.cs.toArray, .agg h.cs.toArray, .int .u32 seq, .int .u32 ack, .bool back] w fun e' w' => e' = .returned (.string (resetS e i h seq ack back)) ∧ Mv (fun _ => False) w w' := by
  obtain ⟨f, hf⟩ : ∃ f : Nat → Int, f = fun j : Nat => bt e.d (j : Int) := ⟨_, rfl⟩
  obtain ⟨g, hg⟩ : ∃ g : Nat → Int, g = fun j : Nat => bt e.s (j : Int) := ⟨_, rfl⟩
  have hcs : e.cs = ecs f g e.t := by rw [hf, hg]; exact EthV.ecs ok
  have hcs2 : ecs (bif back then g else f) (bif back then f else g) e.t = (turnE back e).cs := by
    cases back
    · exact hcs.symm
    · rw [hf, hg]; exact (EthV.ecs (h := ⟨e.s, e.d, e.t⟩) ⟨ok.s, ok.d⟩).symm
  rw [hcs]
  refine calls_W (n := 39) (vs := [.agg (ecs f g e.t).toArray, .agg i.cs.toArray, .agg h.cs.toArray, .int .u32 seq, .int .u32 ack, .bool back]) Try.func9 rfl rfl rfl ?_
  refine W.seq (W.list ?_)
  refine Ls.box rfl rfl rfl rfl rfl (vs := ecs f g e.t) rfl ?_
  have hb1 : BX (w.alloc (.cells (ecs f g e.t).toArray 33)) w.heap.size 33 (ecs f g e.t) := heap_alloc_new w (.cells (ecs f g e.t).toArray 33)
  have m1 : Mv (fun _ => False) w (w.alloc (.cells (ecs f g e.t).toArray 33)) := (Mv.refl _ w).alloc _
  generalize w.alloc (.cells (ecs f g e.t).toArray 33) = w1 at hb1 m1
  obtain ⟨p, hp⟩ : ∃ p, p = w.heap.size := ⟨_, rfl⟩
  rw [← hp] at hb1
  rw [← hp]
  refine Ls.box rfl rfl rfl rfl rfl (vs := i.cs) rfl ?_
  have hq2 : BX (w1.alloc (.cells i.cs.toArray 28)) w1.heap.size 28 i.cs := heap_alloc_new w1 (.cells i.cs.toArray 28)
  have m2 : Mv (fun _ => False) w1 (w1.alloc (.cells i.cs.toArray 28)) := (Mv.refl _ w1).alloc _
  generalize w1.alloc (.cells i.cs.toArray 28) = w2 at hq2 m2
  obtain ⟨q, hq⟩ : ∃ q, q = w1.heap.size := ⟨_, rfl⟩
  rw [← hq] at hq2
  rw [← hq]
  have hpq : p < q := by have := hb1.lt; omega
  have hb2 := hb1.moved m2 fun e => e
  have m2 := m1.trans m2
  refine Ls.box rfl rfl rfl rfl rfl (vs := h.cs) rfl ?_
  have hr3 : BX (w2.alloc (.cells h.cs.toArray 26)) w2.heap.size 26 h.cs := heap_alloc_new w2 (.cells h.cs.toArray 26)
  have m3 : Mv (fun _ => False) w2 (w2.alloc (.cells h.cs.toArray 26)) := (Mv.refl _ w2).alloc _
  generalize w2.alloc (.cells h.cs.toArray 26) = w3 at hr3 m3
  obtain ⟨r, hr⟩ : ∃ r, r = w2.heap.size := ⟨_, rfl⟩
  rw [← hr] at hr3
  rw [← hr]
  have hqr : q < r := by have := hq2.lt; omega
  have hb3 := hb2.moved m3 fun e => e
  have hq3 := hq2.moved m3 fun e => e
  have m3 := m2.trans m3
  have hwr : w.heap.size ≤ r := by omega
  apply Ls.runK LO [3, 4, 5, 6, 7, 8] 1
  · repeat' (first | rfl | with_reducible assumption | assumption | constructor)
  intro w4 f4 s4 hf4
  replace hf4 : f4 = [(3, _), (4, _), (5, _), (6, _), (7, _), (8, _)] := hf4
  subst hf4
  refine Ls.nil (N.to ?_)
  apply W.readS LO mixed [3, 4, 5, 6, 7, 8, 13] (by kernel_rfl)
  · repeat' (first | rfl | with_reducible assumption | assumption | constructor)
  intro w5 f5 s5 hf5
  replace hf5 : f5 = [(3, _), (4, _), (5, _), (6, _), (7, _), (8, _), (13, _)] := hf5
  subst hf5
  have m5 := (m3.same s4).same s5
  have hb5 := (hb3.same s4).same s5
  have hq5 := (hq3.same s4).same s5
  have hr5 := (hr3.same s4).same s5
  clear m1 m2 m3 hb1 hb2 hb3 hq2 hq3 hr3 s4 s5 hp hq hr
  obtain ⟨h', hh'⟩ : ∃ h', h' = turnH back h := ⟨_, rfl⟩
  refine W.cutS (fun w' g_ => Mv (fun _ => False) w w' ∧ BX w' p 33 (ecs f g e.t) ∧ BX w' q 28 i.cs ∧ BX w' r 26 h'.cs ∧ g_ = [(3, .int .u32 seq), (4, .int .u32 ack), (6, .pointer (some ⟨p, 0, none⟩)), (7, .pointer (some ⟨q, 0, none⟩)), (8, .pointer (some ⟨r, 0, none⟩)), (13, .func (.func (turnF back)) #[] #[])]) ?_ ?_
  ·
    apply W.readS LO mixed [3, 4, 6, 7, 8, 13, 15] (by kernel_rfl)
    · repeat' (first | rfl | with_reducible assumption | assumption | constructor)
    intro w6 f6 s6 hf6
    replace hf6 : f6 = [(3, _), (4, _), (6, _), (7, _), (8, _), (13, _), (15, _)] := hf6
    subst hf6
    have m6 := m5.same s6
    have hb6 := hb5.same s6
    have hq6 := hq5.same s6
    have hr6 := hr5.same s6
    clear m5 hb5 hq5 hr5 s6
    cases back with
    | false =>
      refine W.cond (b := false) rfl (fun h => by cases h) (fun _ => W.skip ?_)
      exact N.cut ⟨m6, hb6, hq6, by rw [hh']; exact hr6, rfl⟩ (sub_keys rfl)
    | true =>
      refine W.cond (b := true) rfl (fun _ => ?_) (fun h => by cases h)
      have F1 : ∀ w', Mv (fun _ => False) w6 w' → Cl w' ⟨r, 0 + 1, none⟩ (.int .i64 h.dp) := fun w' m => (hr6.moved m fun e => e).cl rfl
      have F2 : ∀ w', Mv (fun _ => False) w6 w' → Cl w' ⟨r, 0 + 0, none⟩ (.int .i64 h.sp) := fun w' m => (hr6.moved m fun e => e).cl rfl
      refine W.held mixed (fun w' => Mv (fun _ => False) w6 w') [6, 8] 9 rfl (fun w' s => (Mv.refl _ w6).same s) ?_
      intro x0 s0
      apply H.takesK LO true [3, 4, 6, 7, 8, 17, 19] [0, 1, 2, 3] (k := 5) rfl (by kernel_rfl)
      · repeat' (first | rfl | with_reducible assumption | assumption | (intro w' hw'; replace hw' := hw' rfl; have h0' := F1 w' hw'; have h1' := F2 w' hw') | constructor)
      intro g_ hg_
      replace hg_ : g_ = [(3, _), (4, _), (6, _), (7, _), (8, _), (17, _), (19, _)] := hg_
      subst hg_
      apply H.takesK LO false [3, 4, 6, 7, 8, 13, 17, 19, 20] [4, 5] (k := 3) rfl (by kernel_rfl)
      · repeat' (first | rfl | with_reducible assumption | assumption | (intro w' hw'; replace hw' := True.intro) | constructor)
      intro g_ hg_
      replace hg_ : g_ = [(3, _), (4, _), (6, _), (7, _), (8, _), (13, _), (17, _), (19, _), (20, _)] := hg_
      subst hg_
      refine H.only (i := 6) rfl (by kernel_rfl) ?_
      refine Ls.store LO rfl rfl rfl rfl rfl (vs := [.int .i64 h.dp]) rfl rfl rfl (hr6.same s0) rfl ?_
      intro x1 hr7 n1 _
      have hr7 : BX x1 r 26 (SegV.mk h.dp h.dp h.seq h.ack h.flags h.win h.o).cs := hr7
      refine Ls.nil (N.goOn (fun hint => absurd (show true = false from hint 6 List.mem_cons_self) (by decide)) ?_)
      apply H.takesK LO false [3, 4, 6, 7, 8, 13, 19, 21] [7] (k := 1) rfl (by kernel_rfl)
      · repeat' (first | rfl | with_reducible assumption | assumption | (intro w' hw'; replace hw' := True.intro) | constructor)
      intro g_ hg_
      replace hg_ : g_ = [(3, _), (4, _), (6, _), (7, _), (8, _), (13, _), (19, _), (21, _)] := hg_
      subst hg_
      refine H.only (i := 8) rfl (by kernel_rfl) ?_
      refine Ls.store LO rfl rfl rfl rfl rfl (vs := [.int .i64 h.sp]) rfl rfl rfl hr7 rfl ?_
      intro x2 hr8 n2 _
      have hr8 : BX x2 r 26 (SegV.mk h.dp h.sp h.seq h.ack h.flags h.win h.o).cs := hr8
      refine Ls.nil (N.goOn (fun hint => absurd (show true = false from hint 6 List.mem_cons_self) (by decide)) ?_)
      refine H.done (by kernel_rfl) ?_
      have n3 : Mv (· = r) w6 x2 := (((Mv.refl _ w6).same s0).trans n1).trans n2
      exact N.cut ⟨m6.cut n3 fun k hk e => by omega, hb6.moved n3 (by omega), hq6.moved n3 (by omega), by rw [hh']; exact hr8, rfl⟩ (sub_keys rfl)
  clear m5 hb5 hq5 hr5
  rintro w6 _ ⟨m6, hb6, hq6, hr6, rfl⟩
  -- turned
  refine W.seq (W.list ?_)
  have c1 : CellsAt w6 p 0 13 (ecs f g e.t) := hb6.cells
  have c2 : CellsAt w6 q 0 10 i.cs := hq6.cells
  apply Ls.runK LO [3, 4, 8, 22, 25] 4
  · repeat' (first | rfl | with_reducible assumption | assumption | constructor)
  intro w7 f7 s7 hf7
  replace hf7 : f7 = [(3, _), (4, _), (8, _), (22, _), (25, _)] := hf7
  subst hf7
  have m7 := m6.same s7
  have hr7 := hr6.same s7
  refine Ls.callF LO rfl rfl rfl (by cases back <;> rfl) rfl rfl (vs := [.agg (two f g e.t i).toArray]) rfl (turn_walk back f g e.t i w7) ?_
  rintro _ w8 ⟨rfl, m8⟩
  refine ⟨_, rfl, ?_⟩
  have hr8 := hr7.moved m8 fun e => e
  have m8 := m7.trans m8
  obtain ⟨f', hf'⟩ : ∃ f' : Nat → Int, f' = (bif back then g else f) := ⟨_, rfl⟩
  obtain ⟨g', hg'⟩ : ∃ g' : Nat → Int, g' = (bif back then f else g) := ⟨_, rfl⟩
  obtain ⟨i', hi'⟩ : ∃ i', i' = turnI back i := ⟨_, rfl⟩
  rw [← hf', ← hg'] at hcs2
  rw [← hf', ← hg', ← hi']
  clear c1 c2 hb6 hq6 hr6 m6 s7 m7 hr7
  refine Ls.alloc LO rfl rfl rfl rfl (zs := two e0 e0 0 ipN) rfl ?_
  have hx9 : BX (w8.alloc (.cells (two e0 e0 0 ipN).toArray 65)) w8.heap.size 65 (two e0 e0 0 ipN) := heap_alloc_new w8 (.cells (two e0 e0 0 ipN).toArray 65)
  have m9 : Mv (fun _ => False) w8 (w8.alloc (.cells (two e0 e0 0 ipN).toArray 65)) := (Mv.refl _ w8).alloc _
  generalize w8.alloc (.cells (two e0 e0 0 ipN).toArray 65) = w9 at hx9 m9
  obtain ⟨x, hx⟩ : ∃ x, x = w8.heap.size := ⟨_, rfl⟩
  rw [← hx] at hx9
  rw [← hx]
  have hrx : r < x := by have := hr8.lt; omega
  have hr9 := hr8.moved m9 fun e => e
  have m9 := m8.trans m9
  refine Ls.store LO rfl rfl rfl rfl rfl (vs := two f' g' e.t i') rfl rfl rfl hx9 rfl ?_
  intro w10 hx10 m10 _
  have hx10 : BX w10 x 65 (two f' g' e.t i') := hx10
  have hr10 := hr9.moved m10 (by omega)
  have m10 : Mv (fun _ => False) w w10 := m9.cut m10 fun k hk e => by omega
  refine Ls.nil (N.to ?_)
  clear hx9 hr9 m9 hr8 m8 hx
  -- the segment
  refine W.seq (W.list ?_)
  have c1 : CellsAt w10 x 0 13 (ecs f' g' e.t) := hx10.part (x := []) (y := ecs f' g' e.t) (z := i'.cs) rfl rfl rfl
  have c2 : CellsAt w10 x 13 10 i'.cs := hx10.part (x := ecs f' g' e.t) (y := i'.cs) (z := []) rfl rfl rfl
  have d1 : Cl w10 ⟨r, 0 + 0, none⟩ (.int .i64 h'.sp) := hr10.cl rfl
  have d2 : Cl w10 ⟨r, 0 + 1, none⟩ (.int .i64 h'.dp) := hr10.cl rfl
  apply Ls.runK LO [28, 30, 37] 11
  · repeat' (first | rfl | with_reducible assumption | assumption | constructor)
  intro w11 f11 s11 hf11
  replace hf11 : f11 = [(28, _), (30, _), (37, _)] := hf11
  subst hf11
  have ek : segS (turnE back e) i' (rstH h' seq ack) ⟨#[]⟩ = resetS e i h seq ack back := by unfold resetS; rw [hi', hh']
  refine Ls.call LO rfl rfl rfl rfl rfl (vs := [.agg (ecs f' g' e.t).toArray, .agg i'.cs.toArray, .agg (rstH h' seq ack).cs.toArray, .string ⟨#[]⟩]) rfl (seg_walk (turnE back e) i' (rstH h' seq ack) ⟨#[]⟩ w11 (turnE_ok ok) (by rw [hi']; exact turnI_ok iok) ⟨hs, ha, Nat.zero_le _⟩ (Nat.zero_le _) hcs2) ?_
  rintro _ w12 ⟨rfl, m12⟩
  refine ⟨_, rfl, ?_⟩
  rw [ek]
  apply Ls.runK LO [12] 1
  · repeat' (first | rfl | with_reducible assumption | assumption | constructor)
  intro w13 f13 s13 hf13
  replace hf13 : f13 = [(12, _)] := hf13
  subst hf13
  exact Ls.nil (N.to (W.ret (post LO (rs := [.tmp 12]) rfl (vs := [.string (resetS e i h seq ack back)]) (.tmp rfl .nil) ⟨rfl, ((m10.same s11).trans m12).same s13⟩)))
/-! ### What is made is got again -/
theorem putE_size {e : EthV} {b : ByteArray} (ok : e.Ok) : (putE e b).size = 14 + b.size := by
  unfold putE
  rw [ByteArray.size_append, ByteArray.size_append, ByteArray.size_append, ok.d, ok.s, bigS_size]
theorem getE_put {e : EthV} {b : ByteArray} (ok : e.Ok) (h0 : 0 ≤ e.t) (h1 : e.t ≤ 65535) (hb : b.size ≤ 2986) : getE (putE e b) = (e, b, 0) := by
  have hz := putE_size (b := b) ok
  have hl : (putE e b).data.toList = e.d.data.toList ++ (e.s.data.toList ++ ((bigS e.t 2).data.toList ++ b.data.toList)) := by unfold putE; simp only [app_list, List.append_assoc]
  have ld : e.d.data.toList.length = 6 := by rw [list_len, ok.d]
  have ls : e.s.data.toList.length = 6 := by rw [list_len, ok.s]
  have lt : (bigS e.t 2).data.toList.length = 2 := bigS_length _ _
  have e1 : (putE e b).extract 0 6 = e.d := ba_ext (cut_at (a := []) (c := e.s.data.toList ++ ((bigS e.t 2).data.toList ++ b.data.toList)) (by rw [hl]; rfl) rfl (by rw [ld]))
  have e2 : (putE e b).extract 6 12 = e.s := ba_ext (cut_at (a := e.d.data.toList) (c := (bigS e.t 2).data.toList ++ b.data.toList) hl ld (by rw [ls]))
  have e3 : ((putE e b).extract 12 14).data.toList = (bigS e.t 2).data.toList := cut_at (a := e.d.data.toList ++ e.s.data.toList) (c := b.data.toList) (by rw [hl]; simp only [List.append_assoc]) (by rw [List.length_append, ld, ls]) (by rw [lt])
  have e4 : (putE e b).extract 14 (putE e b).size = b := ba_ext (cut_end (a := e.d.data.toList ++ (e.s.data.toList ++ (bigS e.t 2).data.toList)) (by rw [hl]; simp only [List.append_assoc]) (by simp only [List.length_append, ld, ls, lt]))
  have e5 : numOf ((putE e b).extract 12 14) = e.t := by rw [numOf_list e3 (by decide)]; omega
  unfold getE
  rw [if_neg (by omega), if_neg (by omega), e1, e2, e4, e5]
theorem iput_ok {i : IpV} {body : ByteArray} (hc : i.chk = true) (hb : body.size ≤ 2000) : (i.put body).2 = 0 ∧ (i.put body).1.size = 20 + i.o.size + body.size := by
  unfold IpV.put putI
  unfold IpV.chk at hc
  rw [hc, if_pos rfl, if_neg (by omega)]
  refine ⟨rfl, ?_⟩
  show (headI _ _ _ _ _ _ _ _ _ _ _ ++ body).size = _
  rw [ByteArray.size_append, headI_size]
theorem getI_put {i : IpV} {body : ByteArray} (hc : i.chk = true) (ok : i.Ok) (hb : body.size ≤ 2000) : gotOf (getI (i.put body).1) = (i, body, 0) := by
  have e : (i.put body).1 = ipM i.tos i.id i.more i.keep i.off i.ttl i.proto i.src i.dst i.o body ⟨#[]⟩ := by
    have hc' := hc
    unfold IpV.chk at hc'
    unfold IpV.put putI
    rw [if_pos hc', if_neg (by omega)]
    show headI _ _ _ _ _ _ _ _ _ _ _ ++ body = headI _ _ _ _ _ _ _ _ _ _ _ ++ body ++ ⟨#[]⟩
    exact (ByteArray.append_empty).symm
  rw [e, getI_ip _ _ _ _ _ _ _ _ _ _ _ _ hc ok.src ok.dst hb]
  rfl
theorem tput_ok {h : SegV} {a b : Int} {body : ByteArray} (hc : h.chk = true) (hb : 20 + h.o.size + body.size ≤ 2000) : (h.put a b body).2 = 0 ∧ (h.put a b body).1.size = 20 + h.o.size + body.size := by
  unfold SegV.put putT
  unfold SegV.chk at hc
  rw [hc, if_pos rfl, if_neg (by omega)]
  exact ⟨rfl, segT_size _ _ _ _ _ _ _ _ _ _⟩
theorem getT_put {h : SegV} {a b : Int} {body : ByteArray} (hc : h.chk = true) (ok : h.Ok) (hb : 20 + h.o.size + body.size ≤ 2000) : gotT (getT a b (h.put a b body).1) = (h, body, 0) := by
  have hc' := hc
  unfold SegV.chk at hc'
  have e : (h.put a b body).1 = segT a b h.sp h.dp h.seq h.ack h.flags h.win h.o body := by
    unfold SegV.put putT
    rw [if_pos hc', if_neg (by omega)]
  rw [e, getT_segT _ _ _ _ _ _ _ _ _ _ hc' ok.seq ok.ack hb]
  rfl
/-- A segment that may be is got again, head by head. -/
theorem seg_round {e : EthV} {i : IpV} {h : SegV} {body : ByteArray} (ok : e.Ok) (h0 : 0 ≤ e.t) (h1 : e.t ≤ 65535) (ic : i.chk = true) (iok : i.Ok) (hc : h.chk = true) (hok : h.Ok) (hb : 20 + h.o.size + body.size ≤ 2000) :
    ∃ b1 b2 : ByteArray, getE (segS e i h body) = (e, b1, 0) ∧ gotOf (getI b1) = (i, b2, 0) ∧ gotT (getT i.src i.dst b2) = (h, body, 0) ∧ (segS e i h body).size = 54 + i.o.size + h.o.size + body.size ∧ b1.size ≤ 2986 ∧ b2.size ≤ 2000 := by
  obtain ⟨t1, t2⟩ := tput_ok (a := i.src) (b := i.dst) hc hb
  obtain ⟨j1, j2⟩ := iput_ok (i := i) (body := (h.put i.src i.dst body).1) ic (by omega)
  have ho : i.o.size ≤ 40 := by unfold IpV.chk at ic; have := chkI_all ic; omega
  have hs : segS e i h body = putE e (i.put (h.put i.src i.dst body).1).1 := by
    unfold segS datS
    rw [if_pos t1, if_pos j1]
  refine ⟨(i.put (h.put i.src i.dst body).1).1, (h.put i.src i.dst body).1, ?_, getI_put ic iok (by omega), getT_put hc hok hb, ?_, by omega, by omega⟩
  · rw [hs]; exact getE_put ok h0 h1 (by omega)
  · rw [hs, putE_size ok]; omega
end Go.Proofs.Ytbidgeaigiijpaa
