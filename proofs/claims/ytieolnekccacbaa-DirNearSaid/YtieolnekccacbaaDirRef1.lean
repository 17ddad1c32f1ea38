/- What is proved: the reference's stream in memory, its small functions. Conditions: those that stand in each theorem. -/
import Derived.Test.YtieolnekccacbaaDirOrd3
import Derived.Test.YtieolnekccacbaaFwRow
namespace Go.Proofs.Ytieolnekccacbaa
set_option linter.unusedVariables false
set_option linter.unusedSimpArgs false
set_option linter.unusedSectionVars false
open Go.RowKit Go.Maps Go.MapKept Go.ChangeMaps Fw
/-- The reference's stream. -/
structure RS where
  begin_ : Int
  buffer : Int
  hist : Int
  told : ByteArray
  places : List Int
  bytes : List Int
  fin : Int
  over : Bool
def RS.vs (D : RS) (vp vb : Value) : List Value := [.int .u32 D.begin_, .int .i64 D.buffer, .int .i64 D.hist, .string D.told, vp, vb, .int .i64 D.fin, .bool D.over]
/-- Where it lies. -/
structure RAt (w : World) (q : Nat) (vp vb : Value) (D : RS) : Prop where
  blk : w.heap[q]? = some (.cells (D.vs vp vb).toArray 59 (0, 0))
  op : Own w 3 vp (D.places.map (.int .i64))
  ob : Own w 5 vb (D.bytes.map (.int .u8))
  nq : vp.ownBlock ≠ some q ∧ vb.ownBlock ≠ some q
  npb : ∀ k, vp.ownBlock = some k → vb.ownBlock ≠ some k
/-- Its own blocks. -/
def RB (q : Nat) (vp vb : Value) (k : Nat) : Prop := k = q ∨ vp.ownBlock = some k ∨ vb.ownBlock = some k
theorem RAt.same {w w' : World} {q : Nat} {vp vb : Value} {D : RS} (h : RAt w q vp vb D) (s : Same w w') : RAt w' q vp vb D := ⟨by rw [s.heap]; exact h.blk, h.op.same s, h.ob.same s, h.nq, h.npb⟩
theorem RAt.lt {w : World} {q : Nat} {vp vb : Value} {D : RS} (h : RAt w q vp vb D) (k : Nat) (hk : RB q vp vb k) : k < w.heap.size := by
  rcases hk with rfl | hk | hk
  · exact (Array.getElem?_eq_some_iff.1 h.blk).1
  · exact h.op.lt k hk
  · exact h.ob.lt k hk
theorem RAt.moved {S : Nat → Prop} {w w' : World} {q : Nat} {vp vb : Value} {D : RS} (h : RAt w q vp vb D) (m : Mv S w w') (hs : ∀ k, RB q vp vb k → ¬ S k) : RAt w' q vp vb D :=
  ⟨(m.block q (Array.getElem?_eq_some_iff.1 h.blk).1 (hs q (.inl rfl))).trans h.blk, h.op.moved m fun k hk => hs k (.inr (.inl hk)), h.ob.moved m fun k hk => hs k (.inr (.inr hk)), h.nq, h.npb⟩
theorem RAt.cls {w : World} {q : Nat} {vp vb : Value} {D : RS} (h : RAt w q vp vb D) :
    Cl w ⟨q, 0, none⟩ (.int .u32 D.begin_) ∧ Cl w ⟨q, 1, none⟩ (.int .i64 D.buffer) ∧ Cl w ⟨q, 2, none⟩ (.int .i64 D.hist) ∧ Cl w ⟨q, 3, none⟩ (.string D.told) ∧ Cl w ⟨q, 4, none⟩ vp ∧ Cl w ⟨q, 5, none⟩ vb ∧ Cl w ⟨q, 6, none⟩ (.int .i64 D.fin) ∧ Cl w ⟨q, 7, none⟩ (.bool D.over) := by
  have hb := h.blk
  refine ⟨⟨?_⟩, ⟨?_⟩, ⟨?_⟩, ⟨?_⟩, ⟨?_⟩, ⟨?_⟩, ⟨?_⟩, ⟨?_⟩⟩ <;> (unfold World.cell?; rw [hb]; rfl)
/-- A row's own value. -/
theorem own_slice {w : World} {e : TypeId} {v : Value} {xs : List Value} (h : Own w e v xs) : ∃ a c, v = .slice a xs.length c ∧ xs.length ≤ c ∧ (a = none → xs = [] ∧ c = 0) ∧ ∀ b, a = some b → b = ⟨b.block, 0, none⟩ ∧ v.ownBlock = some b.block := by
  rcases h.2 with ⟨rfl, hn⟩ | ⟨g, cap, cur, rfl, hb, hg, hnc, _⟩
  · refine ⟨none, 0, by rw [hn], by omega, fun _ => ⟨List.eq_nil_of_length_eq_zero hn, rfl⟩, fun b hb => by cases hb⟩
  · exact ⟨some ⟨g, 0, none⟩, cap, rfl, hnc, (fun h => by cases h), fun b hb => by cases hb; exact ⟨rfl, rfl⟩⟩
theorem rat_says (q : Nat) (vp vb : Value) (D : RS) (w : World) (h : RAt w q vp vb D) : Calls Try.prog 22 #[.pointer (some ⟨q, 0, none⟩)] w (Says w (.int .i64 D.told.size)) := by
  refine calls_W (n := 8) (vs := [.pointer (some ⟨q, 0, none⟩)]) Try.func22 rfl rfl rfl ?_
  apply W.readS LO mixed [0] (by kernel_rfl)
  · repeat' (first | rfl | with_reducible assumption | assumption | constructor)
  intro w1 f1 s1 hf1
  replace hf1 : f1 = [(0, _)] := hf1
  subst hf1
  obtain ⟨c0, c1, c2, c3, c4, c5, c6, c7⟩ := (h.same s1).cls
  apply W.readS LO mixed [2] (by kernel_rfl)
  · repeat' (first | rfl | with_reducible assumption | assumption | constructor)
  intro w2 f2 s2 hf2
  replace hf2 : f2 = [(2, _)] := hf2
  subst hf2
  exact W.ret (post LO (rs := [.tmp 2]) rfl (vs := [.int .i64 D.told.size]) (.tmp rfl .nil) ⟨rfl, s1.trans s2⟩)
theorem rwaits_says (q : Nat) (vp vb : Value) (D : RS) (w : World) (h : RAt w q vp vb D) : Calls Try.prog 31 #[.pointer (some ⟨q, 0, none⟩)] w (Says w (.int .i64 D.places.length)) := by
  refine calls_W (n := 8) (vs := [.pointer (some ⟨q, 0, none⟩)]) Try.func31 rfl rfl rfl ?_
  apply W.readS LO mixed [0] (by kernel_rfl)
  · repeat' (first | rfl | with_reducible assumption | assumption | constructor)
  intro w1 f1 s1 hf1
  replace hf1 : f1 = [(0, _)] := hf1
  subst hf1
  obtain ⟨c0, c1, c2, c3, c4, c5, c6, c7⟩ := (h.same s1).cls
  obtain ⟨a, c, hv, _⟩ := own_slice h.op
  rw [hv] at c4
  apply W.readS LO mixed [2] (by kernel_rfl)
  · repeat' (first | rfl | with_reducible assumption | assumption | constructor)
  intro w2 f2 s2 hf2
  replace hf2 : f2 = [(2, _)] := hf2
  subst hf2
  exact W.ret (post LO (rs := [.tmp 2]) rfl (vs := [_]) (.tmp rfl .nil) ⟨by simp [resV], s1.trans s2⟩)
theorem tmod_eq_if' (n : Int) : n.tmod 4294967296 = n % 4294967296 ∨ n.tmod 4294967296 + 4294967296 = n % 4294967296 ∧ n.tmod 4294967296 < 0 := by
  rcases Int.lt_or_le n 0 with h | h
  · have e1 : n.tmod 4294967296 = -((-n) % 4294967296) := by
      have := Int.neg_tmod (a := -n) (b := 4294967296)
      rw [Int.neg_neg] at this
      rw [this, Int.tmod_eq_emod_of_nonneg (by omega)]
    omega
  · left; exact Int.tmod_eq_emod_of_nonneg h
theorem rplus_says (a n : Int) (ha : 0 ≤ a ∧ a < 4294967296) (w : World) (hn : -9223372036854775808 ≤ n ∧ n ≤ 9223372036854775807) : Calls Try.prog 33 #[.int .u32 a, .int .i64 n] w (Says w (.int .u32 ((a + n % 4294967296) % 4294967296))) := by
  refine calls_W (n := 18) (vs := [.int .u32 a, .int .i64 n]) Try.func33 rfl rfl rfl ?_
  have h0 : (4294967296 : Int) ≠ 0 := by decide
  apply W.readS LO mixed [0, 1] (by kernel_rfl)
  · repeat' (first | rfl | with_reducible assumption | assumption | constructor)
  intro w1 f1 s1 hf1
  replace hf1 : f1 = [(0, _), (1, _)] := hf1
  subst hf1
  apply W.readS LO mixed [0, 5] (by kernel_rfl)
  · repeat' (first | rfl | with_reducible assumption | assumption | constructor)
  intro w2 f2 s2 hf2
  replace hf2 : f2 = [(0, _), (5, _)] := hf2
  subst hf2
  have s2 := s1.trans s2
  have hm := tmod_eq_if' n
  refine W.cutS (fun w' g => Same w w' ∧ g = [(0, .int .u32 a), (5, .int .i64 (n % 4294967296))]) ?_ ?_
  · by_cases hneg : n.tmod 4294967296 < 0
    · have k1 : Kn (decide (n.tmod 4294967296 < 0)) true := .yes hneg
      have k2 : Kn (IntKind.i64.wrap (n.tmod 4294967296 + 4294967296)) (n % 4294967296) := .of ((IntWalk.i64_in _ (by omega)).trans (by omega))
      apply W.readS LO mixed [0, 5, 9] (by kernel_rfl)
      · repeat' (first | rfl | with_reducible assumption | assumption | constructor)
      intro w3 f3 s3 hf3
      replace hf3 : f3 = [(0, _), (5, _), (9, _)] := hf3
      subst hf3
      refine W.cond (b := true) rfl (fun _ => ?_) (fun h => by cases h)
      apply W.readN LO mixed [0, 5] (by kernel_rfl)
      · repeat' (first | rfl | with_reducible assumption | assumption | constructor)
      intro w4 f4 s4 hf4
      replace hf4 : f4 = [(0, _), (5, _)] := hf4
      subst hf4
      exact N.cut ⟨(s2.trans s3).trans s4, rfl⟩ (sub_keys rfl)
    · have k1 : Kn (decide (n.tmod 4294967296 < 0)) false := .no hneg
      have e : n.tmod 4294967296 = n % 4294967296 := by omega
      rw [e] at k1 ⊢
      apply W.readS LO mixed [0, 5, 9] (by kernel_rfl)
      · repeat' (first | rfl | with_reducible assumption | assumption | constructor)
      intro w3 f3 s3 hf3
      replace hf3 : f3 = [(0, _), (5, _), (9, _)] := hf3
      subst hf3
      refine W.cond (b := false) rfl (fun h => by cases h) (fun _ => W.skip ?_)
      exact N.cut ⟨s2.trans s3, rfl⟩ (sub_keys rfl)
  rintro w3 _ ⟨s3, rfl⟩
  have k1 : Kn (IntKind.i64.wrap a) a := .of (IntWalk.i64_in _ (by omega))
  have k2 : Kn (IntKind.i64.wrap (a + n % 4294967296)) (a + n % 4294967296) := .of (IntWalk.i64_in _ (by omega))
  have k3 : Kn ((a + n % 4294967296).tmod 4294967296) ((a + n % 4294967296) % 4294967296) := .of (Int.tmod_eq_emod_of_nonneg (by omega))
  have k4 : Kn (IntKind.u32.wrap ((a + n % 4294967296) % 4294967296)) ((a + n % 4294967296) % 4294967296) := .of (by show _ % 4294967296 = _; omega)
  apply W.readS LO mixed [4] (by kernel_rfl)
  · repeat' (first | rfl | with_reducible assumption | assumption | constructor)
  intro w4 f4 s4 hf4
  replace hf4 : f4 = [(4, _)] := hf4
  subst hf4
  exact W.ret (post LO (rs := [.tmp 4]) rfl (vs := [.int .u32 _]) (.tmp rfl .nil) ⟨rfl, s3.trans s4⟩)
theorem rseq_says (q : Nat) (vp vb : Value) (D : RS) (x : Int) (w : World) (h : RAt w q vp vb D) (ha : 0 ≤ D.begin_ ∧ D.begin_ < 4294967296) (hx : -9223372036854775808 ≤ x ∧ x ≤ 9223372036854775807) :
    Calls Try.prog 20 #[.pointer (some ⟨q, 0, none⟩), .int .i64 x] w (Says w (.int .u32 ((D.begin_ + x % 4294967296) % 4294967296))) := by
  refine calls_W (n := 11) (vs := [.pointer (some ⟨q, 0, none⟩), .int .i64 x]) Try.func20 rfl rfl rfl ?_
  apply W.readS LO mixed [0, 1] (by kernel_rfl)
  · repeat' (first | rfl | with_reducible assumption | assumption | constructor)
  intro w1 f1 s1 hf1
  replace hf1 : f1 = [(0, _), (1, _)] := hf1
  subst hf1
  obtain ⟨c0, c1, c2, c3, c4, c5, c6, c7⟩ := (h.same s1).cls
  have q1 := quiet_of (w := w1) fun w' _ => rplus_says D.begin_ x ha w' hx
  apply W.readS LO mixed [4] (by kernel_rfl)
  · repeat' (first | rfl | with_reducible assumption | assumption | constructor)
  intro w2 f2 s2 hf2
  replace hf2 : f2 = [(4, _)] := hf2
  subst hf2
  exact W.ret (post LO (rs := [.tmp 4]) rfl (vs := [.int .u32 _]) (.tmp rfl .nil) ⟨rfl, s1.trans s2⟩)
theorem rdiff_says (a b : Int) (ha : 0 ≤ a ∧ a < 4294967296) (hb : 0 ≤ b ∧ b < 4294967296) (w : World) : Calls Try.prog 35 #[.int .u32 a, .int .u32 b] w (Says w (.int .i64 (sd a b))) := by
  refine calls_W (n := 22) (vs := [.int .u32 a, .int .u32 b]) Try.func35 rfl rfl rfl ?_
  have k1 : Kn (IntKind.i64.wrap a) a := .of (IntWalk.i64_in _ (by omega))
  have k2 : Kn (IntKind.i64.wrap b) b := .of (IntWalk.i64_in _ (by omega))
  have k3 : Kn (IntKind.i64.wrap (a - b)) (a - b) := .of (IntWalk.i64_in _ (by omega))
  apply W.readS LO mixed [0, 1] (by kernel_rfl)
  · repeat' (first | rfl | with_reducible assumption | assumption | constructor)
  intro w1 f1 s1 hf1
  replace hf1 : f1 = [(0, _), (1, _)] := hf1
  subst hf1
  apply W.readS LO mixed [5] (by kernel_rfl)
  · repeat' (first | rfl | with_reducible assumption | assumption | constructor)
  intro w2 f2 s2 hf2
  replace hf2 : f2 = [(5, _)] := hf2
  subst hf2
  have s2 := s1.trans s2
  refine W.cutS (fun w' g => (Same w w' ∧ g = [(5, .int .i64 (a - b))]) ∧ sd a b = a - b) ?_ ?_
  · refine W.block ?_
    by_cases h1 : 2147483648 ≤ a - b
    · have k4 : Kn (decide (2147483648 ≤ a - b)) true := .yes h1
      have k5 : Kn (IntKind.i64.wrap (a - b - 4294967296)) (sd a b) := .of ((IntWalk.i64_in _ (by omega)).trans (by unfold sd wrap32; omega))
      apply W.readS LO mixed [5, 11] (by kernel_rfl)
      · repeat' (first | rfl | with_reducible assumption | assumption | constructor)
      intro w3 f3 s3 hf3
      replace hf3 : f3 = [(5, _), (11, _)] := hf3
      subst hf3
      refine W.cond (b := true) rfl (fun _ => ?_) (fun h => by cases h)
      apply W.readS LO mixed [4] (by kernel_rfl)
      · repeat' (first | rfl | with_reducible assumption | assumption | constructor)
      intro w4 f4 s4 hf4
      replace hf4 : f4 = [(4, _)] := hf4
      subst hf4
      exact W.ret (N.inbR (N.thenR (post LO (rs := [.tmp 4]) rfl (vs := [.int .i64 _]) (.tmp rfl .nil) ⟨rfl, (s2.trans s3).trans s4⟩)))
    · have k4 : Kn (decide (2147483648 ≤ a - b)) false := .no h1
      apply W.readS LO mixed [5, 11] (by kernel_rfl)
      · repeat' (first | rfl | with_reducible assumption | assumption | constructor)
      intro w3 f3 s3 hf3
      replace hf3 : f3 = [(5, _), (11, _)] := hf3
      subst hf3
      refine W.cond (b := false) rfl (fun h => by cases h) (fun _ => ?_)
      by_cases h2 : a - b < -2147483648
      · have k6 : Kn (decide (a - b < -2147483648)) true := .yes h2
        have k5 : Kn (IntKind.i64.wrap (a - b + 4294967296)) (sd a b) := .of ((IntWalk.i64_in _ (by omega)).trans (by unfold sd wrap32; omega))
        apply W.readS LO mixed [5, 16] (by kernel_rfl)
        · repeat' (first | rfl | with_reducible assumption | assumption | constructor)
        intro w4 f4 s4 hf4
        replace hf4 : f4 = [(5, _), (16, _)] := hf4
        subst hf4
        refine W.cond (b := true) rfl (fun _ => ?_) (fun h => by cases h)
        apply W.readS LO mixed [4] (by kernel_rfl)
        · repeat' (first | rfl | with_reducible assumption | assumption | constructor)
        intro w5 f5 s5 hf5
        replace hf5 : f5 = [(4, _)] := hf5
        subst hf5
        exact W.ret (N.inbR (N.thenR (post LO (rs := [.tmp 4]) rfl (vs := [.int .i64 _]) (.tmp rfl .nil) ⟨rfl, ((s2.trans s3).trans s4).trans s5⟩)))
      · have k6 : Kn (decide (a - b < -2147483648)) false := .no h2
        apply W.readS LO mixed [5, 16] (by kernel_rfl)
        · repeat' (first | rfl | with_reducible assumption | assumption | constructor)
        intro w4 f4 s4 hf4
        replace hf4 : f4 = [(5, _), (16, _)] := hf4
        subst hf4
        refine W.cond (b := false) rfl (fun h => by cases h) (fun _ => W.skip ?_)
        exact N.inb (N.cut ⟨⟨(s2.trans s3).trans s4, rfl⟩, by unfold sd wrap32; omega⟩ (sub_keys rfl))
  rintro w3 _ ⟨⟨s3, rfl⟩, he⟩
  apply W.readS LO mixed [4] (by kernel_rfl)
  · repeat' (first | rfl | with_reducible assumption | assumption | constructor)
  intro w4 f4 s4 hf4
  replace hf4 : f4 = [(4, _)] := hf4
  subst hf4
  exact W.ret (post LO (rs := [.tmp 4]) rfl (vs := [.int .i64 _]) (.tmp rfl .nil) ⟨by rw [he]; rfl, s3.trans s4⟩)
theorem rplace_says (s n near : Int) (hs : 0 ≤ s ∧ s < 4294967296) (hn : 0 ≤ n ∧ n < 4294967296) (h0 : 0 ≤ near) (h1 : near ≤ 1099511627776) (w : World) :
    Calls Try.prog 27 #[.int .u32 s, .int .u32 n, .int .i64 near] w (Says w (.int .i64 (plc s n near))) := by
  refine calls_W (n := 18) (vs := [.int .u32 s, .int .u32 n, .int .i64 near]) Try.func27 rfl rfl rfl ?_
  have k1 : Kn (if 0 > near then 0 else near) near := .of (by rw [if_neg (by omega)])
  have k2 : Kn (if 1099511627776 < near then 1099511627776 else near) near := .of (by rw [if_neg (by omega)])
  apply W.readS LO mixed [0, 1, 2] (by kernel_rfl)
  · repeat' (first | rfl | with_reducible assumption | assumption | constructor)
  intro w1 f1 s1 hf1
  replace hf1 : f1 = [(0, _), (1, _), (2, _)] := hf1
  subst hf1
  apply W.readS LO mixed [0, 1, 7] (by kernel_rfl)
  · repeat' (first | rfl | with_reducible assumption | assumption | constructor)
  intro w2 f2 s2 hf2
  replace hf2 : f2 = [(0, _), (1, _), (7, _)] := hf2
  subst hf2
  have q1 := quiet_of (w := w2) fun w' _ => rplus_says s near hs w' (by omega)
  have q2 := quiet_of (w := w2) fun w' _ => rdiff_says n ((s + near % 4294967296) % 4294967296) hn (by omega) w'
  have hr := sd_range n ((s + near % 4294967296) % 4294967296)
  have k3 : Kn (IntKind.i64.wrap (near + sd n ((s + near % 4294967296) % 4294967296))) (plc s n near) := .of ((IntWalk.i64_in _ (by omega)).trans (by unfold plc; rw [show (s + near % 4294967296) % 4294967296 = (s + near) % 4294967296 by omega]))
  apply W.readS LO mixed [6] (by kernel_rfl)
  · repeat' (first | rfl | with_reducible assumption | assumption | constructor)
  intro w3 f3 s3 hf3
  replace hf3 : f3 = [(6, _)] := hf3
  subst hf3
  exact W.ret (post LO (rs := [.tmp 6]) rfl (vs := [.int .i64 _]) (.tmp rfl .nil) ⟨rfl, (s1.trans s2).trans s3⟩)
/-- Where a place stands. -/
def idxOf (l : List Int) (x : Int) : Int := match l.findIdx? (· == x) with | some i => (i : Int) | none => -1
set_option maxRecDepth 100000 in
set_option maxHeartbeats 4000000 in
theorem held_says (q : Nat) (vp vb : Value) (D : RS) (x : Int) (w : World) (h : RAt w q vp vb D) (hl : D.places.length ≤ 1000000) :
    Calls Try.prog 29 #[.pointer (some ⟨q, 0, none⟩), .int .i64 x] w (Says w (.int .i64 (idxOf D.places x))) := by
  refine calls_W (n := 25) (vs := [.pointer (some ⟨q, 0, none⟩), .int .i64 x]) Try.func29 rfl rfl rfl ?_
  apply W.readS LO mixed [0, 1] (by kernel_rfl)
  · repeat' (first | rfl | with_reducible assumption | assumption | constructor)
  intro w1 f1 s1 hf1
  replace hf1 : f1 = [(0, _), (1, _)] := hf1
  subst hf1
  refine W.cutS (fun w' g => (Same w w' ∧ g = []) ∧ idxOf D.places x = -1) ?_ ?_
  ·
    apply W.readS LO mixed [0, 1, 5] (by kernel_rfl)
    · repeat' (first | rfl | with_reducible assumption | assumption | constructor)
    intro w2 f2 s2 hf2
    replace hf2 : f2 = [(0, _), (1, _), (5, _)] := hf2
    subst hf2
    refine W.block (W.loop (fun k w' g => ∃ i : Nat, k + i = D.places.length ∧ Same w w' ∧ (∀ j : Nat, j < i → D.places[j]? ≠ some x) ∧ g = [(0, .pointer (some ⟨q, 0, none⟩)), (1, .int .i64 x), (5, .int .i64 i)]) D.places.length _ ⟨0, rfl, s1.trans s2, fun j hj => absurd hj (Nat.not_lt_zero j), rfl⟩ (sub_keys rfl) ?_)
    rintro k w3 _ ⟨i, hki, s3, hno, rfl⟩
    have h3 := h.same s3
    obtain ⟨c0, c1, c2, c3, c4, c5, c6, c7⟩ := h3.cls
    obtain ⟨a, c, hv, hlc, hnil, hblk⟩ := own_slice h3.op
    rw [hv] at c4
    rw [List.length_map] at c4
    by_cases hlt : i < D.places.length
    · have k1 : Kn (decide ((i : Int) < (D.places.length : Int))) true := .yes (by omega)
      refine W.seq ?_
      apply W.readS LO mixed [0, 1, 5, 12] (by kernel_rfl)
      · repeat' (first | rfl | with_reducible assumption | assumption | constructor)
      intro w4 f4 s4 hf4
      replace hf4 : f4 = [(0, _), (1, _), (5, _), (12, _)] := hf4
      subst hf4
      have s4' := s3.trans s4
      refine W.cond (b := true) rfl (fun _ => W.skip (N.to ?_)) (fun h => by cases h)
      refine W.cutS (fun w' g => (Same w w' ∧ g = [(0, .pointer (some ⟨q, 0, none⟩)), (1, .int .i64 x), (5, .int .i64 i)]) ∧ D.places[i]? ≠ some x) ?_ ?_
      · refine W.block ?_
        have h4 := h.same s4'
        clear c0 c1 c2 c3 c4 c5 c6 c7
        obtain ⟨c0, c1, c2, c3, c4, c5, c6, c7⟩ := h4.cls
        obtain ⟨y, hy⟩ : ∃ y, D.places[i]? = some y := ⟨_, List.getElem?_eq_getElem hlt⟩
        cases a with
        | none =>
          have := (hnil rfl).1
          rw [List.map_eq_nil_iff.1 this] at hlt
          exact absurd hlt (Nat.not_lt_zero _)
        | some b =>
          obtain ⟨hb1, hb2⟩ := hblk b rfl
          obtain ⟨g, hg⟩ : ∃ g, g = b.block := ⟨_, rfl⟩
          rw [← hg] at hb1 hb2
          subst hb1
          rw [hv, List.length_map] at c4
          have g0 : 0 ≤ (i : Int) := by omega
          have g1 : (i : Int) < (D.places.length : Int) := by omega
          have cy : Cl w4 ⟨g, 0 + (i : Int).toNat * 1, none⟩ (.int .i64 y) := ⟨by
            have := World.ownsRow.cells (g := g) h4.op hb2 i (.int .i64 y) (by rw [List.getElem?_map, hy]; rfl)
            rw [Addr.add_lit] at this
            rw [show 0 + (i : Int).toNat * 1 = 0 + i by omega]
            exact this⟩
          by_cases hxy : y = x
          · subst hxy
            have k2 : Kn (y == y) true := .of (beq_self_eq_true _)
            apply W.readS LO mixed [5, 23] (by kernel_rfl)
            · repeat' (first | rfl | with_reducible assumption | assumption | constructor)
            intro w5 f5 s5 hf5
            replace hf5 : f5 = [(5, _), (23, _)] := hf5
            subst hf5
            refine W.cond (b := true) rfl (fun _ => ?_) (fun h => by cases h)
            apply W.readS LO mixed [4] (by kernel_rfl)
            · repeat' (first | rfl | with_reducible assumption | assumption | constructor)
            intro w6 f6 s6 hf6
            replace hf6 : f6 = [(4, _)] := hf6
            subst hf6
            refine W.ret (post (fn := Try.f29) (R := Says w (.int .i64 (idxOf D.places y))) LO (rs := [.tmp 4]) rfl (vs := [.int .i64 i]) (.tmp rfl .nil) ⟨?_, (s4'.trans s5).trans s6⟩)
            have hf : D.places.findIdx? (· == y) = some i := by
              rw [List.findIdx?_eq_some_iff_getElem]
              refine ⟨hlt, ?_, fun j hj => ?_⟩
              · have := List.getElem?_eq_some_iff.1 hy
                simp [this.2]
              · have := hno j hj
                rw [List.getElem?_eq_getElem (by omega)] at this
                simpa using this
            unfold idxOf
            rw [hf]
            rfl
          · have k2 : Kn (y == x) false := .of (beq_eq_false_iff_ne.2 hxy)
            apply W.readS LO mixed [0, 1, 5, 23] (by kernel_rfl)
            · repeat' (first | rfl | with_reducible assumption | assumption | constructor)
            intro w5 f5 s5 hf5
            replace hf5 : f5 = [(0, _), (1, _), (5, _), (23, _)] := hf5
            subst hf5
            refine W.cond (b := false) rfl (fun h => by cases h) (fun _ => W.skip ?_)
            refine N.inb (N.cut ⟨⟨s4'.trans s5, rfl⟩, ?_⟩ (sub_keys rfl))
            rw [hy]; intro e; exact hxy (Option.some.inj e)
      · rintro w5 _ ⟨⟨s5, rfl⟩, hne⟩
        have k5 : Kn (IntKind.i64.wrap ((i : Int) + 1)) ((i + 1 : Nat) : Int) := .of (IntWalk.i64_in _ (by omega))
        apply W.readN LO mixed [0, 1, 5] (by kernel_rfl)
        · repeat' (first | rfl | with_reducible assumption | assumption | constructor)
        intro w6 f6 s6 hf6
        replace hf6 : f6 = [(0, _), (1, _), (5, _)] := hf6
        subst hf6
        refine N.round (k - 1) _ (by omega) ⟨i + 1, by omega, s5.trans s6, fun j hj => ?_, rfl⟩ (sub_keys rfl)
        by_cases e : j = i
        · rw [e]; exact hne
        · exact hno j (by omega)
    · have k1 : Kn (decide ((i : Int) < (D.places.length : Int))) false := .no (by omega)
      refine W.seq ?_
      apply W.readS LO mixed [12] (by kernel_rfl)
      · repeat' (first | rfl | with_reducible assumption | assumption | constructor)
      intro w4 f4 s4 hf4
      replace hf4 : f4 = [(12, _)] := hf4
      subst hf4
      refine W.cond (b := false) rfl (fun h => by cases h) (fun _ => W.exit ?_)
      refine N.thenE (N.thenE (N.out (N.cut ⟨⟨s3.trans s4, rfl⟩, ?_⟩ (sub_keys rfl))))
      unfold idxOf
      have : D.places.findIdx? (· == x) = none := by
        rw [List.findIdx?_eq_none_iff]
        intro y hy
        obtain ⟨j, hj, rfl⟩ := List.mem_iff_getElem.1 hy
        have := hno j (by omega)
        rw [List.getElem?_eq_getElem hj] at this
        simpa using this
      rw [this]
  rintro w3 _ ⟨⟨s3, rfl⟩, he⟩
  apply W.readS LO mixed [4] (by kernel_rfl)
  · repeat' (first | rfl | with_reducible assumption | assumption | constructor)
  intro w4 f4 s4 hf4
  replace hf4 : f4 = [(4, _)] := hf4
  subst hf4
  exact W.ret (post LO (rs := [.tmp 4]) rfl (vs := [.int .i64 _]) (.tmp rfl .nil) ⟨by rw [he]; rfl, s3.trans s4⟩)
end Go.Proofs.Ytieolnekccacbaa
