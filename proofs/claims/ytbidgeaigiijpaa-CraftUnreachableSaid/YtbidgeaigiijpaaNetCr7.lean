/- What is proved: what could not be reached is told with its head and eight bytes: the law. Conditions: those that stand in each theorem. -/
import Derived.Test.YtbidgeaigiijpaaNetCr6
import Derived.Test.YtbidgeaigiijpaaNetCr5
namespace Go.Proofs.Ytbidgeaigiijpaa
set_option linter.unusedVariables false
set_option linter.unusedSimpArgs false
set_option linter.unusedSectionVars false
open Go.RowKit Fw Nt
def ipU : IpV := ⟨0, 0, false, false, 0, 64, 1, 167772162, 167772161, ⟨#[]⟩⟩
set_option maxRecDepth 100000 in
set_option maxHeartbeats 16000000 in
theorem unreach_walk (body : ByteArray) (opts : Int) (w : World) (hbz : body.size ≤ 140737488351232) (ho : -9223372036854775808 ≤ opts ∧ opts ≤ 9223372036854775807) :
    Calls Try.prog 6 #[.string body, .int .i64 opts] w (Yes w) := by
  refine calls_W (n := 127) (vs := [.string body, .int .i64 opts]) Try.func6 rfl rfl rfl ?_
  have fin : ∀ w' f, Mv (fun _ => False) w w' → fget f 4 = some (.bool true) → N 127 f w' (bodyPost Try.prog Try.f6 (Yes w)) .ret := fun w' f m hf =>
    post LO (rs := [.tmp 4]) rfl (vs := [.bool true]) (.tmp hf .nil) ⟨rfl, m⟩
  apply W.readS LO mixed [0, 1] (by kernel_rfl)
  · repeat' (first | rfl | with_reducible assumption | assumption | constructor)
  intro w1 f1 s1 hf1
  replace hf1 : f1 = [(0, _), (1, _)] := hf1
  subst hf1
  have m1 : Mv (fun _ => False) w w1 := (Mv.refl _ w).same s1
  refine W.cutS (fun w' g => (Mv (fun _ => False) w w' ∧ g = [(0, .string body), (1, .int .i64 opts)]) ∧ body.size ≤ 500) ?_ ?_
  · by_cases h : 500 < body.size
    · have k1 : Kn (decide (500 < (body.size : Int))) true := .yes (by omega)
      apply W.readS LO mixed [19] (by kernel_rfl)
      · repeat' (first | rfl | with_reducible assumption | assumption | constructor)
      intro w2 f2 s2 hf2
      replace hf2 : f2 = [(19, _)] := hf2
      subst hf2
      refine W.cond (b := true) rfl (fun _ => ?_) (fun h => by cases h)
      refine W.seq (W.list ?_)
      refine Ls.call LO rfl rfl rfl rfl rfl (vs := []) rfl (awake_walk w2) ?_
      rintro _ w3 ⟨rfl, m3⟩
      refine ⟨_, rfl, ?_⟩
      apply Ls.runK LO [4] 1
      · repeat' (first | rfl | with_reducible assumption | assumption | constructor)
      intro w4 f4 s4 hf4
      replace hf4 : f4 = [(4, _)] := hf4
      subst hf4
      exact Ls.nil (N.to (W.ret (N.thenR (fin _ _ (((m1.same s2).trans m3).same s4) rfl))))
    · have k1 : Kn (decide (500 < (body.size : Int))) false := .no (by omega)
      apply W.readS LO mixed [0, 1, 19] (by kernel_rfl)
      · repeat' (first | rfl | with_reducible assumption | assumption | constructor)
      intro w2 f2 s2 hf2
      replace hf2 : f2 = [(0, _), (1, _), (19, _)] := hf2
      subst hf2
      refine W.cond (b := false) rfl (fun h => by cases h) (fun _ => W.skip ?_)
      exact N.cut ⟨⟨m1.same s2, rfl⟩, by omega⟩ (sub_keys rfl)
  clear m1 s1
  rintro w6 _ ⟨⟨m6, rfl⟩, hb⟩
  -- the datagram's head
  refine W.seq (W.list ?_)
  refine Ls.call LO rfl rfl rfl rfl rfl (vs := [.int .i64 0, .int .i64 17]) rfl (lip_walk 17 w6) ?_
  rintro _ w7 ⟨rfl, m7⟩
  have m7 := m6.trans m7
  refine ⟨_, rfl, ?_⟩
  refine Ls.alloc LO rfl rfl rfl rfl (zs := ipN.cs) rfl ?_
  have hy8 : BX (w7.alloc (.cells ipN.cs.toArray 28)) w7.heap.size 28 ipN.cs := heap_alloc_new w7 (.cells ipN.cs.toArray 28)
  have m8 : Mv (fun _ => False) w7 (w7.alloc (.cells ipN.cs.toArray 28)) := (Mv.refl _ w7).alloc _
  generalize w7.alloc (.cells ipN.cs.toArray 28) = w8 at hy8 m8
  have hz7 := m7.size
  obtain ⟨y, hy⟩ : ∃ y, y = w7.heap.size := ⟨_, rfl⟩
  rw [← hy] at hy8 hz7
  rw [← hy]
  refine Ls.store LO rfl rfl rfl rfl rfl (vs := (ipOf 17).cs) rfl rfl rfl hy8 rfl ?_
  intro w9 hy9 m9 _
  have hy9 : BX w9 y 28 (ipOf 17).cs := hy9
  have m9 : Mv (fun _ => False) w w9 := (m7.trans m8).cut m9 fun k hk e => by omega
  refine Ls.nil (N.to ?_)
  clear m6 m7 hy8 m8 hy
  -- its options
  obtain ⟨K, hK⟩ : ∃ K : Nat, K = (opts % 11).toNat := ⟨_, rfl⟩
  have q2 := quiet_of (w := w9) fun w' s' => place00_says opts 11 w' (by decide) (by decide) ho.1 ho.2
  rw [show opts % 11 = (K : Int) by omega] at q2
  have hK10 : K ≤ 10 := by omega
  have k1 : Kn (IntKind.i64.wrap (4 * (K : Int))) ((4 * K : Nat) : Int) := .of (by rw [show 4 * (K : Int) = ((4 * K : Nat) : Int) by omega]; exact IntWalk.i64_in _ (by omega))
  refine W.seq (W.list ?_)
  apply Ls.runK LO [0, 5, 24] 3
  · repeat' (first | rfl | with_reducible assumption | assumption | constructor)
  intro w2 f2 s2 hf2
  replace hf2 : f2 = [(0, _), (5, _), (24, _)] := hf2
  subst hf2
  have m2 := m9.same s2
  have hy2 := hy9.same s2
  refine Ls.makeSlice rfl rfl rfl rfl rfl info_sl8 info_u8 rfl (by omega) (by omega) ?_
  have hb3 := heap_alloc_new w2 (.cells (List.replicate (4 * K) (Value.int .u8 0)).toArray 5)
  have m3 : Mv (fun _ => False) w2 (w2.alloc (.cells (List.replicate (4 * K) (Value.int .u8 0)).toArray 5)) := (Mv.refl _ w2).alloc _
  generalize w2.alloc (.cells (List.replicate (4 * K) (Value.int .u8 0)).toArray 5) = w3 at hb3 m3
  obtain ⟨b, hbb⟩ : ∃ b, b = w2.heap.size := ⟨_, rfl⟩
  rw [← hbb] at hb3
  rw [← hbb]
  have hy3 := hy2.moved m3 fun e => e
  have m3 := m2.trans m3
  obtain ⟨O, hO⟩ : ∃ O, O = zeros (4 * K) := ⟨_, rfl⟩
  have hOs : O.size = 4 * K := by rw [hO]; exact zeros_size _
  have cv := conv_cells (w := w3) (b := b) (o := 0) (n := 4 * K) (str := O) (fun j hj => by
    rw [hOs] at hj
    rw [hO, zeros_bt _ _ hj, Nat.zero_add]
    have hb3' : BX w3 b 5 (List.replicate (4 * K) (Value.int .u8 0)) := hb3
    exact (hb3'.cl (j := j) (u := .int .u8 0) (by rw [List.getElem?_replicate, if_pos hj])).h) hOs (c := 4 * K)
  apply Ls.runK LO [0, 5, 26, 27] 2
  · repeat' (first | rfl | with_reducible assumption | assumption | constructor)
  intro w4 f4 s4 hf4
  replace hf4 : f4 = [(0, _), (5, _), (26, _), (27, _)] := hf4
  subst hf4
  have m4 := m3.same s4
  have hy4 := hy3.same s4
  obtain ⟨i, hi⟩ : ∃ i : IpV, i = ⟨0, 0, false, false, 0, 64, 17, 167772161, 167772162, O⟩ := ⟨_, rfl⟩
  refine Ls.store LO rfl rfl rfl rfl rfl (vs := [.string O]) rfl rfl rfl hy4 rfl ?_
  intro w11 hy11 m11 _
  have hy11 : BX w11 y 28 i.cs := by rw [hi]; exact hy11
  have m11 : Mv (fun _ => False) w w11 := m4.cut m11 fun k hk e => by omega
  refine Ls.nil (N.to ?_)
  clear hy9 m9 q2 k1 s2 m2 hy2 hb3 hbb hy3 m3 cv s4 m4 hy4
  -- what tells it
  have hiok : i.Ok := by rw [hi]; exact ⟨by dsimp only; decide, by dsimp only; decide, by show O.size ≤ _; omega⟩
  have hic : i.chk = true := by
    rw [hi]
    unfold IpV.chk chkI
    exact decide_eq_true ⟨by dsimp only; decide, by dsimp only; decide, by dsimp only; decide, by dsimp only; decide, by dsimp only; decide, by dsimp only; decide, by dsimp only; decide, by dsimp only; decide, by dsimp only; decide, by dsimp only; decide, by dsimp only; decide, by show O.size ≤ 40; omega, by show O.size % 4 = 0; omega⟩
  have hio : i.o = O := by rw [hi]
  obtain ⟨hp2, hpz⟩ := iput_ok (i := i) (body := body) hic (by omega)
  rw [hio] at hpz
  obtain ⟨t, ht⟩ : ∃ t, t = (i.put body).1 := ⟨_, rfl⟩
  rw [← ht] at hpz
  obtain ⟨n, hn⟩ : ∃ n : Nat, n = 20 + O.size + min body.size 8 := ⟨_, rfl⟩
  obtain ⟨M, hM⟩ : ∃ M, M = quote i body := ⟨_, rfl⟩
  have hMn : M = t.extract 0 n := by
    rw [hM]
    unfold quote
    rw [← ht, hio, show min t.size (28 + O.size) = n by omega]
  have hMs : M.size ≤ 68 := by rw [hM]; exact quote_le i body
  obtain ⟨I, hI⟩ : ∃ I, I = icmpS 3 3 0 M := ⟨_, rfl⟩
  have hIs : I.size ≤ 100 := by rw [hI, icmpS_size]; omega
  have hUc : ipU.chk = true := by decide
  have hUok : ipU.Ok := ⟨by decide, by decide, by decide⟩
  obtain ⟨u2, uz⟩ := iput_ok (i := ipU) (body := I) hUc (by omega)
  obtain ⟨b1, hb1⟩ : ∃ b1, b1 = (ipU.put I).1 := ⟨_, rfl⟩
  rw [← hb1] at uz
  have uz : b1.size ≤ 200 := by rw [uz]; show 20 + 0 + I.size ≤ 200; omega
  have hs1 : unrS eth0 i body = putE ethB b1 := by
    have : icI i = ipU := by rw [hi]; rfl
    unfold unrS datS
    rw [← hM, ← hI, this, if_pos u2, ← hb1]
    rfl
  have hBok : ethB.Ok := ⟨rfl, rfl⟩
  have g1 : getE (putE ethB b1) = (ethB, b1, 0) := getE_put hBok (by decide) (by decide) (by omega)
  have g2 : gotOf (getI b1) = (ipU, I, 0) := by rw [hb1]; exact getI_put hUc hUok (by omega)
  obtain ⟨s, hs⟩ : ∃ s, s = putE ethB b1 := ⟨_, rfl⟩
  have hsz : s.size ≤ 300 := by rw [hs, putE_size hBok]; omega
  rw [← hs] at g1 hs1
  have FY : ∀ w', Mv (fun _ => False) w11 w' → CellsAt w' y 0 10 i.cs := fun w' m => (hy11.moved m fun e => e).cells
  refine W.seq (W.held mixed (fun w' => Mv (fun _ => False) w11 w') [] 5 rfl (fun w' s => (Mv.refl _ w11).same s) ?_)
  intro x0 s0
  have m0 : Mv (fun _ => False) w11 x0 := (Mv.refl _ w11).same s0
  apply H.takesK LO true [0, 5, 29, 30] [1, 2] (k := 3) rfl (by kernel_rfl)
  · repeat' (first | rfl | with_reducible assumption | assumption | (intro w' hw'; replace hw' := hw' rfl; have h0' := FY w' hw') | constructor)
  intro g_ hg_
  replace hg_ : g_ = [(0, _), (5, _), (29, _), (30, _)] := hg_
  subst hg_
  refine H.only (i := 0) rfl (by kernel_rfl) ?_
  refine Ls.call LO rfl rfl rfl rfl rfl (vs := [.int .i64 0]) rfl (leth_walk x0) ?_
  rintro _ x1 ⟨rfl, n1⟩
  have n1 := m0.trans n1
  refine ⟨_, rfl, Ls.nil (N.goOn (fun _ => n1) ?_)⟩
  refine H.only (i := 3) rfl (by kernel_rfl) ?_
  refine Ls.call LO rfl rfl rfl rfl rfl (vs := [.agg eth0.cs.toArray, .agg i.cs.toArray, .string body]) rfl (unr_walk eth0 i body x1 eth0_ok hiok (by omega)) ?_
  rintro _ x2 ⟨rfl, n2⟩
  have n2 := n1.trans n2
  refine ⟨_, rfl, Ls.nil (N.goOn (fun _ => n2) ?_)⟩
  rw [hs1]
  apply H.takesK LO false [0, 5, 6] [4] (k := 0) rfl (by kernel_rfl)
  · repeat' (first | rfl | with_reducible assumption | assumption | (intro w' hw'; replace hw' := True.intro) | constructor)
  intro g_ hg_
  replace hg_ : g_ = [(0, _), (5, _), (6, _)] := hg_
  subst hg_
  refine H.done (by kernel_rfl) (N.to ?_)
  have hy12 := hy11.moved n2 fun e => e
  have m12 := m11.trans n2
  clear FY m0 n1 n2 s0 hy11 m11
  -- the frame
  refine W.seq (W.list ?_)
  apply Ls.runK LO [0, 5, 33] 1
  · repeat' (first | rfl | with_reducible assumption | assumption | constructor)
  intro w7 f7 s7 hf7
  replace hf7 : f7 = [(0, _), (5, _), (33, _)] := hf7
  subst hf7
  refine Ls.call LO rfl rfl rfl rfl rfl (vs := [.string s]) rfl (eget_as w7 (by omega) g1 ethB_cs) ?_
  rintro _ w8 ⟨rfl, m8⟩
  have hy8 := (hy12.same s7).moved m8 fun e => e
  have m8 := (m12.same s7).trans m8
  refine ⟨_, rfl, ?_⟩
  apply Ls.runK LO [0, 5, 35, 36, 37] 4
  · repeat' (first | rfl | with_reducible assumption | assumption | constructor)
  intro w9 f9 s9 hf9
  replace hf9 : f9 = [(0, _), (5, _), (35, _), (36, _), (37, _)] := hf9
  subst hf9
  have hy9 := hy8.same s9
  have m9 := m8.same s9
  refine Ls.alloc LO rfl rfl rfl rfl (zs := ecs e0 e0 0) rfl ?_
  have hu10 : BX (w9.alloc (.cells (ecs e0 e0 0).toArray 33)) w9.heap.size 33 (ecs e0 e0 0) := heap_alloc_new w9 (.cells (ecs e0 e0 0).toArray 33)
  have m10 : Mv (fun _ => False) w9 (w9.alloc (.cells (ecs e0 e0 0).toArray 33)) := (Mv.refl _ w9).alloc _
  generalize w9.alloc (.cells (ecs e0 e0 0).toArray 33) = w10 at hu10 m10
  have hz9 := m9.size
  have hyl := hy9.lt
  obtain ⟨u, hu⟩ : ∃ u, u = w9.heap.size := ⟨_, rfl⟩
  rw [← hu] at hu10 hz9 hyl
  rw [← hu]
  refine Ls.store LO rfl rfl rfl rfl rfl (vs := ecs (e5 1) (e5 2) 2048) rfl rfl rfl hu10 rfl ?_
  intro w11 hu11 m11 _
  have hu11 : BX w11 u 33 (ecs (e5 1) (e5 2) 2048) := hu11
  have hy11 := (hy9.moved m10 fun e => e).moved m11 (by omega)
  have m11 : Mv (fun _ => False) w w11 := (m9.trans m10).cut m11 fun k hk e => by omega
  apply Ls.runK LO [0, 5, 7, 8, 9] 2
  · repeat' (first | rfl | with_reducible assumption | assumption | constructor)
  intro w13 f13 s13 hf13
  replace hf13 : f13 = [(0, _), (5, _), (7, _), (8, _), (9, _)] := hf13
  subst hf13
  have m13 := m11.same s13
  have hy13 := hy11.same s13
  have hu13 := hu11.same s13
  refine Ls.nil (N.to ?_)
  clear m12 hy12 s7 m8 hy8 s9 hy9 m9 hu10 m10 hz9 hu11 m11 hy11 s13 hu
  -- the datagram
  refine W.seq (W.list ?_)
  apply Ls.runK LO [0, 5, 7, 9, 39] 1
  · repeat' (first | rfl | with_reducible assumption | assumption | constructor)
  intro w7 f7 s7 hf7
  replace hf7 : f7 = [(0, _), (5, _), (7, _), (9, _), (39, _)] := hf7
  subst hf7
  refine Ls.call LO rfl rfl rfl rfl rfl (vs := [.string b1]) rfl (iget_as w7 (by omega) g2) ?_
  rintro _ w8 ⟨rfl, m8⟩
  have hy8 := (hy13.same s7).moved m8 fun e => e
  have hu8 := (hu13.same s7).moved m8 fun e => e
  have m8 := (m13.same s7).trans m8
  refine ⟨_, rfl, ?_⟩
  apply Ls.runK LO [0, 5, 7, 9, 41, 42, 43] 4
  · repeat' (first | rfl | with_reducible assumption | assumption | constructor)
  intro w9 f9 s9 hf9
  replace hf9 : f9 = [(0, _), (5, _), (7, _), (9, _), (41, _), (42, _), (43, _)] := hf9
  subst hf9
  have hy9 := hy8.same s9
  have hu9 := hu8.same s9
  have m9 := m8.same s9
  refine Ls.alloc LO rfl rfl rfl rfl (zs := ipN.cs) rfl ?_
  have hv10 : BX (w9.alloc (.cells ipN.cs.toArray 28)) w9.heap.size 28 ipN.cs := heap_alloc_new w9 (.cells ipN.cs.toArray 28)
  have m10 : Mv (fun _ => False) w9 (w9.alloc (.cells ipN.cs.toArray 28)) := (Mv.refl _ w9).alloc _
  generalize w9.alloc (.cells ipN.cs.toArray 28) = w10 at hv10 m10
  have hz9 := m9.size
  have hul := hu9.lt
  obtain ⟨v, hv⟩ : ∃ v, v = w9.heap.size := ⟨_, rfl⟩
  rw [← hv] at hv10 hz9 hul
  rw [← hv]
  refine Ls.store LO rfl rfl rfl rfl rfl (vs := ipU.cs) rfl rfl rfl hv10 rfl ?_
  intro w11 hv11 m11 _
  have hv11 : BX w11 v 28 ipU.cs := hv11
  have hy11 := (hy9.moved m10 fun e => e).moved m11 (by omega)
  have hu11 := (hu9.moved m10 fun e => e).moved m11 (by omega)
  have m11 : Mv (fun _ => False) w w11 := (m9.trans m10).cut m11 fun k hk e => by omega
  apply Ls.runK LO [0, 5, 7, 8, 9, 10, 11] 2
  · repeat' (first | rfl | with_reducible assumption | assumption | constructor)
  intro w14 f14 s14 hf14
  replace hf14 : f14 = [(0, _), (5, _), (7, _), (8, _), (9, _), (10, _), (11, _)] := hf14
  subst hf14
  have m14 := m11.same s14
  have hy14 := hy11.same s14
  have hu14 := hu11.same s14
  have hv14 := hv11.same s14
  refine Ls.nil (N.to ?_)
  clear m13 hy13 hu13 s7 m8 hy8 hu8 s9 hy9 hu9 m9 hv10 m10 hz9 hv11 m11 hy11 hu11 s14 hv
  -- the message
  refine W.seq (W.list ?_)
  apply Ls.runK LO [0, 5, 7, 9, 10, 11, 45] 1
  · repeat' (first | rfl | with_reducible assumption | assumption | constructor)
  intro w7 f7 s7 hf7
  replace hf7 : f7 = [(0, _), (5, _), (7, _), (9, _), (10, _), (11, _), (45, _)] := hf7
  subst hf7
  have gI : Calls Try.prog 29 #[.string I] w7 fun e w' => e = .returned (.tuple #[.agg (dgC 3 3 0).toArray, .string M, .int .i64 0]) ∧ Mv (fun _ => False) w7 w' := by
    rw [hI]; exact cget_as w7 (by decide) (by decide) (by decide) (by omega)
  refine Ls.call LO rfl rfl rfl rfl rfl (vs := [.string I]) rfl gI ?_
  rintro _ w8 ⟨rfl, m8⟩
  have hy8 := (hy14.same s7).moved m8 fun e => e
  have hu8 := (hu14.same s7).moved m8 fun e => e
  have hv8 := (hv14.same s7).moved m8 fun e => e
  have m8 := (m14.same s7).trans m8
  refine ⟨_, rfl, ?_⟩
  apply Ls.runK LO [0, 5, 7, 9, 10, 11, 47, 48, 49] 4
  · repeat' (first | rfl | with_reducible assumption | assumption | constructor)
  intro w9 f9 s9 hf9
  replace hf9 : f9 = [(0, _), (5, _), (7, _), (9, _), (10, _), (11, _), (47, _), (48, _), (49, _)] := hf9
  subst hf9
  have hy9 := hy8.same s9
  have hu9 := hu8.same s9
  have hv9 := hv8.same s9
  have m9 := m8.same s9
  refine Ls.alloc LO rfl rfl rfl rfl (zs := dgC 0 0 0) rfl ?_
  have hd10 : BX (w9.alloc (.cells (dgC 0 0 0).toArray 56)) w9.heap.size 56 (dgC 0 0 0) := heap_alloc_new w9 (.cells (dgC 0 0 0).toArray 56)
  have m10 : Mv (fun _ => False) w9 (w9.alloc (.cells (dgC 0 0 0).toArray 56)) := (Mv.refl _ w9).alloc _
  generalize w9.alloc (.cells (dgC 0 0 0).toArray 56) = w10 at hd10 m10
  have hz9 := m9.size
  have hvl := hv9.lt
  obtain ⟨d, hd⟩ : ∃ d, d = w9.heap.size := ⟨_, rfl⟩
  rw [← hd] at hd10 hz9 hvl
  rw [← hd]
  refine Ls.store LO rfl rfl rfl rfl rfl (vs := dgC 3 3 0) rfl rfl rfl hd10 rfl ?_
  intro w11 hd11 m11 _
  have hd11 : BX w11 d 56 (dgC 3 3 0) := hd11
  have hy11 := (hy9.moved m10 fun e => e).moved m11 (by omega)
  have hu11 := (hu9.moved m10 fun e => e).moved m11 (by omega)
  have hv11 := (hv9.moved m10 fun e => e).moved m11 (by omega)
  have m11 : Mv (fun _ => False) w w11 := (m9.trans m10).cut m11 fun k hk e => by omega
  apply Ls.runK LO [0, 5, 7, 8, 9, 10, 11, 12, 13] 2
  · repeat' (first | rfl | with_reducible assumption | assumption | constructor)
  intro w15 f15 s15 hf15
  replace hf15 : f15 = [(0, _), (5, _), (7, _), (8, _), (9, _), (10, _), (11, _), (12, _), (13, _)] := hf15
  subst hf15
  have m15 := m11.same s15
  have hy15 := hy11.same s15
  have hu15 := hu11.same s15
  have hv15 := hv11.same s15
  have hd15 := hd11.same s15
  refine Ls.nil (N.to ?_)
  clear m14 hy14 hu14 hv14 s7 m8 hy8 hu8 hv8 s9 hy9 hu9 hv9 m9 hd10 m10 hz9 hd11 m11 hy11 hu11 hv11 s15 hd
  -- the datagram that was sent
  refine W.seq (W.list ?_)
  have hc15 : CellsAt w15 y 0 10 i.cs := hy15.cells
  apply Ls.runK LO [0, 5, 7, 8, 9, 10, 11, 12, 13, 51, 52] 2
  · repeat' (first | rfl | with_reducible assumption | assumption | constructor)
  intro w7 f7 s7 hf7
  replace hf7 : f7 = [(0, _), (5, _), (7, _), (8, _), (9, _), (10, _), (11, _), (12, _), (13, _), (51, _), (52, _)] := hf7
  subst hf7
  have gP : Calls Try.prog 30 #[.agg i.cs.toArray, .string body] w7 fun e w' => e = .returned (.tuple #[.string t, .int .i64 0]) ∧ Mv (fun _ => False) w7 w' := by
    have := iput_walk i body w7 hiok (by omega)
    rw [hp2, ← ht] at this
    exact this
  refine Ls.call LO rfl rfl rfl rfl rfl (vs := [.agg i.cs.toArray, .string body]) rfl gP ?_
  rintro _ w8 ⟨rfl, m8⟩
  have hy8 := (hy15.same s7).moved m8 fun e => e
  have hu8 := (hu15.same s7).moved m8 fun e => e
  have hv8 := (hv15.same s7).moved m8 fun e => e
  have hd8 := (hd15.same s7).moved m8 fun e => e
  have m8 := (m15.same s7).trans m8
  refine ⟨_, rfl, ?_⟩
  apply Ls.runK LO [0, 5, 7, 8, 9, 10, 11, 12, 13, 14, 15] 5
  · repeat' (first | rfl | with_reducible assumption | assumption | constructor)
  intro w9 f9 s9 hf9
  replace hf9 : f9 = [(0, _), (5, _), (7, _), (8, _), (9, _), (10, _), (11, _), (12, _), (13, _), (14, _), (15, _)] := hf9
  subst hf9
  have hy9 := hy8.same s9
  have hu9 := hu8.same s9
  have hv9 := hv8.same s9
  have hd9 := hd8.same s9
  have m9 := m8.same s9
  refine Ls.nil (N.to ?_)
  clear m15 hy15 hu15 hv15 hd15 hc15 s7 m8 hy8 hu8 hv8 hd8 s9
  -- nothing is wrong
  have k0 : Kn ((0 : Int) != 0) false := .of rfl
  refine W.seq ?_
  apply W.readS LO mixed [0, 5, 7, 8, 10, 12, 14, 69] (by kernel_rfl)
  · repeat' (first | rfl | with_reducible assumption | assumption | constructor)
  intro w16 f16 s16 hf16
  replace hf16 : f16 = [(0, _), (5, _), (7, _), (8, _), (10, _), (12, _), (14, _), (69, _)] := hf16
  subst hf16
  refine W.cond (b := false) rfl (fun h => by cases h) (fun _ => W.skip (N.to ?_))
  have m16 := m9.same s16
  have hy16 := hy9.same s16
  have hu16 := hu9.same s16
  have hv16 := hv9.same s16
  have hd16 := hd9.same s16
  clear k0 m9 hy9 hu9 hv9 hd9 s16
  -- how much is told
  have d9 : Cl w16 ⟨y, 0 + 9, none⟩ (.string O) := hy16.cl (by rw [hi]; rfl)
  have k1 : Kn (IntKind.i64.wrap (20 + (O.size : Int))) ((20 + O.size : Nat) : Int) := .of (by rw [show 20 + (O.size : Int) = ((20 + O.size : Nat) : Int) by omega]; exact IntWalk.i64_in _ (by omega))
  have k2 : Kn (if (8 : Int) < (body.size : Int) then (8 : Int) else (body.size : Int)) ((min body.size 8 : Nat) : Int) := .of (by split <;> omega)
  have k3 : Kn (IntKind.i64.wrap (((20 + O.size : Nat) : Int) + ((min body.size 8 : Nat) : Int))) (n : Int) := .of (by rw [show ((20 + O.size : Nat) : Int) + ((min body.size 8 : Nat) : Int) = (n : Int) by omega]; exact IntWalk.i64_in _ (by omega))
  apply W.readS LO mixed [5, 7, 8, 10, 12, 14, 16] (by kernel_rfl)
  · repeat' (first | rfl | with_reducible assumption | assumption | constructor)
  intro w17 f17 s17 hf17
  replace hf17 : f17 = [(5, _), (7, _), (8, _), (10, _), (12, _), (14, _), (16, _)] := hf17
  subst hf17
  have m17 := m16.same s17
  have hy17 := hy16.same s17
  have hu17 := hu16.same s17
  have hv17 := hv16.same s17
  have hd17 := hd16.same s17
  clear d9 k1 k2 k3 m16 hy16 hu16 hv16 hd16 s17
  have a0 : Cl w17 ⟨d, 0 + 2, none⟩ (.int .i64 3) := hd17.cl rfl
  have a1 : Cl w17 ⟨d, 0 + 3, none⟩ (.int .i64 3) := hd17.cl rfl
  have a2 : Cl w17 ⟨v, 0 + 7, none⟩ (.int .u32 167772162) := hv17.cl rfl
  have a3 : Cl w17 ⟨v, 0 + 8, none⟩ (.int .u32 167772161) := hv17.cl rfl
  have a4 : Cl w17 ⟨v, 0 + 6, none⟩ (.int .i64 1) := hv17.cl rfl
  have a5 : Cl w17 ⟨y, 0 + 8, none⟩ (.int .u32 167772162) := hy17.cl (by rw [hi]; rfl)
  have a6 : Cl w17 ⟨y, 0 + 7, none⟩ (.int .u32 167772161) := hy17.cl (by rw [hi]; rfl)
  have a7 : Cl w17 ⟨u, 0 + 0 + (5 : Int).toNat * 1, none⟩ (.int .u8 1) := hu17.cl rfl
  have j0 : (0 : Int) ≤ 5 := by decide
  have j1 : (5 : Int) < ((6 : Nat) : Int) := by decide
  have i1 : Kn ((167772161 : Int) == 167772161) true := .of rfl
  have i2 : Kn ((167772162 : Int) == 167772162) true := .of rfl
  have i3 : Kn ((3 : Int) == 3) true := .of rfl
  have i4 : Kn ((1 : Int) == 1) true := .of rfl
  have hnt : n ≤ t.size := by omega
  have i5 : Kn (decide ((n : Int) ≤ (t.size : Int))) true := .yes (by omega)
  have l0 : (0 : Int) ≤ (n : Int) := by omega
  have l1 : (n : Int) ≤ (t.size : Int) := by omega
  have i6 : Kn (M.toList == (t.extract 0 (n : Int).toNat).toList) true := .of (by rw [Int.toNat_natCast, ← hMn]; simp)
  refine W.seq (W.list ?_)
  apply Ls.runK LO [124] 47
  · repeat' (first | rfl | with_reducible assumption | assumption | constructor)
  intro w18 f18 s18 hf18
  replace hf18 : f18 = [(124, _)] := hf18
  subst hf18
  refine Ls.call LO rfl rfl rfl rfl rfl (vs := []) rfl (awake_walk w18) ?_
  rintro _ w19 ⟨rfl, m19⟩
  refine ⟨_, rfl, ?_⟩
  apply Ls.runK LO [4] 2
  · repeat' (first | rfl | with_reducible assumption | assumption | constructor)
  intro w20 f20 s20 hf20
  replace hf20 : f20 = [(4, _)] := hf20
  subst hf20
  exact Ls.nil (N.to (W.ret (fin _ _ (((m17.same s18).trans m19).same s20) rfl)))
theorem unreach_law (body : ByteArray) (opts : Int) (w : World) (h0 : body.size ≤ 140737488351232) (h1 : (Lit.int .i64 opts).wf = true) : Calls Try.prog 6 #[.string body, .int .i64 opts] w (Yes w) :=
  unreach_walk body opts w h0 (by have := bounds_i64 h1; omega)
end Go.Proofs.Ytbidgeaigiijpaa
