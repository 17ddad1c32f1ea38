/- What is proved: resets by numbers are as they are told: the law. Conditions: those that stand in each theorem. -/
import Derived.Test.YtbidgeaigiijpaaNetCr4
import Derived.OpenShut
namespace Go.Proofs.Ytbidgeaigiijpaa
set_option linter.unusedVariables false
set_option linter.unusedSimpArgs false
set_option linter.unusedSectionVars false
open Go.RowKit Fw Nt
def zeros (m : Nat) : ByteArray := ⟨(List.replicate m (0 : UInt8)).toArray⟩
theorem zeros_size (m : Nat) : (zeros m).size = m := by
  show (List.replicate m (0 : UInt8)).toArray.size = m
  simp
theorem zeros_bt (m j : Nat) (h : j < m) : bt (zeros m) (j : Int) = 0 := by
  have e : (zeros m).data.toList = List.replicate m (0 : UInt8) := by simp [zeros]
  rw [bt_get (zeros m) j (by rw [zeros_size]; exact h)]
  have hm := List.getElem_mem (l := (zeros m).data.toList) (n := j) (by rw [e, List.length_replicate]; exact h)
  generalize (zeros m).data.toList[j]'_ = x at hm ⊢
  rw [e] at hm
  rw [List.eq_of_mem_replicate hm]
  rfl
theorem Fw.Cl.same {w w' : World} {a : Addr} {v : Value} (h : Cl w a v) (s : Same w w') : Cl w' a v := ⟨by
  have := h.h
  unfold World.cell? at *
  rw [s.heap]
  exact this⟩
set_option maxRecDepth 100000 in
set_option maxHeartbeats 16000000 in
theorem resets_walk (port : Int) (seq ack : Int) (back : Bool) (opts : Int) (w : World) (hp : -9223372036854775808 ≤ port ∧ port ≤ 9223372036854775807) (hs : 0 ≤ seq ∧ seq ≤ 4294967295) (ha : 0 ≤ ack ∧ ack ≤ 4294967295) (ho : -9223372036854775808 ≤ opts ∧ opts ≤ 9223372036854775807) :
    Calls Try.prog 3 #[.int .i64 port, .int .u32 seq, .int .u32 ack, .bool back, .int .i64 opts] w (Yes w) := by
  refine calls_W (n := 180) (vs := [.int .i64 port, .int .u32 seq, .int .u32 ack, .bool back, .int .i64 opts]) Try.func3 rfl rfl rfl ?_
  have fin : ∀ w' f, Mv (fun _ => False) w w' → fget f 10 = some (.bool true) → N 180 f w' (bodyPost Try.prog Try.f3 (Yes w)) .ret := fun w' f m hf =>
    post LO (rs := [.tmp 10]) rfl (vs := [.bool true]) (.tmp hf .nil) ⟨rfl, m⟩
  apply W.readS LO mixed [0, 1, 2, 3, 4] (by kernel_rfl)
  · repeat' (first | rfl | with_reducible assumption | assumption | constructor)
  intro w1 f1 s1 hf1
  replace hf1 : f1 = [(0, _), (1, _), (2, _), (3, _), (4, _)] := hf1
  subst hf1
  have m1 : Mv (fun _ => False) w w1 := (Mv.refl _ w).same s1
  obtain ⟨P, hP⟩ : ∃ P, P = port % 65536 := ⟨_, rfl⟩
  have q1 := quiet_of (w := w1) fun w' s' => place00_says port 65536 w' (by decide) (by decide) hp.1 hp.2
  rw [← hP] at q1
  obtain ⟨K, hK⟩ : ∃ K : Nat, K = (opts % 11).toNat := ⟨_, rfl⟩
  have q2 := quiet_of (w := w1) fun w' s' => place00_says opts 11 w' (by decide) (by decide) ho.1 ho.2
  rw [show opts % 11 = (K : Int) by omega] at q2
  have hK10 : K ≤ 10 := by omega
  have k1 : Kn (IntKind.i64.wrap (4 * (K : Int))) ((4 * K : Nat) : Int) := .of (by rw [show 4 * (K : Int) = ((4 * K : Nat) : Int) by omega]; exact IntWalk.i64_in _ (by omega))
  refine W.seq (W.list ?_)
  apply Ls.runK LO [1, 2, 3, 22, 25] 5
  · repeat' (first | rfl | with_reducible assumption | assumption | constructor)
  intro w2 f2 s2 hf2
  replace hf2 : f2 = [(1, _), (2, _), (3, _), (22, _), (25, _)] := hf2
  subst hf2
  have m2 := m1.same s2
  refine Ls.makeSlice rfl rfl rfl rfl rfl info_sl8 info_u8 rfl (by omega) (by omega) ?_
  have hb3 := heap_alloc_new w2 (.cells (List.replicate (4 * K) (Value.int .u8 0)).toArray 5)
  have m3 : Mv (fun _ => False) w2 (w2.alloc (.cells (List.replicate (4 * K) (Value.int .u8 0)).toArray 5)) := (Mv.refl _ w2).alloc _
  generalize w2.alloc (.cells (List.replicate (4 * K) (Value.int .u8 0)).toArray 5) = w3 at hb3 m3
  obtain ⟨b, hb⟩ : ∃ b, b = w2.heap.size := ⟨_, rfl⟩
  rw [← hb] at hb3
  rw [← hb]
  have m3 := m2.trans m3
  obtain ⟨O, hO⟩ : ∃ O, O = zeros (4 * K) := ⟨_, rfl⟩
  have hOs : O.size = 4 * K := by rw [hO]; exact zeros_size _
  have cv := conv_cells (w := w3) (b := b) (o := 0) (n := 4 * K) (str := O) (fun j hj => by
    rw [hOs] at hj
    rw [hO, zeros_bt _ _ hj, Nat.zero_add]
    have hb3' : BX w3 b 5 (List.replicate (4 * K) (Value.int .u8 0)) := hb3
    exact (hb3'.cl (j := j) (u := .int .u8 0) (by rw [List.getElem?_replicate, if_pos hj])).h) hOs (c := 4 * K)
  apply Ls.runK LO [1, 2, 3, 28] 2
  · repeat' (first | rfl | with_reducible assumption | assumption | constructor)
  intro w4 f4 s4 hf4
  replace hf4 : f4 = [(1, _), (2, _), (3, _), (28, _)] := hf4
  subst hf4
  have m4 := m3.same s4
  obtain ⟨h, hh⟩ : ∃ h : SegV, h = ⟨P, 80, 0, 0, 0, 0, O⟩ := ⟨_, rfl⟩
  refine Ls.alloc LO rfl rfl rfl rfl (zs := segZ.cs) rfl ?_
  have hx5 : BX (w4.alloc (.cells segZ.cs.toArray 26)) w4.heap.size 26 segZ.cs := heap_alloc_new w4 (.cells segZ.cs.toArray 26)
  have m5 : Mv (fun _ => False) w4 (w4.alloc (.cells segZ.cs.toArray 26)) := (Mv.refl _ w4).alloc _
  generalize w4.alloc (.cells segZ.cs.toArray 26) = w5 at hx5 m5
  have hz4 := m4.size
  obtain ⟨x, hx⟩ : ∃ x, x = w4.heap.size := ⟨_, rfl⟩
  rw [← hx] at hx5 hz4
  rw [← hx]
  refine Ls.store LO rfl rfl rfl rfl rfl (vs := (SegV.mk P 80 0 0 0 0 O).cs) rfl rfl rfl hx5 rfl ?_
  intro w6 hx6 m6 _
  have hx6 : BX w6 x 26 (SegV.mk P 80 0 0 0 0 O).cs := hx6
  have m6 : Mv (fun _ => False) w w6 := (m4.trans m5).cut m6 fun k hk e => by omega
  refine Ls.nil (N.to ?_)
  clear m1 m2 m3 m4 m5 s1 s2 s4 q1 q2 k1 hb3 hb hx5 hz4 hx cv
  -- the datagram's head
  refine W.seq (W.list ?_)
  refine Ls.call LO rfl rfl rfl rfl rfl (vs := [.int .i64 0, .int .i64 6]) rfl (lip_walk 6 w6) ?_
  rintro _ w7 ⟨rfl, m7⟩
  have hx7 := hx6.moved m7 fun e => e
  have m7 := m6.trans m7
  refine ⟨_, rfl, ?_⟩
  refine Ls.alloc LO rfl rfl rfl rfl (zs := ipN.cs) rfl ?_
  have hy8 : BX (w7.alloc (.cells ipN.cs.toArray 28)) w7.heap.size 28 ipN.cs := heap_alloc_new w7 (.cells ipN.cs.toArray 28)
  have m8 : Mv (fun _ => False) w7 (w7.alloc (.cells ipN.cs.toArray 28)) := (Mv.refl _ w7).alloc _
  generalize w7.alloc (.cells ipN.cs.toArray 28) = w8 at hy8 m8
  have hz7 := m7.size
  have hxl := hx7.lt
  obtain ⟨y, hy⟩ : ∃ y, y = w7.heap.size := ⟨_, rfl⟩
  rw [← hy] at hy8 hz7 hxl
  rw [← hy]
  refine Ls.store LO rfl rfl rfl rfl rfl (vs := (ipOf 6).cs) rfl rfl rfl hy8 rfl ?_
  intro w9 hy9 m9 _
  have hy9 : BX w9 y 28 (ipOf 6).cs := hy9
  have hx9 := (hx7.moved m8 fun e => e).moved m9 (by omega)
  have m9 : Mv (fun _ => False) w w9 := (m7.trans m8).cut m9 fun k hk e => by omega
  refine Ls.nil (N.to ?_)
  clear m6 hx6 hx7 m7 hy8 m8
  refine W.seq (W.list ?_)
  have d6 : Cl w9 ⟨x, 0 + 6, none⟩ (.string O) := hx9.cl rfl
  apply Ls.runK LO [1, 2, 3, 11, 12, 31, 32] 3
  · repeat' (first | rfl | with_reducible assumption | assumption | constructor)
  intro w10 f10 s10 hf10
  replace hf10 : f10 = [(1, _), (2, _), (3, _), (11, _), (12, _), (31, _), (32, _)] := hf10
  subst hf10
  have m10 := m9.same s10
  obtain ⟨i, hi⟩ : ∃ i : IpV, i = ⟨0, 0, false, false, 0, 64, 6, 167772161, 167772162, O⟩ := ⟨_, rfl⟩
  refine Ls.store LO rfl rfl rfl rfl rfl (vs := [.string O]) rfl rfl rfl (hy9.same s10) rfl ?_
  intro w11 hy11 m11 _
  have hy11 : BX w11 y 28 i.cs := by rw [hi]; exact hy11
  have hx11 := (hx9.same s10).moved m11 (by omega)
  rw [← hh] at hx11
  have m11 : Mv (fun _ => False) w w11 := m10.cut m11 fun k hk e => by omega
  refine Ls.nil (N.to ?_)
  clear d6 m9 hx9 hy9 s10 m10
  -- the reset
  have FY : ∀ w', Mv (fun _ => False) w11 w' → CellsAt w' y 0 10 i.cs := fun w' m => (hy11.moved m fun e => e).cells
  have FX : ∀ w', Mv (fun _ => False) w11 w' → CellsAt w' x 0 7 h.cs := fun w' m => (hx11.moved m fun e => e).cells
  have hiok : i.Ok := by rw [hi]; exact ⟨by dsimp only; decide, by dsimp only; decide, by show O.size ≤ _; omega⟩
  refine W.seq (W.held mixed (fun w' => Mv (fun _ => False) w11 w') [] 8 rfl (fun w' s => (Mv.refl _ w11).same s) ?_)
  intro x0 s0
  have m0 : Mv (fun _ => False) w11 x0 := (Mv.refl _ w11).same s0
  apply H.takesK LO true [1, 2, 3, 11, 12, 34, 35, 36, 37, 38] [1, 2, 3, 4, 5] (k := 3) rfl (by kernel_rfl)
  · repeat' (first | rfl | with_reducible assumption | assumption | (intro w' hw'; replace hw' := hw' rfl; have h0' := FY w' hw'; have h1' := FX w' hw') | constructor)
  intro g_ hg_
  replace hg_ : g_ = [(1, _), (2, _), (3, _), (11, _), (12, _), (34, _), (35, _), (36, _), (37, _), (38, _)] := hg_
  subst hg_
  refine H.only (i := 0) rfl (by kernel_rfl) ?_
  refine Ls.call LO rfl rfl rfl rfl rfl (vs := [.int .i64 0]) rfl (leth_walk x0) ?_
  rintro _ x1 ⟨rfl, n1⟩
  have n1 := m0.trans n1
  refine ⟨_, rfl, Ls.nil (N.goOn (fun _ => n1) ?_)⟩
  refine H.only (i := 6) rfl (by kernel_rfl) ?_
  refine Ls.call LO rfl rfl rfl rfl rfl (vs := [.agg eth0.cs.toArray, .agg i.cs.toArray, .agg h.cs.toArray, .int .u32 seq, .int .u32 ack, .bool back]) rfl (reset_walk eth0 i h seq ack back x1 eth0_ok hiok hs ha) ?_
  rintro _ x2 ⟨rfl, n2⟩
  have n2 := n1.trans n2
  refine ⟨_, rfl, Ls.nil (N.goOn (fun _ => n2) ?_)⟩
  obtain ⟨E, hE⟩ : ∃ E, E = turnE back eth0 := ⟨_, rfl⟩
  obtain ⟨I, hI⟩ : ∃ I, I = turnI back i := ⟨_, rfl⟩
  obtain ⟨a, haa⟩ : ∃ a, a = (turnH back h).sp := ⟨_, rfl⟩
  obtain ⟨c, hcc⟩ : ∃ c, c = (turnH back h).dp := ⟨_, rfl⟩
  obtain ⟨s, hss⟩ : ∃ s, s = resetS eth0 i h seq ack back := ⟨_, rfl⟩
  have hS : s = segS E I ⟨a, c, seq, ack, 20, 0, ⟨#[]⟩⟩ ⟨#[]⟩ := by rw [hss, hE, hI, haa, hcc]; rfl
  rw [← hss]
  apply H.takesK LO false [1, 2, 3, 11, 12, 13] [7] (k := 0) rfl (by kernel_rfl)
  · repeat' (first | rfl | with_reducible assumption | assumption | (intro w' hw'; replace hw' := True.intro) | constructor)
  intro g_ hg_
  replace hg_ : g_ = [(1, _), (2, _), (3, _), (11, _), (12, _), (13, _)] := hg_
  subst hg_
  refine H.done (by kernel_rfl) (N.to ?_)
  have hx12 := hx11.moved n2 fun e => e
  have hy12 := hy11.moved n2 fun e => e
  have m12 := m11.trans n2
  clear FY FX m0 n1 n2 s0 hx11 hy11 m11
  have hEok : E.Ok := by rw [hE]; exact turnE_ok eth0_ok
  have hIok : I.Ok := by rw [hI]; exact turnI_ok hiok
  have hEt : E.t = 2048 := by rw [hE]; cases back <;> rfl
  have hIo : I.o = ⟨#[]⟩ := by rw [hI]; cases back <;> rfl
  have hIc : I.chk = true := by rw [hI, hi]; cases back <;> (show chkI 0 0 0 64 6 ⟨#[]⟩ = true; decide)
  have hac : 0 ≤ a ∧ a ≤ 65535 ∧ 0 ≤ c ∧ c ≤ 65535 := by
    rw [haa, hcc, hh]
    cases back
    · show 0 ≤ P ∧ P ≤ 65535 ∧ (0 : Int) ≤ 80 ∧ (80 : Int) ≤ 65535; omega
    · show (0 : Int) ≤ 80 ∧ (80 : Int) ≤ 65535 ∧ 0 ≤ P ∧ P ≤ 65535; omega
  have hHc : (SegV.mk a c seq ack 20 0 ⟨#[]⟩).chk = true := by
    unfold SegV.chk chkT
    exact decide_eq_true ⟨hac.1, hac.2.1, hac.2.2.1, hac.2.2.2, by dsimp only; decide, by dsimp only; decide, by dsimp only; decide, by dsimp only; decide, by dsimp only; decide, by dsimp only; decide⟩
  obtain ⟨b1, b2, g1, g2, g3, hz, z1, z2⟩ := seg_round (e := E) (i := I) (h := ⟨a, c, seq, ack, 20, 0, ⟨#[]⟩⟩) (body := ⟨#[]⟩) hEok (by rw [hEt]; decide) (by rw [hEt]; decide) hIc hIok hHc ⟨hs, ha, by dsimp only; decide⟩ (by dsimp only; decide)
  rw [← hS] at g1 hz
  have hz54 : s.size = 54 := by rw [hz, hIo]; rfl
  -- got again: the frame
  obtain ⟨f, hf⟩ : ∃ f : Nat → Int, f = fun j : Nat => bt E.d (j : Int) := ⟨_, rfl⟩
  obtain ⟨g, hg⟩ : ∃ g : Nat → Int, g = fun j : Nat => bt E.s (j : Int) := ⟨_, rfl⟩
  have hEcs : E.cs = ecs f g 2048 := by rw [hf, hg, ← hEt]; exact EthV.ecs hEok
  have hg5 : g 5 = bif back then 2 else 1 := by rw [hg, hE]; cases back <;> rfl
  refine W.seq (W.list ?_)
  apply Ls.runK LO [1, 2, 3, 11, 12, 13, 41] 1
  · repeat' (first | rfl | with_reducible assumption | assumption | constructor)
  intro w7 f7 s7 hf7
  replace hf7 : f7 = [(1, _), (2, _), (3, _), (11, _), (12, _), (13, _), (41, _)] := hf7
  subst hf7
  refine Ls.call LO rfl rfl rfl rfl rfl (vs := [.string s]) rfl (eget_as w7 (by omega) g1 hEcs) ?_
  rintro _ w8 ⟨rfl, m8⟩
  have hx8 := (hx12.same s7).moved m8 fun e => e
  have hy8 := (hy12.same s7).moved m8 fun e => e
  have m8 := (m12.same s7).trans m8
  refine ⟨_, rfl, ?_⟩
  apply Ls.runK LO [1, 2, 3, 11, 12, 13, 43, 44, 45] 4
  · repeat' (first | rfl | with_reducible assumption | assumption | constructor)
  intro w9 f9 s9 hf9
  replace hf9 : f9 = [(1, _), (2, _), (3, _), (11, _), (12, _), (13, _), (43, _), (44, _), (45, _)] := hf9
  subst hf9
  have hx9 := hx8.same s9
  have hy9 := hy8.same s9
  have m9 := m8.same s9
  refine Ls.alloc LO rfl rfl rfl rfl (zs := ecs e0 e0 0) rfl ?_
  have hu10 : BX (w9.alloc (.cells (ecs e0 e0 0).toArray 33)) w9.heap.size 33 (ecs e0 e0 0) := heap_alloc_new w9 (.cells (ecs e0 e0 0).toArray 33)
  have m10 : Mv (fun _ => False) w9 (w9.alloc (.cells (ecs e0 e0 0).toArray 33)) := (Mv.refl _ w9).alloc _
  generalize w9.alloc (.cells (ecs e0 e0 0).toArray 33) = w10 at hu10 m10
  have hz9 := m9.size
  have hyl := hy9.lt
  obtain ⟨u, hu⟩ : ∃ u, u = w9.heap.size := ⟨_, rfl⟩
  rw [← hu] at hu10 hz9 hyl
  rw [← hu]
  refine Ls.store LO rfl rfl rfl rfl rfl (vs := ecs f g 2048) rfl rfl rfl hu10 rfl ?_
  intro w11 hu11 m11 _
  have hu11 : BX w11 u 33 (ecs f g 2048) := hu11
  have hx11 := (hx9.moved m10 fun e => e).moved m11 (by omega)
  have hy11 := (hy9.moved m10 fun e => e).moved m11 (by omega)
  have m11 : Mv (fun _ => False) w w11 := (m9.trans m10).cut m11 fun k hk e => by omega
  apply Ls.runK LO [1, 2, 3, 11, 12, 13, 14, 15, 16] 2
  · repeat' (first | rfl | with_reducible assumption | assumption | constructor)
  intro w13 f13 s13 hf13
  replace hf13 : f13 = [(1, _), (2, _), (3, _), (11, _), (12, _), (13, _), (14, _), (15, _), (16, _)] := hf13
  subst hf13
  have m13 := m11.same s13
  have hx13 := hx11.same s13
  have hy13 := hy11.same s13
  have hu13 := hu11.same s13
  refine Ls.nil (N.to ?_)
  clear m12 hx12 hy12 s7 m8 hx8 hy8 s9 hx9 hy9 m9 hu10 m10 hz9 hu11 m11 hx11 hy11 s13 hu
  -- the datagram
  refine W.seq (W.list ?_)
  apply Ls.runK LO [1, 2, 3, 11, 12, 13, 14, 16, 47] 1
  · repeat' (first | rfl | with_reducible assumption | assumption | constructor)
  intro w7 f7 s7 hf7
  replace hf7 : f7 = [(1, _), (2, _), (3, _), (11, _), (12, _), (13, _), (14, _), (16, _), (47, _)] := hf7
  subst hf7
  refine Ls.call LO rfl rfl rfl rfl rfl (vs := [.string b1]) rfl (iget_as w7 (by omega) g2) ?_
  rintro _ w8 ⟨rfl, m8⟩
  have hx8 := (hx13.same s7).moved m8 fun e => e
  have hy8 := (hy13.same s7).moved m8 fun e => e
  have hu8 := (hu13.same s7).moved m8 fun e => e
  have m8 := (m13.same s7).trans m8
  refine ⟨_, rfl, ?_⟩
  apply Ls.runK LO [1, 2, 3, 11, 12, 13, 14, 16, 49, 50, 51] 4
  · repeat' (first | rfl | with_reducible assumption | assumption | constructor)
  intro w9 f9 s9 hf9
  replace hf9 : f9 = [(1, _), (2, _), (3, _), (11, _), (12, _), (13, _), (14, _), (16, _), (49, _), (50, _), (51, _)] := hf9
  subst hf9
  have hx9 := hx8.same s9
  have hy9 := hy8.same s9
  have hu9 := hu8.same s9
  have m9 := m8.same s9
  refine Ls.alloc LO rfl rfl rfl rfl (zs := ipN.cs) rfl ?_
  have hv10 : BX (w9.alloc (.cells ipN.cs.toArray 28)) w9.heap.size 28 ipN.cs := heap_alloc_new w9 (.cells ipN.cs.toArray 28)
  have m10 : Mv (fun _ => False) w9 (w9.alloc (.cells ipN.cs.toArray 28)) := (Mv.refl _ w9).alloc _
  generalize w9.alloc (.cells ipN.cs.toArray 28) = w10 at hv10 m10
  have hz9 := m9.size
  have hul := hu9.lt
  obtain ⟨v, hv⟩ : ∃ v, v = w9.heap.size := ⟨_, rfl⟩
  rw [← hv] at hv10 hz9 hul
  rw [← hv]
  refine Ls.store LO rfl rfl rfl rfl rfl (vs := I.cs) rfl rfl rfl hv10 rfl ?_
  intro w11 hv11 m11 _
  have hv11 : BX w11 v 28 I.cs := hv11
  have hx11 := (hx9.moved m10 fun e => e).moved m11 (by omega)
  have hy11 := (hy9.moved m10 fun e => e).moved m11 (by omega)
  have hu11 := (hu9.moved m10 fun e => e).moved m11 (by omega)
  have m11 : Mv (fun _ => False) w w11 := (m9.trans m10).cut m11 fun k hk e => by omega
  apply Ls.runK LO [1, 2, 3, 11, 12, 13, 14, 15, 16, 17, 18] 2
  · repeat' (first | rfl | with_reducible assumption | assumption | constructor)
  intro w14 f14 s14 hf14
  replace hf14 : f14 = [(1, _), (2, _), (3, _), (11, _), (12, _), (13, _), (14, _), (15, _), (16, _), (17, _), (18, _)] := hf14
  subst hf14
  have m14 := m11.same s14
  have hx14 := hx11.same s14
  have hy14 := hy11.same s14
  have hu14 := hu11.same s14
  have hv14 := hv11.same s14
  refine Ls.nil (N.to ?_)
  clear m13 hx13 hy13 hu13 s7 m8 hx8 hy8 hu8 s9 hx9 hy9 hu9 m9 hv10 m10 hz9 hv11 m11 hx11 hy11 hu11 s14 hv
  -- the segment
  refine W.seq (W.list ?_)
  have d7 : Cl w14 ⟨v, 0 + 7, none⟩ (.int .u32 I.src) := hv14.cl rfl
  have d8 : Cl w14 ⟨v, 0 + 8, none⟩ (.int .u32 I.dst) := hv14.cl rfl
  apply Ls.runK LO [1, 2, 3, 11, 12, 13, 14, 16, 17, 18, 54, 56, 57] 5
  · repeat' (first | rfl | with_reducible assumption | assumption | constructor)
  intro w7 f7 s7 hf7
  replace hf7 : f7 = [(1, _), (2, _), (3, _), (11, _), (12, _), (13, _), (14, _), (16, _), (17, _), (18, _), (54, _), (56, _), (57, _)] := hf7
  subst hf7
  refine Ls.call LO rfl rfl rfl rfl rfl (vs := [.int .u32 I.src, .int .u32 I.dst, .string b2]) rfl (tget_as w7 hIok.src hIok.dst (by omega) g3) ?_
  rintro _ w8 ⟨rfl, m8⟩
  have hx8 := (hx14.same s7).moved m8 fun e => e
  have hy8 := (hy14.same s7).moved m8 fun e => e
  have hu8 := (hu14.same s7).moved m8 fun e => e
  have hv8 := (hv14.same s7).moved m8 fun e => e
  have m8 := (m14.same s7).trans m8
  refine ⟨_, rfl, ?_⟩
  apply Ls.runK LO [1, 2, 3, 11, 12, 13, 14, 16, 17, 18, 59, 60, 61] 4
  · repeat' (first | rfl | with_reducible assumption | assumption | constructor)
  intro w9 f9 s9 hf9
  replace hf9 : f9 = [(1, _), (2, _), (3, _), (11, _), (12, _), (13, _), (14, _), (16, _), (17, _), (18, _), (59, _), (60, _), (61, _)] := hf9
  subst hf9
  have hx9 := hx8.same s9
  have hy9 := hy8.same s9
  have hu9 := hu8.same s9
  have hv9 := hv8.same s9
  have m9 := m8.same s9
  refine Ls.alloc LO rfl rfl rfl rfl (zs := segZ.cs) rfl ?_
  have ht10 : BX (w9.alloc (.cells segZ.cs.toArray 26)) w9.heap.size 26 segZ.cs := heap_alloc_new w9 (.cells segZ.cs.toArray 26)
  have m10 : Mv (fun _ => False) w9 (w9.alloc (.cells segZ.cs.toArray 26)) := (Mv.refl _ w9).alloc _
  generalize w9.alloc (.cells segZ.cs.toArray 26) = w10 at ht10 m10
  have hz9 := m9.size
  have hvl := hv9.lt
  obtain ⟨t, ht⟩ : ∃ t, t = w9.heap.size := ⟨_, rfl⟩
  rw [← ht] at ht10 hz9 hvl
  rw [← ht]
  refine Ls.store LO rfl rfl rfl rfl rfl (vs := (SegV.mk a c seq ack 20 0 ⟨#[]⟩).cs) rfl rfl rfl ht10 rfl ?_
  intro w11 ht11 m11 _
  have ht11 : BX w11 t 26 (SegV.mk a c seq ack 20 0 ⟨#[]⟩).cs := ht11
  have hx11 := (hx9.moved m10 fun e => e).moved m11 (by omega)
  have hy11 := (hy9.moved m10 fun e => e).moved m11 (by omega)
  have hu11 := (hu9.moved m10 fun e => e).moved m11 (by omega)
  have hv11 := (hv9.moved m10 fun e => e).moved m11 (by omega)
  have m11 : Mv (fun _ => False) w w11 := (m9.trans m10).cut m11 fun k hk e => by omega
  apply Ls.runK LO [1, 2, 3, 11, 12, 13, 14, 15, 16, 17, 18, 19, 20] 2
  · repeat' (first | rfl | with_reducible assumption | assumption | constructor)
  intro w15 f15 s15 hf15
  replace hf15 : f15 = [(1, _), (2, _), (3, _), (11, _), (12, _), (13, _), (14, _), (15, _), (16, _), (17, _), (18, _), (19, _), (20, _)] := hf15
  subst hf15
  have m15 := m11.same s15
  have hx15 := hx11.same s15
  have hy15 := hy11.same s15
  have hu15 := hu11.same s15
  have hv15 := hv11.same s15
  have ht15 := ht11.same s15
  refine Ls.nil (N.to ?_)
  clear d7 d8 m14 hx14 hy14 hu14 hv14 s7 m8 hx8 hy8 hu8 hv8 s9 hx9 hy9 hu9 hv9 m9 ht10 m10 hz9 ht11 m11 hx11 hy11 hu11 hv11 s15 ht
  -- nothing is wrong
  have a2 : Cl w15 ⟨t, 0 + 2, none⟩ (.int .u32 seq) := ht15.cl rfl
  have a3 : Cl w15 ⟨t, 0 + 3, none⟩ (.int .u32 ack) := ht15.cl rfl
  have a4 : Cl w15 ⟨t, 0 + 4, none⟩ (.int .i64 20) := ht15.cl rfl
  have a5 : Cl w15 ⟨t, 0 + 5, none⟩ (.int .i64 0) := ht15.cl rfl
  have a6 : Cl w15 ⟨t, 0 + 6, none⟩ (.string ⟨#[]⟩) := ht15.cl rfl
  have a9 : Cl w15 ⟨v, 0 + 9, none⟩ (.string ⟨#[]⟩) := hv15.cl (by show some (Value.string I.o) = _; rw [hIo])
  have k0 : Kn ((0 : Int) != 0) false := .of rfl
  have k1 : Kn ((⟨#[]⟩ : ByteArray).toList == (⟨#[]⟩ : ByteArray).toList) true := .of (by simp)
  have k2 : Kn ((s.size : Int) != 54) false := .of (by rw [hz54]; rfl)
  have k3 : Kn (seq != seq) false := .of (by simp)
  have k4 : Kn (ack != ack) false := .of (by simp)
  have k5 : Kn ((20 : Int) != 20) false := .of rfl
  refine W.seq ?_
  apply W.readS LO mixed [3, 11, 12, 14, 17, 19, 112] (by kernel_rfl)
  · repeat' (first | rfl | with_reducible assumption | assumption | constructor)
  intro w16 f16 s16 hf16
  replace hf16 : f16 = [(3, _), (11, _), (12, _), (14, _), (17, _), (19, _), (112, _)] := hf16
  subst hf16
  refine W.cond (b := false) rfl (fun h => by cases h) (fun _ => W.skip (N.to ?_))
  have m16 := m15.same s16
  have hx16 := hx15.same s16
  have hy16 := hy15.same s16
  have hu16 := hu15.same s16
  have hv16 := hv15.same s16
  have ht16 := ht15.same s16
  clear a2 a3 a4 a5 a6 a9 k0 k1 k2 k3 k4 k5 m15 hx15 hy15 hu15 hv15 ht15 s16
  have b0 : Cl w16 ⟨v, 0 + 7, none⟩ (.int .u32 I.src) := hv16.cl rfl
  have b1_ : Cl w16 ⟨v, 0 + 8, none⟩ (.int .u32 I.dst) := hv16.cl rfl
  have b2_ : Cl w16 ⟨t, 0 + 0, none⟩ (.int .i64 a) := ht16.cl rfl
  have b3 : Cl w16 ⟨t, 0 + 1, none⟩ (.int .i64 c) := ht16.cl rfl
  have b4 : Cl w16 ⟨y, 0 + 7, none⟩ (.int .u32 167772161) := hy16.cl (by rw [hi]; rfl)
  have b5 : Cl w16 ⟨y, 0 + 8, none⟩ (.int .u32 167772162) := hy16.cl (by rw [hi]; rfl)
  have b6 : Cl w16 ⟨x, 0 + 0, none⟩ (.int .i64 P) := hx16.cl (by rw [hh]; rfl)
  have b7 : Cl w16 ⟨u, 0 + 6 + (5 : Int).toNat * 1, none⟩ (.int .u8 (g 5)) := hu16.cl rfl
  have j0 : (0 : Int) ≤ 5 := by decide
  have j1 : (5 : Int) < ((6 : Nat) : Int) := by decide
  have i1 : Kn ((167772161 : Int) == 167772161) true := .of rfl
  have i2 : Kn ((167772162 : Int) == 167772162) true := .of rfl
  have i3 : Kn ((80 : Int) == 80) true := .of rfl
  have i4 : Kn (P == P) true := .of (by simp)
  have i5 : Kn ((2 : Int) == 2) true := .of rfl
  have i6 : Kn ((1 : Int) == 1) true := .of rfl
  cases back with
  | true =>
    have e1 : I.src = 167772162 := by rw [hI, hi]; rfl
    have e2 : I.dst = 167772161 := by rw [hI, hi]; rfl
    have e3 : a = 80 := by rw [haa, hh]; rfl
    have e4 : c = P := by rw [hcc, hh]; rfl
    rw [e1] at b0
    rw [e2] at b1_
    rw [e3] at b2_
    rw [e4] at b3
    rw [hg5] at b7
    have b7 : Cl w16 ⟨u, 0 + 6 + (5 : Int).toNat * 1, none⟩ (.int .u8 2) := b7
    refine W.seq ?_
    apply W.readS LO mixed [3, 11, 12, 14, 17, 19, 113] (by kernel_rfl)
    · repeat' (first | rfl | with_reducible assumption | assumption | constructor)
    intro w17 f17 s17 hf17
    replace hf17 : f17 = [(3, _), (11, _), (12, _), (14, _), (17, _), (19, _), (113, _)] := hf17
    subst hf17
    refine W.cond (b := true) rfl (fun _ => ?_) (fun h => by cases h)
    have b0 := b0.same s17
    have b1_ := b1_.same s17
    have b2_ := b2_.same s17
    have b3 := b3.same s17
    have b4 := b4.same s17
    have b5 := b5.same s17
    have b6 := b6.same s17
    have b7 := b7.same s17
    refine W.seq (W.list ?_)
    apply Ls.runK LO [144] 31
    · repeat' (first | rfl | with_reducible assumption | assumption | constructor)
    intro w18 f18 s18 hf18
    replace hf18 : f18 = [(144, _)] := hf18
    subst hf18
    refine Ls.call LO rfl rfl rfl rfl rfl (vs := []) rfl (awake_walk w18) ?_
    rintro _ w19 ⟨rfl, m19⟩
    refine ⟨_, rfl, ?_⟩
    apply Ls.runK LO [10] 2
    · repeat' (first | rfl | with_reducible assumption | assumption | constructor)
    intro w20 f20 s20 hf20
    replace hf20 : f20 = [(10, _)] := hf20
    subst hf20
    exact Ls.nil (N.to (W.ret (N.thenR (fin _ _ ((((m16.same s17).same s18).trans m19).same s20) rfl))))
  | false =>
    have e1 : I.src = 167772161 := by rw [hI, hi]; rfl
    have e2 : I.dst = 167772162 := by rw [hI, hi]; rfl
    have e3 : a = P := by rw [haa, hh]; rfl
    have e4 : c = 80 := by rw [hcc, hh]; rfl
    rw [e1] at b0
    rw [e2] at b1_
    rw [e3] at b2_
    rw [e4] at b3
    rw [hg5] at b7
    have b7 : Cl w16 ⟨u, 0 + 6 + (5 : Int).toNat * 1, none⟩ (.int .u8 1) := b7
    refine W.seq ?_
    apply W.readS LO mixed [3, 11, 12, 14, 17, 19, 113] (by kernel_rfl)
    · repeat' (first | rfl | with_reducible assumption | assumption | constructor)
    intro w17 f17 s17 hf17
    replace hf17 : f17 = [(3, _), (11, _), (12, _), (14, _), (17, _), (19, _), (113, _)] := hf17
    subst hf17
    refine W.cond (b := false) rfl (fun h => by cases h) (fun _ => W.skip (N.to ?_))
    have b0 := b0.same s17
    have b1_ := b1_.same s17
    have b2_ := b2_.same s17
    have b3 := b3.same s17
    have b4 := b4.same s17
    have b5 := b5.same s17
    have b6 := b6.same s17
    have b7 := b7.same s17
    refine W.seq (W.list ?_)
    apply Ls.runK LO [177] 31
    · repeat' (first | rfl | with_reducible assumption | assumption | constructor)
    intro w18 f18 s18 hf18
    replace hf18 : f18 = [(177, _)] := hf18
    subst hf18
    refine Ls.call LO rfl rfl rfl rfl rfl (vs := []) rfl (awake_walk w18) ?_
    rintro _ w19 ⟨rfl, m19⟩
    refine ⟨_, rfl, ?_⟩
    apply Ls.runK LO [10] 2
    · repeat' (first | rfl | with_reducible assumption | assumption | constructor)
    intro w20 f20 s20 hf20
    replace hf20 : f20 = [(10, _)] := hf20
    subst hf20
    exact Ls.nil (N.to (W.ret (fin _ _ ((((m16.same s17).same s18).trans m19).same s20) rfl)))
theorem resets_law (port : Int) (seq ack : Int) (back : Bool) (opts : Int) (w : World) (h0 : (Lit.int .i64 port).wf = true) (h1 : (Lit.int .u32 seq).wf = true) (h2 : (Lit.int .u32 ack).wf = true) (h3 : (Lit.int .i64 opts).wf = true) : Calls Try.prog 3 #[.int .i64 port, .int .u32 seq, .int .u32 ack, .bool back, .int .i64 opts] w (Yes w) :=
  resets_walk port seq ack back opts w (by have := bounds_i64 h0; omega) (by have := bounds_u32 h1; omega) (by have := bounds_u32 h2; omega) (by have := bounds_i64 h3; omega)
end Go.Proofs.Ytbidgeaigiijpaa
