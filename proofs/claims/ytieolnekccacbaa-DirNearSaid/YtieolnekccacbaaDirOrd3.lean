/- What is proved: the law of orders. Conditions: those that stand in each theorem. -/
import Derived.Test.YtieolnekccacbaaDirOrd2
import Derived.ChangeSlices
namespace Go.Proofs.Ytieolnekccacbaa
set_option linter.unusedVariables false
set_option linter.unusedSimpArgs false
set_option linter.unusedSectionVars false
open Go.RowKit Go.Maps Go.MapKept Go.ChangeMaps Go.ChangeShapes Fw
/-- A row of numbers that came as an argument. -/
def RowK (k : IntKind) (w : World) (a : Option Addr) (l : List Int) : Prop := ∀ i v, l[i]? = some v → ∃ x, a = some x ∧ w.cell? (x.add i) = some (.int k v)
theorem open_row {H : Type} {enc : TypeId × Value → H} {P : Program} {W : World} {t e : TypeId} {k : IntKind} {a : Option Addr} {len cap : Nat} {d : DataW H} {ps : List MemPlace}
    (ht : P.underlying t = some (.slice e)) (he : P.underlying e = some (.int k)) (hc : P.cellsOf e = 1) (h : DataW.Trod enc P W 0 (fun _ => true) true t (.slice a len cap) d ps) :
    ∃ l : List Int, len = l.length ∧ RowK k W a l ∧ ∀ n ∈ l, (Lit.int k n).wf = true := by
  obtain ⟨fuel, hf⟩ := h
  rcases open_ints ht he hc hf with ⟨hcs, _⟩ | ⟨x, l, c, ss, hcs, _, hl, hm, hz, _, hcell, hws⟩
  · simp [Value.cells] at hcs
    obtain ⟨rfl, rfl, rfl⟩ := hcs
    exact ⟨[], rfl, fun i v hi => by simp at hi, fun s hs => by cases hs⟩
  · simp [Value.cells] at hcs
    obtain ⟨rfl, rfl, rfl⟩ := hcs
    have hz' : ss.length = cap := by simpa using hz
    refine ⟨ss.take len, by simp; omega, fun i v hi => ⟨x, rfl, ?_⟩, fun s hs => hws s (List.mem_of_mem_take hs)⟩
    obtain ⟨hlt, hv⟩ := List.getElem?_eq_some_iff.1 hi
    simp only [List.length_take] at hlt
    rw [hcell i (by omega), List.getD_eq_getElem?_getD, List.getElem?_eq_getElem (by omega), Option.getD_some]
    rw [← hv, List.getElem_take]
/-- The law's memory. -/
structure MW (w w' : World) (p m bs bt bd bo bw : Nat) (start : Int) (s : ByteArray) (d : DS) (L : List Bool) : Prop where
  ow : OW w' p m bs bt bd bo start s d
  inv : OInv start s d
  arr : w'.heap[bw]? = some (.cells (L.map Value.bool).toArray 49 (0, 0))
  len : L.length = 60
  ok : ∀ x : Nat, L[x]? = some true → Has d x
  mv : Mv (fun _ => False) w w'
  nb : bw ≠ p ∧ bw ≠ m ∧ bw ≠ bo ∧ bw ≠ bs ∧ bw ≠ bt ∧ bw ≠ bd
  fresh : w.heap.size ≤ p ∧ w.heap.size ≤ m ∧ w.heap.size ≤ bo ∧ w.heap.size ≤ bw
theorem MW.same {w w' w'' : World} {p m bs bt bd bo bw : Nat} {start : Int} {s : ByteArray} {d : DS} {L : List Bool} (h : MW w w' p m bs bt bd bo bw start s d L) (e : Same w' w'') : MW w w'' p m bs bt bd bo bw start s d L :=
  ⟨h.ow.same e, h.inv, by rw [e.heap]; exact h.arr, h.len, h.ok, h.mv.same e, h.nb, h.fresh⟩
theorem MW.clo {w w' w'' : World} {p m bs bt bd bo bw : Nat} {start : Int} {s : ByteArray} {d d' : DS} {L : List Bool} (h : MW w w' p m bs bt bd bo bw start s d L) (ow : OW w'' p m bs bt bd bo start s d') (inv : OInv start s d') (has : ∀ x, Has d x → Has d' x)
    (e : Mv (fun k => k = p ∨ k = m ∨ k = bo) w' w'') : MW w w'' p m bs bt bd bo bw start s d' L :=
  ⟨ow, inv, (e.block bw (Array.getElem?_eq_some_iff.1 h.arr).1 (fun e => by rcases e with e | e | e; exact h.nb.1 e; exact h.nb.2.1 e; exact h.nb.2.2.1 e)).trans h.arr, h.len, fun x hx => has x (h.ok x hx),
    h.mv.cut e fun i hi e => by have := h.fresh; rcases e with e | e | e <;> omega, h.nb, h.fresh⟩
theorem MW.set {w w' w'' : World} {p m bs bt bd bo bw : Nat} {start : Int} {s : ByteArray} {d : DS} {L L' : List Bool} (h : MW w w' p m bs bt bd bo bw start s d L) (e : Mv (· = bw) w' w'') (arr : w''.heap[bw]? = some (.cells (L'.map Value.bool).toArray 49 (0, 0))) (len : L'.length = 60)
    (ok : ∀ x : Nat, L'[x]? = some true → Has d x) : MW w w'' p m bs bt bd bo bw start s d L' :=
  ⟨h.ow.moved e ⟨Ne.symm h.nb.1, Ne.symm h.nb.2.1, Ne.symm h.nb.2.2.2.1, Ne.symm h.nb.2.2.2.2.1, Ne.symm h.nb.2.2.2.2.2, Ne.symm h.nb.2.2.1⟩, h.inv, arr, len, ok, h.mv.cut e fun i hi e => by have := h.fresh; omega, h.nb, h.fresh⟩
theorem MW.at {w w' : World} {p m bs bt bd bo bw : Nat} {start : Int} {s : ByteArray} {d : DS} {L : List Bool} (h : MW w w' p m bs bt bd bo bw start s d L) (k : Nat) (hk : k < 60) : ∃ b, L[k]? = some b ∧ Cl w' ⟨bw, 0 + (k : Int).toNat * 1, none⟩ (.bool b) := by
  have hl : k < L.length := by have := h.len; omega
  refine ⟨L[k], List.getElem?_eq_getElem hl, ⟨?_⟩⟩
  unfold World.cell?
  rw [h.arr]
  have e : 0 + (k : Int).toNat * 1 = k := by omega
  simp only [e]
  simp [hl]
theorem wr_one (cs : List Value) (k : Nat) (v : Value) (hk : k < cs.length) : wr cs k [v] = cs.set k v := by
  unfold wr
  simp only [List.length_singleton]
  rw [List.set_eq_take_append_cons_drop, if_pos hk]
  simp
def clo (bt bd bs bo : Nat) : Value := .func (.func 23) #[] #[.pointer (some ⟨bt, 0, none⟩), .pointer (some ⟨bd, 0, none⟩), .pointer (some ⟨bs, 0, none⟩), .pointer (some ⟨bo, 0, none⟩)]
def of0 (a : Option Addr) (len cap bt bd bs bo bw : Nat) (i : Int) : Fr := [(2, .slice a len cap), (4, .pointer (some ⟨bt, 0, none⟩)), (7, .pointer (some ⟨bd, 0, none⟩)), (8, .pointer (some ⟨bo, 0, none⟩)), (9, clo bt bd bs bo), (10, .pointer (some ⟨bw, 0, none⟩)), (11, .int .i64 i)]
set_option maxRecDepth 100000 in
set_option maxHeartbeats 4000000 in
theorem orders_walk (start : Int) (s : ByteArray) (a : Option Addr) (cap : Nat) (l : List Int) (w : World) (hs : 0 ≤ start ∧ start < 4294967296) (hrow : RowK .i64 w a l) (hl64 : ∀ n ∈ l, -9223372036854775808 ≤ n ∧ n ≤ 9223372036854775807) :
    Calls Try.prog 8 #[.int .u32 start, .string s, .slice a l.length cap] w (Yes w) := by
  refine calls_W (n := 123) (vs := [.int .u32 start, .string s, .slice a l.length cap]) Try.func8 rfl rfl rfl ?_
  refine W.seq (W.list ?_)
  refine Ls.box rfl rfl rfl rfl rfl (vs := [.int .u32 start]) rfl ?_
  have b1 := heap_alloc_new w (.cells [Value.int .u32 start].toArray 22)
  have m1 : Mv (fun _ => False) w (w.alloc (.cells [Value.int .u32 start].toArray 22)) := (Mv.refl _ w).alloc _
  have z1 := size_alloc' w (.cells [Value.int .u32 start].toArray 22)
  generalize w.alloc (.cells [Value.int .u32 start].toArray 22) = w1 at b1 m1 z1
  refine Ls.box rfl rfl rfl rfl rfl (vs := [.string s]) rfl ?_
  have b2 := heap_alloc_new w1 (.cells [Value.string s].toArray 9)
  have m2 : Mv (fun _ => False) w1 (w1.alloc (.cells [Value.string s].toArray 9)) := (Mv.refl _ w1).alloc _
  have z2 := size_alloc' w1 (.cells [Value.string s].toArray 9)
  generalize w1.alloc (.cells [Value.string s].toArray 9) = w2 at b2 m2 z2
  have vs2 : Var1 w2 w.heap.size 22 (.int .u32 start) := Var1.moved (show Var1 w1 _ _ _ from b1) m2 (fun e => e)
  have vt2 : Var1 w2 w1.heap.size 9 (.string s) := b2
  have hm2 := m1.trans m2
  obtain ⟨bs, hbs⟩ : ∃ bs, bs = w.heap.size := ⟨_, rfl⟩
  obtain ⟨bt, hbt⟩ : ∃ bt, bt = w1.heap.size := ⟨_, rfl⟩
  rw [← hbs] at vs2
  rw [← hbs, ← hbt]
  rw [← hbt] at vt2
  apply Ls.runK LO [2, 3, 4] 1
  · repeat' (first | rfl | with_reducible assumption | assumption | constructor)
  intro w3 f3 s3 hf3
  replace hf3 : f3 = [(2, _), (3, _), (4, _)] := hf3
  subst hf3
  refine Ls.nil (N.to ?_)
  have vs3 := vs2.same s3
  have vt3 := vt2.same s3
  have hm3 := hm2.same s3
  have z3 : w3.heap.size = w2.heap.size := by rw [s3.heap]
  clear b1 b2 m1 m2 vs2 vt2 hm2 s3
  have ct := vt3.cl
  refine W.cutS (fun w' g => (Same w3 w' ∧ g = [(2, .slice a l.length cap), (3, .pointer (some ⟨bs, 0, none⟩)), (4, .pointer (some ⟨bt, 0, none⟩))]) ∧ 1 ≤ s.size ∧ s.size ≤ 60 ∧ l.length ≤ 60) ?_ ?_
  · by_cases hsz : 1 ≤ s.size ∧ s.size ≤ 60 ∧ l.length ≤ 60
    · have k1 : Kn (decide ((s.size : Int) < 1)) false := .no (by omega)
      have k2 : Kn (decide (60 < (s.size : Int))) false := .no (by omega)
      have k3 : Kn (decide (60 < (l.length : Int))) false := .no (by omega)
      apply W.readS LO mixed [2, 3, 4, 31] (by kernel_rfl)
      · repeat' (first | rfl | with_reducible assumption | assumption | constructor)
      intro w4 f4 s4 hf4
      replace hf4 : f4 = [(2, _), (3, _), (4, _), (31, _)] := hf4
      subst hf4
      refine W.cond (b := false) rfl (fun h => by cases h) (fun _ => W.skip ?_)
      exact N.cut ⟨⟨s4, rfl⟩, hsz⟩ (sub_keys rfl)
    · refine W.cutS (fun w' g => Same w3 w' ∧ g = [(31, .bool true)]) ?_ ?_
      · by_cases h1 : s.size < 1
        · have k1 : Kn (decide ((s.size : Int) < 1)) true := .yes (by omega)
          apply W.readN LO mixed [31] (by kernel_rfl)
          · repeat' (first | rfl | with_reducible assumption | assumption | constructor)
          intro w4 f4 s4 hf4
          replace hf4 : f4 = [(31, _)] := hf4
          subst hf4
          exact N.cut ⟨s4, rfl⟩ (sub_keys rfl)
        · have k1 : Kn (decide ((s.size : Int) < 1)) false := .no (by omega)
          by_cases h2 : 60 < s.size
          · have k2 : Kn (decide (60 < (s.size : Int))) true := .yes (by omega)
            apply W.readN LO mixed [31] (by kernel_rfl)
            · repeat' (first | rfl | with_reducible assumption | assumption | constructor)
            intro w4 f4 s4 hf4
            replace hf4 : f4 = [(31, _)] := hf4
            subst hf4
            exact N.cut ⟨s4, rfl⟩ (sub_keys rfl)
          · have k2 : Kn (decide (60 < (s.size : Int))) false := .no (by omega)
            have k3 : Kn (decide (60 < (l.length : Int))) true := .yes (by omega)
            apply W.readN LO mixed [31] (by kernel_rfl)
            · repeat' (first | rfl | with_reducible assumption | assumption | constructor)
            intro w4 f4 s4 hf4
            replace hf4 : f4 = [(31, _)] := hf4
            subst hf4
            exact N.cut ⟨s4, rfl⟩ (sub_keys rfl)
      rintro w5 _ ⟨s5, rfl⟩
      refine W.cond (b := true) rfl (fun _ => ?_) (fun h => by cases h)
      refine W.seq (W.list ?_)
      refine Ls.call LO rfl rfl rfl rfl rfl (vs := []) rfl (awake_walk w5) ?_
      rintro _ w6 ⟨rfl, hm6⟩
      refine ⟨_, rfl, ?_⟩
      apply Ls.runK LO [6] 1
      · repeat' (first | rfl | with_reducible assumption | assumption | constructor)
      intro w7 f7 s7 hf7
      replace hf7 : f7 = [(6, _)] := hf7
      subst hf7
      refine Ls.nil (N.to (W.ret (N.thenR (post LO (rs := [.tmp 6]) rfl (vs := [.bool true]) (.tmp rfl .nil) ⟨rfl, (((hm3.same s5).trans hm6)).same s7⟩))))
  rintro w4 _ ⟨⟨s4, rfl⟩, hN1, hN, hl60⟩
  have vs4 := vs3.same s4
  have vt4 := vt3.same s4
  have hm4 := hm3.same s4
  have z4 : w4.heap.size = w2.heap.size := by rw [s4.heap, z3]
  clear ct vs3 vt3 hm3 s4 z3
  have cs4 := vs4.cl
  refine W.seq (W.list ?_)
  apply Ls.runK LO [2, 3, 4, 33] 1
  · repeat' (first | rfl | with_reducible assumption | assumption | constructor)
  intro w5 f5 s5 hf5
  replace hf5 : f5 = [(2, _), (3, _), (4, _), (33, _)] := hf5
  subst hf5
  refine Ls.call LO rfl rfl rfl rfl rfl (vs := [.int .u32 start, .int .i64 100, .int .i64 100]) rfl (start_walk start 100 100 w5) ?_
  rintro _ w6 ⟨p, m, rfl, hD, hp, hm, hmv6⟩
  refine ⟨_, rfl, ?_⟩
  have vs6 := (vs4.same s5).moved hmv6 (fun e => e)
  have vt6 := (vt4.same s5).moved hmv6 (fun e => e)
  have hm6 := (hm4.same s5).trans hmv6
  have z5 : w5.heap.size = w2.heap.size := by rw [s5.heap, z4]
  have hp1 : p ≠ bs ∧ p ≠ bt ∧ m ≠ bs ∧ m ≠ bt := by omega
  have hpf : w.heap.size ≤ p ∧ w.heap.size ≤ m := by omega
  clear cs4 vs4 vt4 hm4 hmv6 s5 hp hm
  refine Ls.alloc LO rfl rfl rfl rfl rfl ?_
  have b7 := heap_alloc_new w6 (.cells [Value.pointer none].toArray 25)
  have m7 : Mv (fun _ => False) w6 (w6.alloc (.cells [Value.pointer none].toArray 25)) := (Mv.refl _ w6).alloc _
  have z7 := size_alloc' w6 (.cells [Value.pointer none].toArray 25)
  generalize w6.alloc (.cells [Value.pointer none].toArray 25) = w7 at b7 m7 z7
  obtain ⟨bd, hbd⟩ : ∃ bd, bd = w6.heap.size := ⟨_, rfl⟩
  rw [← hbd] at b7
  rw [← hbd]
  have vs7 := vs6.moved m7 (fun e => e)
  have vt7 := vt6.moved m7 (fun e => e)
  have hD7 := hD.moved m7 (fun e => e) (fun e => e)
  have hm7 := hm6.trans m7
  have n7 : bd ≠ bs ∧ bd ≠ bt ∧ bd ≠ p ∧ bd ≠ m := by have := vs6.lt; have := vt6.lt; have := hD.blk.lt; have := hD.map.lt; omega
  refine Ls.store LO rfl rfl rfl rfl rfl (vs := [.pointer (some ⟨p, 0, none⟩)]) rfl rfl rfl b7 rfl ?_
  intro w8 b8 m8 z8
  refine Ls.nil (N.to ?_)
  have vs8 := vs7.moved m8 (fun e => n7.1 e.symm)
  have vt8 := vt7.moved m8 (fun e => n7.2.1 e.symm)
  have hD8 := hD7.moved m8 (fun e => n7.2.2.1 e.symm) (fun e => n7.2.2.2 e.symm)
  have vd8 : Var1 w8 bd 25 (.pointer (some ⟨p, 0, none⟩)) := b8
  have hm8 : Mv (fun _ => False) w w8 := hm7.cut m8 fun i hi e => by have := hm6.size; omega
  clear b7 m7 vs7 vt7 hD7 hm7 b8 m8 vs6 vt6 hD hm6
  have cd8 := vd8.cl
  refine W.cutS (fun w' g => Same w8 w' ∧ g = [(2, .slice a l.length cap), (3, .pointer (some ⟨bs, 0, none⟩)), (4, .pointer (some ⟨bt, 0, none⟩)), (7, .pointer (some ⟨bd, 0, none⟩))]) ?_ ?_
  ·
    apply W.readS LO mixed [2, 3, 4, 7, 36] (by kernel_rfl)
    · repeat' (first | rfl | with_reducible assumption | assumption | constructor)
    intro w9 f9 s9 hf9
    replace hf9 : f9 = [(2, _), (3, _), (4, _), (7, _), (36, _)] := hf9
    subst hf9
    refine W.cond (b := false) rfl (fun h => by cases h) (fun _ => W.skip ?_)
    exact N.cut ⟨s9, rfl⟩ (sub_keys rfl)
  rintro w9 _ ⟨s9, rfl⟩
  have vs9 := vs8.same s9
  have vt9 := vt8.same s9
  have vd9 := vd8.same s9
  have hD9 := hD8.same s9
  have hm9 := hm8.same s9
  clear cd8 vs8 vt8 vd8 hD8 hm8 s9 z7 z8
  refine W.seq (W.list ?_)
  refine Ls.alloc LO rfl rfl rfl rfl rfl ?_
  have b10 := heap_alloc_new w9 (.cells [Value.string ⟨#[]⟩].toArray 9)
  have m10 : Mv (fun _ => False) w9 (w9.alloc (.cells [Value.string ⟨#[]⟩].toArray 9)) := (Mv.refl _ w9).alloc _
  generalize w9.alloc (.cells [Value.string ⟨#[]⟩].toArray 9) = w10 at b10 m10
  obtain ⟨bo, hbo⟩ : ∃ bo, bo = w9.heap.size := ⟨_, rfl⟩
  rw [← hbo] at b10
  rw [← hbo]
  have n10 : bo ≠ bs ∧ bo ≠ bt ∧ bo ≠ p ∧ bo ≠ m ∧ bo ≠ bd := by have := vs9.lt; have := vt9.lt; have := hD9.blk.lt; have := hD9.map.lt; have := vd9.lt; omega
  refine Ls.store LO rfl rfl rfl rfl rfl (vs := [.string ⟨#[]⟩]) rfl rfl rfl b10 rfl ?_
  intro w11 b11 m11 z11
  refine Ls.nil (N.to ?_)
  have hbo' : w.heap.size ≤ bo := by have := hm9.size; omega
  have hw11 : OW w11 p m bs bt bd bo start s (DS.new start 100 100) := by
    refine ⟨(hD9.moved m10 (fun e => e) (fun e => e)).moved m11 (fun e => n10.2.2.1 e.symm) (fun e => n10.2.2.2.1 e.symm), (vs9.moved m10 (fun e => e)).moved m11 (fun e => n10.1 e.symm), (vt9.moved m10 (fun e => e)).moved m11 (fun e => n10.2.1 e.symm), (vd9.moved m10 (fun e => e)).moved m11 (fun e => n10.2.2.2.2 e.symm), ?_, ?_⟩
    · rw [show (DS.new start 100 100).pl.toNat = 0 from rfl, extract_same]; exact b11
    · omega
  have hm11 : Mv (fun _ => False) w w11 := (hm9.trans m10).cut m11 fun i hi e => by omega
  clear b10 m10 b11 m11 vs9 vt9 vd9 hD9 hm9
  apply W.readS LO mixed [2, 4, 7, 8, 9] (by kernel_rfl)
  · repeat' (first | rfl | with_reducible assumption | assumption | constructor)
  intro w12 f12 s12 hf12
  replace hf12 : f12 = [(2, _), (4, _), (7, _), (8, _), (9, _)] := hf12
  subst hf12
  have hw12 := hw11.same s12
  have hm12 := hm11.same s12
  refine W.seq (W.list ?_)
  refine Ls.alloc LO rfl rfl rfl rfl (zs := List.replicate 60 (.bool false)) rfl ?_
  have b13 := heap_alloc_new w12 (.cells (List.replicate 60 (Value.bool false)).toArray 49)
  have m13 : Mv (fun _ => False) w12 (w12.alloc (.cells (List.replicate 60 (Value.bool false)).toArray 49)) := (Mv.refl _ w12).alloc _
  generalize w12.alloc (.cells (List.replicate 60 (Value.bool false)).toArray 49) = w13 at b13 m13
  obtain ⟨bw, hbw⟩ : ∃ bw, bw = w12.heap.size := ⟨_, rfl⟩
  rw [← hbw] at b13
  rw [← hbw]
  refine Ls.nil (N.to ?_)
  have hM : MW w w13 p m bs bt bd bo bw start s (DS.new start 100 100) (List.replicate 60 false) := by
    refine ⟨hw12.moved m13 ⟨fun e => e, fun e => e, fun e => e, fun e => e, fun e => e, fun e => e⟩, ⟨rfl, rfl, rfl, Int.le_refl 0, by show (0 : Int) ≤ s.size; omega, List.nodup_nil, fun x c h => (by cases h), by rw [show (DS.new start 100 100).pl.toNat = 0 from rfl, extract_same]; rfl, .inl rfl, rfl⟩, ?_, by simp, ?_, hm12.trans m13, ?_, ?_⟩
    · rw [List.map_replicate]; exact b13
    · intro x hx
      rw [List.getElem?_replicate] at hx
      split at hx <;> cases hx
    · have := hw12.dir.blk.lt; have := hw12.dir.map.lt; have := hw12.vo.lt; have := hw12.vs.lt; have := hw12.vt.lt; have := hw12.vd.lt; omega
    · have := hm12.size; omega
  clear hw11 hm11 hw12 hm12 s12 b13 m13
  -- the segments by numbers
  refine W.cutS (fun w' g => (∃ d L, MW w w' p m bs bt bd bo bw start s d L) ∧ g = [(4, .pointer (some ⟨bt, 0, none⟩)), (7, .pointer (some ⟨bd, 0, none⟩)), (8, .pointer (some ⟨bo, 0, none⟩)), (9, clo bt bd bs bo)]) ?_ ?_
  ·
    apply W.readS LO mixed [2, 4, 7, 8, 9, 10, 11] (by kernel_rfl)
    · repeat' (first | rfl | with_reducible assumption | assumption | constructor)
    intro w14 f14 s14 hf14
    replace hf14 : f14 = [(2, _), (4, _), (7, _), (8, _), (9, _), (10, _), (11, _)] := hf14
    subst hf14
    have hM := hM.same s14
    clear s14
    refine W.block (W.loop (fun k w' g => ∃ (i : Nat) (d : DS) (L : List Bool), k + i = l.length ∧ MW w w' p m bs bt bd bo bw start s d L ∧ g = of0 a l.length cap bt bd bs bo bw i) l.length _ ⟨0, _, _, rfl, hM, rfl⟩ (sub_keys rfl) ?_)
    clear hM
    rintro k w15 _ ⟨i, d, L, hki, hM, rfl⟩
    by_cases hlt : i < l.length
    · have k1 : Kn (decide ((i : Int) < (l.length : Int))) true := .yes (by omega)
      refine W.seq ?_
      apply W.readS LO mixed [2, 4, 7, 8, 9, 10, 11, 41] (by kernel_rfl)
      · repeat' (first | rfl | with_reducible assumption | assumption | constructor)
      intro w16 f16 s16 hf16
      replace hf16 : f16 = [(2, _), (4, _), (7, _), (8, _), (9, _), (10, _), (11, _), (41, _)] := hf16
      subst hf16
      have hM := hM.same s16
      refine W.cond (b := true) rfl (fun _ => W.skip (N.to ?_)) (fun h => by cases h)
      refine W.cutS (fun w' g => (∃ d L, MW w w' p m bs bt bd bo bw start s d L) ∧ g = of0 a l.length cap bt bd bs bo bw i) ?_ ?_
      · refine W.block ?_
        obtain ⟨v, hv⟩ : ∃ v, l[i]? = some v := ⟨l[i], List.getElem?_eq_getElem hlt⟩
        obtain ⟨x0, rfl, hx0⟩ := hrow i v hv
        have hvr := hl64 v (List.mem_of_getElem? hv)
        have cx : Cl w16 (x0.add ((i : Int).toNat * 1)) (.int .i64 v) := ⟨by rw [show (i : Int).toNat * 1 = i by omega]; exact hM.mv.cell hx0 (fun e => e)⟩
        obtain ⟨V, hV⟩ : ∃ V : Nat, v % 1048576 = V := ⟨(v % 1048576).toNat, by omega⟩
        have hV1 : V < 1048576 := by omega
        have q1 := quiet_of (w := w16) fun w' s' => place00_says v 1048576 w' (by decide) (by decide) hvr.1 hvr.2
        rw [hV] at q1
        have g0 : 0 ≤ (i : Int) := by omega
        have g1 : (i : Int) < (l.length : Int) := by omega
        apply W.readS LO mixed [2, 4, 7, 8, 9, 10, 11, 12] (by kernel_rfl)
        · repeat' (first | rfl | with_reducible assumption | assumption | constructor)
        intro w17 f17 s17 hf17
        replace hf17 : f17 = [(2, _), (4, _), (7, _), (8, _), (9, _), (10, _), (11, _), (12, _)] := hf17
        subst hf17
        have hM := hM.same s17
        clear cx q1 s17
        have ct := hM.ow.vt.cl
        obtain ⟨F, hF⟩ : ∃ F : Nat, F = V % s.size := ⟨_, rfl⟩
        have hF1 : F < s.size := by rw [hF]; exact Nat.mod_lt _ (by omega)
        have hN0 : (s.size : Int) ≠ 0 := by omega
        have k2 : Kn ((V : Int).tmod (s.size : Int)) (F : Int) := .of (by rw [Int.tmod_eq_emod_of_nonneg (by omega), hF]; rfl)
        apply W.readS LO mixed [2, 4, 7, 8, 9, 10, 11, 12, 13] (by kernel_rfl)
        · repeat' (first | rfl | with_reducible assumption | assumption | constructor)
        intro w18 f18 s18 hf18
        replace hf18 : f18 = [(2, _), (4, _), (7, _), (8, _), (9, _), (10, _), (11, _), (12, _), (13, _)] := hf18
        subst hf18
        have hM := hM.same s18
        clear ct s18 k2
        have ct := hM.ow.vt.cl
        obtain ⟨M, hMm⟩ : ∃ M : Nat, M = min 9 (s.size - F) := ⟨_, rfl⟩
        obtain ⟨n, hn⟩ : ∃ n : Nat, n = 1 + V / 60 % M := ⟨_, rfl⟩
        have hMp : 0 < M ∧ M ≤ s.size - F := by omega
        have hnM : V / 60 % M < M := Nat.mod_lt _ hMp.1
        have h60 : (60 : Int) ≠ 0 := by decide
        have hM0 : (M : Int) ≠ 0 := by omega
        have k3 : Kn (IntKind.i64.wrap ((V : Int).tdiv 60)) ((V / 60 : Nat) : Int) := .of (by rw [Int.tdiv_eq_ediv_of_nonneg (by omega)]; exact (IntWalk.i64_in _ (by omega)).trans (by omega))
        have k4 : Kn (IntKind.i64.wrap ((s.size : Int) - F)) ((s.size : Int) - F) := .of (IntWalk.i64_in _ (by omega))
        have k5 : Kn (if ((s.size : Int) - F) < 9 then ((s.size : Int) - F) else 9) (M : Int) := .of (by split <;> omega)
        have k6 : Kn (((V / 60 : Nat) : Int).tmod (M : Int)) ((V / 60 % M : Nat) : Int) := .of (by rw [Int.tmod_eq_emod_of_nonneg (by omega)]; rfl)
        have k7 : Kn (IntKind.i64.wrap (1 + ((V / 60 % M : Nat) : Int))) (n : Int) := .of ((IntWalk.i64_in _ (by omega)).trans (by omega))
        apply W.readS LO mixed [2, 4, 7, 8, 9, 10, 11, 12, 13, 14] (by kernel_rfl)
        · repeat' (first | rfl | with_reducible assumption | assumption | constructor)
        intro w19 f19 s19 hf19
        replace hf19 : f19 = [(2, _), (4, _), (7, _), (8, _), (9, _), (10, _), (11, _), (12, _), (13, _), (14, _)] := hf19
        subst hf19
        have hM := hM.same s19
        clear ct s19 k3 k4 k5 k6 k7
        have hn1 : 1 ≤ n := by omega
        have hFn : F + n ≤ s.size := by omega
        clear hn hnM hMp hM0 hMm hF
        apply W.readS LO mixed [2, 4, 7, 8, 9, 10, 11, 12, 13, 14, 15] (by kernel_rfl)
        · repeat' (first | rfl | with_reducible assumption | assumption | constructor)
        intro w20 f20 s20 hf20
        replace hf20 : f20 = [(2, _), (4, _), (7, _), (8, _), (9, _), (10, _), (11, _), (12, _), (13, _), (14, _), (15, _)] := hf20
        subst hf20
        have hM := hM.same s20
        clear s20
        -- are all of them there?
        refine W.cutS (fun w' g => (∃ al : Bool, MW w w' p m bs bt bd bo bw start s d L ∧ (al = true → ∀ x : Nat, F ≤ x → x < F + n → L[x]? = some true) ∧ g = (12, .int .i64 V) :: (13, .int .i64 F) :: (14, .int .i64 n) :: (15, .bool al) :: of0 (some x0) l.length cap bt bd bs bo bw i)) ?_ ?_
        ·
          apply W.readS LO mixed [2, 4, 7, 8, 9, 10, 11, 12, 13, 14, 15, 16] (by kernel_rfl)
          · repeat' (first | rfl | with_reducible assumption | assumption | constructor)
          intro w21 f21 s21 hf21
          replace hf21 : f21 = [(2, _), (4, _), (7, _), (8, _), (9, _), (10, _), (11, _), (12, _), (13, _), (14, _), (15, _), (16, _)] := hf21
          subst hf21
          have hM := hM.same s21
          clear s21
          refine W.block (W.loop (fun k w' g => ∃ (y : Nat) (al : Bool), k + y = F + n ∧ F ≤ y ∧ MW w w' p m bs bt bd bo bw start s d L ∧ (al = true → ∀ x : Nat, F ≤ x → x < y → L[x]? = some true) ∧ g = (16, .int .i64 y) :: (12, .int .i64 V) :: (13, .int .i64 F) :: (14, .int .i64 n) :: (15, .bool al) :: of0 (some x0) l.length cap bt bd bs bo bw i) n _ ⟨F, true, by omega, Nat.le_refl _, hM, fun _ x h1 h2 => by omega, rfl⟩ (sub_keys rfl) ?_)
          clear hM
          rintro k' w22 _ ⟨y, al, hky, hFy, hM, hal, rfl⟩
          have k1 : Kn (IntKind.i64.wrap ((F : Int) + n)) ((F : Int) + n) := .of (IntWalk.i64_in _ (by omega))
          by_cases hyl : y < F + n
          · have k2 : Kn (decide ((y : Int) < (F : Int) + n)) true := .yes (by omega)
            refine W.seq ?_
            apply W.readS LO mixed [2, 4, 7, 8, 9, 10, 11, 12, 13, 14, 15, 16, 67] (by kernel_rfl)
            · repeat' (first | rfl | with_reducible assumption | assumption | constructor)
            intro w23 f23 s23 hf23
            replace hf23 : f23 = [(2, _), (4, _), (7, _), (8, _), (9, _), (10, _), (11, _), (12, _), (13, _), (14, _), (15, _), (16, _), (67, _)] := hf23
            subst hf23
            have hM := hM.same s23
            refine W.cond (b := true) rfl (fun _ => W.skip (N.to ?_)) (fun h => by cases h)
            refine W.cutS (fun w' g => ∃ (al : Bool), MW w w' p m bs bt bd bo bw start s d L ∧ (al = true → ∀ x : Nat, F ≤ x → x < y + 1 → L[x]? = some true) ∧ g = (16, .int .i64 y) :: (12, .int .i64 V) :: (13, .int .i64 F) :: (14, .int .i64 n) :: (15, .bool al) :: of0 (some x0) l.length cap bt bd bs bo bw i) ?_ ?_
            · refine W.block ?_
              obtain ⟨b, hb, cb⟩ := hM.at y (by omega)
              have g2 : 0 ≤ (y : Int) := by omega
              have g3 : (y : Int) < ((60 : Nat) : Int) := by omega
              cases al with
              | true =>
                apply W.readN LO mixed [2, 4, 7, 8, 9, 10, 11, 12, 13, 14, 15, 16] (by kernel_rfl)
                · repeat' (first | rfl | with_reducible assumption | assumption | constructor)
                intro w24 f24 s24 hf24
                replace hf24 : f24 = [(2, _), (4, _), (7, _), (8, _), (9, _), (10, _), (11, _), (12, _), (13, _), (14, _), (15, _), (16, _)] := hf24
                subst hf24
                refine N.inb (N.cut ⟨b, hM.same s24, ?_, rfl⟩ (sub_keys rfl))
                intro hbt x h1 h2
                by_cases hxy : x = y
                · rw [hxy, hb, hbt]
                · exact hal rfl x h1 (by omega)
              | false =>
                apply W.readN LO mixed [2, 4, 7, 8, 9, 10, 11, 12, 13, 14, 15, 16] (by kernel_rfl)
                · repeat' (first | rfl | with_reducible assumption | assumption | constructor)
                intro w24 f24 s24 hf24
                replace hf24 : f24 = [(2, _), (4, _), (7, _), (8, _), (9, _), (10, _), (11, _), (12, _), (13, _), (14, _), (15, _), (16, _)] := hf24
                subst hf24
                exact N.inb (N.cut ⟨false, hM.same s24, fun h => (by cases h), rfl⟩ (sub_keys rfl))
            · rintro w24 _ ⟨al, hM, hal, rfl⟩
              have k5 : Kn (IntKind.i64.wrap ((y : Int) + 1)) ((y + 1 : Nat) : Int) := .of (IntWalk.i64_in _ (by omega))
              apply W.readN LO mixed [2, 4, 7, 8, 9, 10, 11, 12, 13, 14, 15, 16] (by kernel_rfl)
              · repeat' (first | rfl | with_reducible assumption | assumption | constructor)
              intro w25 f25 s25 hf25
              replace hf25 : f25 = [(2, _), (4, _), (7, _), (8, _), (9, _), (10, _), (11, _), (12, _), (13, _), (14, _), (15, _), (16, _)] := hf25
              subst hf25
              exact N.round (k' - 1) _ (by omega) ⟨y + 1, al, by omega, by omega, hM.same s25, hal, rfl⟩ (sub_keys rfl)
          · have k2 : Kn (decide ((y : Int) < (F : Int) + n)) false := .no (by omega)
            refine W.seq ?_
            apply W.readS LO mixed [2, 4, 7, 8, 9, 10, 11, 12, 13, 14, 15, 67] (by kernel_rfl)
            · repeat' (first | rfl | with_reducible assumption | assumption | constructor)
            intro w23 f23 s23 hf23
            replace hf23 : f23 = [(2, _), (4, _), (7, _), (8, _), (9, _), (10, _), (11, _), (12, _), (13, _), (14, _), (15, _), (67, _)] := hf23
            subst hf23
            refine W.cond (b := false) rfl (fun h => by cases h) (fun _ => W.exit ?_)
            exact N.thenE (N.thenE (N.out (N.cut ⟨al, hM.same s23, fun h x h1 h2 => hal h x h1 (by omega), rfl⟩ (sub_keys rfl))))
        rintro w21 _ ⟨al, hM, hal, rfl⟩
        -- the push
        refine W.cutS (fun w' g => (∃ d', MW w w' p m bs bt bd bo bw start s d' L ∧ (∀ x : Int, (F : Int) ≤ x → x < F + n → Has d' x)) ∧ g = (13, .int .i64 F) :: (14, .int .i64 n) :: of0 (some x0) l.length cap bt bd bs bo bw i) ?_ ?_
        · have h600 : (600 : Int) ≠ 0 := by decide
          have h2 : (2 : Int) ≠ 0 := by decide
          refine W.seq (W.list ?_)
          cases al with
          | true =>
            apply Ls.runK LO [2, 4, 7, 8, 9, 10, 11, 13, 14, 76, 77, 78, 85] 10
            · repeat' (first | rfl | with_reducible assumption | assumption | constructor)
            intro w22 f22 s22 hf22
            replace hf22 : f22 = [(2, _), (4, _), (7, _), (8, _), (9, _), (10, _), (11, _), (13, _), (14, _), (76, _), (77, _), (78, _), (85, _)] := hf22
            generalize ((IntKind.i64.wrap ((V : Int).tdiv 600)).tmod 2 == 0) = wb at hf22
            subst hf22
            have hM := hM.same s22
            refine Ls.callF LO rfl rfl rfl rfl rfl rfl (vs := [.int .i64 F, .int .i64 n, .bool wb]) rfl (clo_walk start hs s hN p m bs bt bd bo d F n hn1 hFn wb w22 hM.inv hM.ow (fun _ x h1 h2 => by
              have := hM.ok x.toNat (hal rfl x.toNat (by omega) (by omega))
              rwa [Int.toNat_of_nonneg (by omega)] at this)) ?_
            rintro _ w23 ⟨rfl, d', inv', ow', has', new', fin1, fin2, hmv⟩
            refine ⟨_, rfl, ?_⟩
            have hM := hM.clo ow' inv' has' hmv
            apply Ls.runK LO [2, 4, 7, 8, 9, 10, 11, 13, 14, 87] 1
            · repeat' (first | rfl | with_reducible assumption | assumption | constructor)
            intro w24 f24 s24 hf24
            replace hf24 : f24 = [(2, _), (4, _), (7, _), (8, _), (9, _), (10, _), (11, _), (13, _), (14, _), (87, _)] := hf24
            subst hf24
            refine Ls.nil (N.to ?_)
            refine W.cond (b := false) rfl (fun h => by cases h) (fun _ => W.skip ?_)
            exact N.cut ⟨⟨d', hM.same s24, new'⟩, rfl⟩ (sub_keys rfl)
          | false =>
            apply Ls.runK LO [2, 4, 7, 8, 9, 10, 11, 13, 14, 76, 77, 78, 85] 10
            · repeat' (first | rfl | with_reducible assumption | assumption | constructor)
            intro w22 f22 s22 hf22
            replace hf22 : f22 = [(2, _), (4, _), (7, _), (8, _), (9, _), (10, _), (11, _), (13, _), (14, _), (76, _), (77, _), (78, _), (85, _)] := hf22
            subst hf22
            have hM := hM.same s22
            refine Ls.callF LO rfl rfl rfl rfl rfl rfl (vs := [.int .i64 F, .int .i64 n, .bool false]) rfl (clo_walk start hs s hN p m bs bt bd bo d F n hn1 hFn false w22 hM.inv hM.ow (fun h => by cases h)) ?_
            rintro _ w23 ⟨rfl, d', inv', ow', has', new', fin1, fin2, hmv⟩
            refine ⟨_, rfl, ?_⟩
            have hM := hM.clo ow' inv' has' hmv
            apply Ls.runK LO [2, 4, 7, 8, 9, 10, 11, 13, 14, 87] 1
            · repeat' (first | rfl | with_reducible assumption | assumption | constructor)
            intro w24 f24 s24 hf24
            replace hf24 : f24 = [(2, _), (4, _), (7, _), (8, _), (9, _), (10, _), (11, _), (13, _), (14, _), (87, _)] := hf24
            subst hf24
            refine Ls.nil (N.to ?_)
            refine W.cond (b := false) rfl (fun h => by cases h) (fun _ => W.skip ?_)
            exact N.cut ⟨⟨d', hM.same s24, new'⟩, rfl⟩ (sub_keys rfl)
        rintro w22 _ ⟨⟨d', hM, hnew⟩, rfl⟩
        clear hal
        -- they went
        apply W.readS LO mixed [2, 4, 7, 8, 9, 10, 11, 13, 14, 17] (by kernel_rfl)
        · repeat' (first | rfl | with_reducible assumption | assumption | constructor)
        intro w23 f23 s23 hf23
        replace hf23 : f23 = [(2, _), (4, _), (7, _), (8, _), (9, _), (10, _), (11, _), (13, _), (14, _), (17, _)] := hf23
        subst hf23
        have hM := hM.same s23
        clear s23
        refine W.block (W.loop (fun k w' g => ∃ (y : Nat) (L : List Bool), k + y = F + n ∧ F ≤ y ∧ MW w w' p m bs bt bd bo bw start s d' L ∧ g = (17, .int .i64 y) :: (13, .int .i64 F) :: (14, .int .i64 n) :: of0 (some x0) l.length cap bt bd bs bo bw i) n _ ⟨F, L, by omega, Nat.le_refl _, hM, rfl⟩ (sub_keys rfl) ?_)
        clear hM
        rintro k' w24 _ ⟨y, L, hky, hFy, hM, rfl⟩
        have k1 : Kn (IntKind.i64.wrap ((F : Int) + n)) ((F : Int) + n) := .of (IntWalk.i64_in _ (by omega))
        by_cases hyl : y < F + n
        · have k2 : Kn (decide ((y : Int) < (F : Int) + n)) true := .yes (by omega)
          refine W.seq ?_
          apply W.readS LO mixed [2, 4, 7, 8, 9, 10, 11, 13, 14, 17, 93] (by kernel_rfl)
          · repeat' (first | rfl | with_reducible assumption | assumption | constructor)
          intro w25 f25 s25 hf25
          replace hf25 : f25 = [(2, _), (4, _), (7, _), (8, _), (9, _), (10, _), (11, _), (13, _), (14, _), (17, _), (93, _)] := hf25
          subst hf25
          have hM := hM.same s25
          refine W.cond (b := true) rfl (fun _ => W.skip (N.to ?_)) (fun h => by cases h)
          refine W.cutS (fun w' g => ∃ (L : List Bool), MW w w' p m bs bt bd bo bw start s d' L ∧ g = (17, .int .i64 y) :: (13, .int .i64 F) :: (14, .int .i64 n) :: of0 (some x0) l.length cap bt bd bs bo bw i) ?_ ?_
          · refine W.block (W.list ?_)
            have g2 : 0 ≤ (y : Int) := by omega
            have g3 : (y : Int) < ((60 : Nat) : Int) := by omega
            apply Ls.runK LO [2, 4, 7, 8, 9, 10, 11, 13, 14, 17, 97] 2
            · repeat' (first | rfl | with_reducible assumption | assumption | constructor)
            intro w26 f26 s26 hf26
            replace hf26 : f26 = [(2, _), (4, _), (7, _), (8, _), (9, _), (10, _), (11, _), (13, _), (14, _), (17, _), (97, _)] := hf26
            subst hf26
            have hM := hM.same s26
            have hyL : y < L.length := by have := hM.len; omega
            refine Ls.store LO rfl rfl rfl rfl rfl (vs := [.bool true]) rfl rfl rfl hM.arr (by rw [Nat.ble_eq]; simp; omega) ?_
            intro w27 hb hmv _
            refine Ls.nil (N.inb (N.cut ⟨L.set y true, hM.set hmv ?_ (by rw [List.length_set]; exact hM.len) ?_, rfl⟩ (sub_keys rfl)))
            · rw [hb, show 0 + (y : Int).toNat * 1 = y by omega, wr_one _ _ _ (by simpa using hyL), List.map_set]
            · intro x hx
              rw [List.getElem?_set] at hx
              by_cases hxy : y = x
              · subst hxy
                exact hnew y (by omega) (by omega)
              · rw [if_neg hxy] at hx
                exact hM.ok x hx
          · rintro w26 _ ⟨L, hM, rfl⟩
            have k5 : Kn (IntKind.i64.wrap ((y : Int) + 1)) ((y + 1 : Nat) : Int) := .of (IntWalk.i64_in _ (by omega))
            apply W.readN LO mixed [2, 4, 7, 8, 9, 10, 11, 13, 14, 17] (by kernel_rfl)
            · repeat' (first | rfl | with_reducible assumption | assumption | constructor)
            intro w27 f27 s27 hf27
            replace hf27 : f27 = [(2, _), (4, _), (7, _), (8, _), (9, _), (10, _), (11, _), (13, _), (14, _), (17, _)] := hf27
            subst hf27
            exact N.round (k' - 1) _ (by omega) ⟨y + 1, L, by omega, by omega, hM.same s27, rfl⟩ (sub_keys rfl)
        · have k2 : Kn (decide ((y : Int) < (F : Int) + n)) false := .no (by omega)
          refine W.seq ?_
          apply W.readS LO mixed [2, 4, 7, 8, 9, 10, 11, 93] (by kernel_rfl)
          · repeat' (first | rfl | with_reducible assumption | assumption | constructor)
          intro w25 f25 s25 hf25
          replace hf25 : f25 = [(2, _), (4, _), (7, _), (8, _), (9, _), (10, _), (11, _), (93, _)] := hf25
          subst hf25
          refine W.cond (b := false) rfl (fun h => by cases h) (fun _ => W.exit ?_)
          exact N.thenE (N.thenE (N.out (N.inb (N.cut ⟨⟨d', L, hM.same s25⟩, rfl⟩ (sub_keys rfl)))))
      · rintro w17 _ ⟨⟨d, L, hM⟩, rfl⟩
        have k5 : Kn (IntKind.i64.wrap ((i : Int) + 1)) ((i + 1 : Nat) : Int) := .of (IntWalk.i64_in _ (by omega))
        apply W.readN LO mixed [2, 4, 7, 8, 9, 10, 11] (by kernel_rfl)
        · repeat' (first | rfl | with_reducible assumption | assumption | constructor)
        intro w18 f18 s18 hf18
        replace hf18 : f18 = [(2, _), (4, _), (7, _), (8, _), (9, _), (10, _), (11, _)] := hf18
        subst hf18
        exact N.round (k - 1) _ (by omega) ⟨i + 1, d, L, by omega, hM.same s18, rfl⟩ (sub_keys rfl)
    · have k1 : Kn (decide ((i : Int) < (l.length : Int))) false := .no (by omega)
      refine W.seq ?_
      apply W.readS LO mixed [4, 7, 8, 9, 41] (by kernel_rfl)
      · repeat' (first | rfl | with_reducible assumption | assumption | constructor)
      intro w16 f16 s16 hf16
      replace hf16 : f16 = [(4, _), (7, _), (8, _), (9, _), (41, _)] := hf16
      subst hf16
      refine W.cond (b := false) rfl (fun h => by cases h) (fun _ => W.exit ?_)
      exact N.thenE (N.thenE (N.out (N.cut ⟨⟨d, L, hM.same s16⟩, rfl⟩ (sub_keys rfl))))
  rintro w15 _ ⟨⟨d, L, hM⟩, rfl⟩
  -- each place
  refine W.cutS (fun w' g => (∃ d L, MW w w' p m bs bt bd bo bw start s d L ∧ (∀ x : Nat, x < s.size → Has d x) ∧ d.fin = s.size) ∧ g = [(4, .pointer (some ⟨bt, 0, none⟩)), (7, .pointer (some ⟨bd, 0, none⟩)), (8, .pointer (some ⟨bo, 0, none⟩))]) ?_ ?_
  ·
    apply W.readS LO mixed [4, 7, 8, 9, 18] (by kernel_rfl)
    · repeat' (first | rfl | with_reducible assumption | assumption | constructor)
    intro w16 f16 s16 hf16
    replace hf16 : f16 = [(4, _), (7, _), (8, _), (9, _), (18, _)] := hf16
    subst hf16
    have hM := hM.same s16
    clear s16
    refine W.block (W.loop (fun k w' g => ∃ (i : Nat) (d : DS) (L : List Bool), k + i = s.size ∧ MW w w' p m bs bt bd bo bw start s d L ∧ (∀ x : Nat, x < i → Has d x) ∧ (i = s.size → d.fin = s.size) ∧ g = [(4, .pointer (some ⟨bt, 0, none⟩)), (7, .pointer (some ⟨bd, 0, none⟩)), (8, .pointer (some ⟨bo, 0, none⟩)), (9, clo bt bd bs bo), (18, .int .i64 i)]) s.size _ ⟨0, d, L, rfl, hM, fun x hx => absurd hx (Nat.not_lt_zero x), fun h => by omega, rfl⟩ (sub_keys rfl) ?_)
    clear hM
    rintro k w15 _ ⟨i, d, L, hki, hM, hhas, hfin, rfl⟩
    have ct := hM.ow.vt.cl
    by_cases hlt : i < s.size
    · have k1 : Kn (decide ((i : Int) < (s.size : Int))) true := .yes (by omega)
      refine W.seq ?_
      apply W.readS LO mixed [4, 7, 8, 9, 18, 101] (by kernel_rfl)
      · repeat' (first | rfl | with_reducible assumption | assumption | constructor)
      intro w16 f16 s16 hf16
      replace hf16 : f16 = [(4, _), (7, _), (8, _), (9, _), (18, _), (101, _)] := hf16
      subst hf16
      have hM := hM.same s16
      refine W.cond (b := true) rfl (fun _ => W.skip (N.to ?_)) (fun h => by cases h)
      refine W.cutS (fun w' g => (∃ d L, MW w w' p m bs bt bd bo bw start s d L ∧ (∀ x : Nat, x < i + 1 → Has d x) ∧ (i + 1 = s.size → d.fin = s.size)) ∧ g = [(4, .pointer (some ⟨bt, 0, none⟩)), (7, .pointer (some ⟨bd, 0, none⟩)), (8, .pointer (some ⟨bo, 0, none⟩)), (9, clo bt bd bs bo), (18, .int .i64 i)]) ?_ ?_
      · refine W.block (W.seq (W.list ?_))
        apply Ls.runK LO [4, 7, 8, 9, 18, 104, 105] 2
        · repeat' (first | rfl | with_reducible assumption | assumption | constructor)
        intro w17 f17 s17 hf17
        replace hf17 : f17 = [(4, _), (7, _), (8, _), (9, _), (18, _), (104, _), (105, _)] := hf17
        subst hf17
        have hM := hM.same s17
        refine Ls.callF LO rfl rfl rfl rfl rfl rfl (vs := [.int .i64 i, .int .i64 1, .bool false]) rfl (clo_walk start hs s hN p m bs bt bd bo d i 1 (Nat.le_refl 1) (by omega) false w17 hM.inv hM.ow (fun h => by cases h)) ?_
        rintro _ w18 ⟨rfl, d', inv', ow', has', new', fin1, fin2, hmv⟩
        refine ⟨_, rfl, ?_⟩
        have hM := hM.clo ow' inv' has' hmv
        apply Ls.runK LO [4, 7, 8, 9, 18, 107] 1
        · repeat' (first | rfl | with_reducible assumption | assumption | constructor)
        intro w19 f19 s19 hf19
        replace hf19 : f19 = [(4, _), (7, _), (8, _), (9, _), (18, _), (107, _)] := hf19
        subst hf19
        refine Ls.nil (N.to ?_)
        refine W.cond (b := false) rfl (fun h => by cases h) (fun _ => W.skip ?_)
        refine N.inb (N.cut ⟨⟨d', L, hM.same s19, ?_, fin1⟩, rfl⟩ (sub_keys rfl))
        intro x hx
        by_cases h2 : x < i
        · exact has' _ (hhas x h2)
        · exact new' x (by omega) (by omega)
      · rintro w17 _ ⟨⟨d, L, hM, hhas, hfin⟩, rfl⟩
        have k5 : Kn (IntKind.i64.wrap ((i : Int) + 1)) ((i + 1 : Nat) : Int) := .of (IntWalk.i64_in _ (by omega))
        apply W.readN LO mixed [4, 7, 8, 9, 18] (by kernel_rfl)
        · repeat' (first | rfl | with_reducible assumption | assumption | constructor)
        intro w18 f18 s18 hf18
        replace hf18 : f18 = [(4, _), (7, _), (8, _), (9, _), (18, _)] := hf18
        subst hf18
        exact N.round (k - 1) _ (by omega) ⟨i + 1, d, L, by omega, hM.same s18, hhas, hfin, rfl⟩ (sub_keys rfl)
    · have k1 : Kn (decide ((i : Int) < (s.size : Int))) false := .no (by omega)
      refine W.seq ?_
      apply W.readS LO mixed [4, 7, 8, 101] (by kernel_rfl)
      · repeat' (first | rfl | with_reducible assumption | assumption | constructor)
      intro w16 f16 s16 hf16
      replace hf16 : f16 = [(4, _), (7, _), (8, _), (101, _)] := hf16
      subst hf16
      refine W.cond (b := false) rfl (fun h => by cases h) (fun _ => W.exit ?_)
      exact N.thenE (N.thenE (N.out (N.cut ⟨⟨d, L, hM.same s16, fun x hx => hhas x (by omega), hfin (by omega)⟩, rfl⟩ (sub_keys rfl))))
  rintro w16 _ ⟨⟨d, L, hM, hhas, hfin⟩, rfl⟩
  have hpl : d.pl = s.size := by
    have h1 := hM.inv.p1
    have h0 := hM.inv.p0
    by_cases h : d.pl = s.size
    · exact h
    · exfalso
      have := hhas d.pl.toNat (by omega)
      rw [Int.toNat_of_nonneg h0] at this
      rcases this with h2 | h2
      · omega
      · cases hlk : d.held.lookup d.pl with
        | none => exact h2 hlk
        | some c => have := (hM.inv.hl _ _ hlk).1; omega
  have hheld : d.held = [] := by
    cases hh : d.held with
    | nil => rfl
    | cons q r =>
      exfalso
      have hlk : d.held.lookup q.1 = some q.2 := lookup_of_mem hM.inv.nd (by rw [hh]; exact List.mem_cons_self)
      have := hM.inv.hl _ _ hlk
      omega
  have hdone : d.done = true := by rw [hM.inv.dn]; exact decide_eq_true (by rw [hfin, hpl])
  have ct := hM.ow.vt.cl
  have cd := hM.ow.vd.cl
  have co := hM.ow.vo.cl
  have q1 := quiet_of (w := w16) fun w' s' => done_says p m d w' (hM.ow.dir.same s')
  have q2 := quiet_of (w := w16) fun w' s' => waits_says p m d w' (hM.ow.dir.same s')
  rw [hdone] at q1
  rw [hheld] at q2
  have ke : s.extract 0 d.pl.toNat = s := by rw [hpl, Int.toNat_natCast]; exact ByteArray.extract_zero_size
  rw [ke] at co
  have ks : Kn (s.toList == s.toList) true := .of (beq_self_eq_true _)
  refine W.seq (W.list ?_)
  apply Ls.runK LO [120] 13
  · repeat' (first | rfl | with_reducible assumption | assumption | constructor)
  intro w17 f17 s17 hf17
  replace hf17 : f17 = [(120, _)] := hf17
  subst hf17
  refine Ls.call LO rfl rfl rfl rfl rfl (vs := []) rfl (awake_walk w17) ?_
  rintro _ w18 ⟨rfl, hm18⟩
  refine ⟨_, rfl, ?_⟩
  apply Ls.runK LO [6] 2
  · repeat' (first | rfl | with_reducible assumption | assumption | constructor)
  intro w19 f19 s19 hf19
  replace hf19 : f19 = [(6, _)] := hf19
  subst hf19
  refine Ls.nil (N.to (W.ret (post LO (rs := [.tmp 6]) rfl (vs := [.bool true]) (.tmp rfl .nil) ⟨rfl, ((hM.mv.same s17).trans hm18).same s19⟩)))
theorem orders_law (start : Int) (s : ByteArray) (a : Option Addr) (cap : Nat) (l : List Int) (w : World) (h0 : (Lit.int .u32 start).wf = true) (_ : s.size ≤ 140737488351232) (hrow : RowK .i64 w a l) (hl : ∀ n ∈ l, (Lit.int .i64 n).wf = true) :
    Calls Try.prog 8 #[.int .u32 start, .string s, .slice a l.length cap] w (Yes w) :=
  orders_walk start s a cap l w (by have := bounds_u32 h0; omega) hrow fun n hn => bounds_i64 (hl n hn)
end Go.Proofs.Ytieolnekccacbaa
