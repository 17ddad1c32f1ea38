/- What is proved: frames: put and got. Conditions: those that stand in each theorem. -/
import Derived.Test.YtbidgeaigiijpaaNetSum
namespace Go.Proofs.Ytbidgeaigiijpaa
set_option linter.unusedVariables false
set_option linter.unusedSimpArgs false
set_option linter.unusedSectionVars false
open Go.RowKit Fw Nt
structure EthV where
  d : ByteArray
  s : ByteArray
  t : Int
def EthV.cs (h : EthV) : List Value := bcs h.d ++ (bcs h.s ++ [.int .i64 h.t])
structure EthV.Ok (h : EthV) : Prop where
  d : h.d.size = 6
  s : h.s.size = 6
theorem EthV.Ok.len {h : EthV} (ok : h.Ok) : h.cs.length = 13 := by
  unfold EthV.cs
  rw [List.length_append, List.length_append, bcs_len, bcs_len, ok.d, ok.s]
  rfl
theorem EthV.one (h : EthV) : h.cs.all (fun u => u.oneCell') = true := by
  rw [List.all_eq_true]
  intro u hu
  unfold EthV.cs at hu
  rw [List.mem_append, List.mem_append, List.mem_singleton] at hu
  rcases hu with e | e | e
  · exact bcs_one _ u e
  · exact bcs_one _ u e
  · rw [e]; rfl
theorem EthV.at_d {h : EthV} (ok : h.Ok) {j : Nat} (hj : j < 6) : h.cs[j]? = some (.int .u8 (bt h.d (j : Int))) := by
  unfold EthV.cs
  rw [List.getElem?_append_left (by rw [bcs_len, ok.d]; exact hj), bcs_at _ (by rw [ok.d]; exact hj)]
theorem EthV.at_s {h : EthV} (ok : h.Ok) {j : Nat} (hj : j < 6) : h.cs[6 + j]? = some (.int .u8 (bt h.s (j : Int))) := by
  unfold EthV.cs
  rw [List.getElem?_append_right (by rw [bcs_len, ok.d]; omega), bcs_len, ok.d, show 6 + j - 6 = j by omega, List.getElem?_append_left (by rw [bcs_len, ok.s]; exact hj), bcs_at _ (by rw [ok.s]; exact hj)]
theorem EthV.at_t {h : EthV} (ok : h.Ok) : h.cs[12]? = some (.int .i64 h.t) := by
  unfold EthV.cs
  rw [List.getElem?_append_right (by rw [bcs_len, ok.d]; omega), bcs_len, ok.d, List.getElem?_append_right (by rw [bcs_len, ok.s]; omega), bcs_len, ok.s]
  rfl
/-- Bytes of a box, as a text. -/
theorem conv_cells {w : World} {b o n : Nat} {str : ByteArray} (h : ∀ j, j < str.size → w.cell? ⟨b, o + j, none⟩ = some (.int .u8 (bt str (j : Int)))) (hn : str.size = n) {c : Nat} :
    ∀ w', Same w w' → (convert 24 9 (.slice (some ⟨b, o, none⟩) n c)).run Try.prog w' = .ok (.string str) w' := fun w' hw => by
  subst hn
  have := run_convert_bytes_arg (P := Try.prog) w' 24 5 info_sl8 und_u8 b o str.size c (str.data.toList.map fun c => (c.toNat : Int)) (by simp) (fun i hi => by
    rw [same_cell hw, h i hi]
    have hi' : i < str.data.toList.length := by simpa using hi
    unfold bt
    rw [List.getD_eq_getElem?_getD, List.getD_eq_getElem?_getD, List.getElem?_map, Int.toNat_natCast, List.getElem?_eq_getElem hi']
    rfl) 9 und_str
  rw [of_bcs] at this
  exact this
theorem EthV.conv_d {w : World} {b : Nat} {h : EthV} (hb : BX w b 33 h.cs) (ok : h.Ok) {c : Nat} : ∀ w', Same w w' → (convert 24 9 (.slice (some ⟨b, 0 + 0, none⟩) 6 c)).run Try.prog w' = .ok (.string h.d) w' :=
  conv_cells (fun j hj => by
    rw [show 0 + 0 + j = j by omega]
    exact (hb.cl (EthV.at_d ok (by rw [ok.d] at hj; exact hj))).h) ok.d
theorem EthV.conv_s {w : World} {b : Nat} {h : EthV} (hb : BX w b 33 h.cs) (ok : h.Ok) {c : Nat} : ∀ w', Same w w' → (convert 24 9 (.slice (some ⟨b, 0 + 6, none⟩) 6 c)).run Try.prog w' = .ok (.string h.s) w' :=
  conv_cells (fun j hj => by
    rw [show 0 + 6 + j = 6 + j by omega]
    exact (hb.cl (EthV.at_s ok (by rw [ok.s] at hj; exact hj))).h) ok.s
def putE (h : EthV) (body : ByteArray) : ByteArray := h.d ++ h.s ++ bigS h.t 2 ++ body
set_option maxRecDepth 100000 in
set_option maxHeartbeats 4000000 in
theorem eput_walk (h : EthV) (body : ByteArray) (w : World) (ok : h.Ok) (hb : body.size ≤ 1000000000) : Calls Try.prog 42 #[.agg h.cs.toArray, .string body] w fun e w' => e = .returned (.string (putE h body)) ∧ Mv (fun _ => False) w w' := by
  refine calls_W (n := 18) (vs := [.agg h.cs.toArray, .string body]) Try.func42 rfl rfl rfl ?_
  refine W.seq (W.list ?_)
  refine Ls.box rfl rfl rfl rfl rfl (vs := h.cs) rfl ?_
  have hb1 : BX (w.alloc (.cells h.cs.toArray 33)) w.heap.size 33 h.cs := heap_alloc_new w (.cells h.cs.toArray 33)
  have m1 : Mv (fun _ => False) w (w.alloc (.cells h.cs.toArray 33)) := (Mv.refl _ w).alloc _
  generalize w.alloc (.cells h.cs.toArray 33) = w1 at hb1 m1
  obtain ⟨p, hp⟩ : ∃ p, p = w.heap.size := ⟨_, rfl⟩
  rw [← hp] at hb1
  rw [← hp]
  apply Ls.runK LO [1, 2] 1
  · repeat' (first | rfl | with_reducible assumption | assumption | constructor)
  intro w2 f2 s2 hf2
  replace hf2 : f2 = [(1, _), (2, _)] := hf2
  subst hf2
  refine Ls.nil (N.to ?_)
  have m2 := m1.same s2
  have hb2 := hb1.same s2
  clear m1 hb1 s2
  have F1 : ∀ w', Mv (fun _ => False) w2 w' → ∀ w'', Same w' w'' → (convert 24 9 (.slice (some ⟨p, 0 + 0, none⟩) 6 6)).run Try.prog w'' = .ok (.string h.d) w'' := fun w' m => EthV.conv_d (hb2.moved m fun e => e) ok
  have F2 : ∀ w', Mv (fun _ => False) w2 w' → ∀ w'', Same w' w'' → (convert 24 9 (.slice (some ⟨p, 0 + 6, none⟩) 6 6)).run Try.prog w'' = .ok (.string h.s) w'' := fun w' m => EthV.conv_s (hb2.moved m fun e => e) ok
  have F3 : ∀ w', Mv (fun _ => False) w2 w' → Cl w' ⟨p, 0 + 12, none⟩ (.int .i64 h.t) := fun w' m => (hb2.moved m fun e => e).cl (EthV.at_t ok)
  have z1 : h.d.size + h.s.size ≤ 9223372036854775807 := by rw [ok.d, ok.s]; decide
  have z2 : (h.d ++ h.s).size + (bigS h.t 2).size ≤ 9223372036854775807 := by rw [ByteArray.size_append, ok.d, ok.s, bigS_size]; decide
  have z3 : (h.d ++ h.s ++ bigS h.t 2).size + body.size ≤ 9223372036854775807 := by rw [ByteArray.size_append, ByteArray.size_append, ok.d, ok.s, bigS_size]; omega
  refine W.seq (W.held mixed (fun w' => Mv (fun _ => False) w2 w') [] 14 rfl (fun w' s => (Mv.refl _ w2).same s) ?_)
  intro w3 s3
  apply H.takesK LO true [11, 13, 16] [0, 1, 2, 3, 4, 5, 6, 7, 8, 11] (k := 4) rfl (by kernel_rfl)
  · repeat' (first | rfl | with_reducible assumption | assumption | (intro w' hw'; replace hw' := hw' rfl; have h0' := F1 w' hw'; have h1' := F2 w' hw'; have h2' := F3 w' hw') | constructor)
  intro g_ hg_
  replace hg_ : g_ = [(11, _), (13, _), (16, _)] := hg_
  subst hg_
  have m3 : Mv (fun _ => False) w2 w3 := (Mv.refl _ w2).same s3
  refine H.only (i := 9) rfl (by kernel_rfl) ?_
  refine Ls.call LO rfl rfl rfl rfl rfl (vs := [.int .i64 h.t, .int .i64 2]) rfl (big_walk h.t 2 w3 (by decide)) ?_
  rintro _ w4 ⟨rfl, m4⟩
  have m4 := m3.trans m4
  refine ⟨_, rfl, Ls.nil (N.goOn (fun _ => m4) ?_)⟩
  apply H.takesK LO false [4] [10, 12, 13] (k := 0) rfl (by kernel_rfl)
  · repeat' (first | rfl | with_reducible assumption | assumption | (intro w' hw'; replace hw' := True.intro) | constructor)
  intro g_ hg_
  replace hg_ : g_ = [(4, _)] := hg_
  subst hg_
  refine H.done (by kernel_rfl) (N.to ?_)
  exact W.ret (post LO (rs := [.tmp 4]) rfl (vs := [.string (putE h body)]) (.tmp rfl .nil) ⟨rfl, m2.trans m4⟩)
/-! ### Get -/
def E0 : EthV := ⟨⟨#[0, 0, 0, 0, 0, 0]⟩, ⟨#[0, 0, 0, 0, 0, 0]⟩, 0⟩
def getE (s : ByteArray) : EthV × ByteArray × Int :=
  if s.size < 14 then (E0, ⟨#[]⟩, 2) else if 3000 < s.size then (E0, ⟨#[]⟩, 5) else (⟨s.extract 0 6, s.extract 6 12, numOf (s.extract 12 14)⟩, s.extract 14 s.size, 0)
def GotE (w : World) (r : EthV × ByteArray × Int) (e : Ending) (w' : World) : Prop := e = .returned (.tuple #[.agg r.1.cs.toArray, .string r.2.1, .int .i64 r.2.2]) ∧ Mv (fun _ => False) w w'
theorem wr_mid (x y z y' : List Value) {k : Nat} (hk : x.length = k) (h : y'.length = y.length) : wr (x ++ (y ++ z)) k y' = x ++ (y' ++ z) := by
  subst hk
  unfold wr
  rw [List.take_left, List.drop_append, List.drop_eq_nil_iff.2 (by omega), List.nil_append, show x.length + y'.length - x.length = y'.length by omega, h, List.drop_left, List.append_assoc]
theorem bcs_take (s : ByteArray) (a b : Nat) (h : b ≤ s.size) : (bcs (s.extract a s.size)).take (b - a) = bcs (s.extract a b) := by
  unfold bcs
  rw [ext_list, ext_list, ← List.map_take]
  congr 1
  rw [List.take_take]
  congr 1
  omega
theorem bcs_take0 (s : ByteArray) (b : Nat) : (bcs s).take b = bcs (s.extract 0 b) := by
  unfold bcs
  rw [ext_list, List.drop_zero, Nat.sub_zero, List.map_take]
theorem getE_ok (s : ByteArray) : (getE s).1.Ok := by
  unfold getE
  split
  · exact ⟨rfl, rfl⟩
  · split
    · exact ⟨rfl, rfl⟩
    · exact ⟨by simp; omega, by simp; omega⟩
set_option maxRecDepth 100000 in
set_option maxHeartbeats 4000000 in
theorem eget_walk (s : ByteArray) (w : World) (hs : s.size ≤ 4611686018427387904) : Calls Try.prog 11 #[.string s] w (GotE w (getE s)) := by
  refine calls_W (n := 32) (vs := [.string s]) Try.func11 rfl rfl rfl ?_
  refine W.seq (W.list ?_)
  refine Ls.alloc LO rfl rfl rfl rfl (zs := [.int .u8 0, .int .u8 0, .int .u8 0, .int .u8 0, .int .u8 0, .int .u8 0, .int .u8 0, .int .u8 0, .int .u8 0, .int .u8 0, .int .u8 0, .int .u8 0, .int .i64 0]) rfl ?_
  have hb1 : BX (w.alloc (.cells [Value.int .u8 0, .int .u8 0, .int .u8 0, .int .u8 0, .int .u8 0, .int .u8 0, .int .u8 0, .int .u8 0, .int .u8 0, .int .u8 0, .int .u8 0, .int .u8 0, .int .i64 0].toArray 33)) w.heap.size 33 E0.cs := heap_alloc_new w (.cells E0.cs.toArray 33)
  have m1 : Mv (fun _ => False) w (w.alloc (.cells [Value.int .u8 0, .int .u8 0, .int .u8 0, .int .u8 0, .int .u8 0, .int .u8 0, .int .u8 0, .int .u8 0, .int .u8 0, .int .u8 0, .int .u8 0, .int .u8 0, .int .i64 0].toArray 33)) := (Mv.refl _ w).alloc _
  generalize w.alloc (.cells [Value.int .u8 0, .int .u8 0, .int .u8 0, .int .u8 0, .int .u8 0, .int .u8 0, .int .u8 0, .int .u8 0, .int .u8 0, .int .u8 0, .int .u8 0, .int .u8 0, .int .i64 0].toArray 33) = w1 at hb1 m1
  obtain ⟨p, hp⟩ : ∃ p, p = w.heap.size := ⟨_, rfl⟩
  rw [← hp] at hb1
  rw [← hp]
  apply Ls.runK LO [0, 2] 2
  · repeat' (first | rfl | with_reducible assumption | assumption | constructor)
  intro w2 f2 s2 hf2
  replace hf2 : f2 = [(0, _), (2, _)] := hf2
  subst hf2
  refine Ls.nil (N.to ?_)
  have m2 := m1.same s2
  have hb2 := hb1.same s2
  clear m1 hb1 s2
  have fin : ∀ (r : EthV × ByteArray × Int) w' f, r.1.Ok → r = getE s → Mv (fun _ => False) w w' → BX w' p 33 r.1.cs → fget f 2 = some (.pointer (some ⟨p, 0, none⟩)) → fget f 3 = some (.string r.2.1) → fget f 4 = some (.int .i64 r.2.2) → N 32 f w' (bodyPost Try.prog Try.f11 (GotE w (getE s))) .ret := fun r w' f ok e m hb h2 h3 h4 => by
    have hl := hb.cells
    rw [ok.len] at hl
    exact post LO (rs := [.cell 2 33, .tmp 3, .tmp 4]) rfl (vs := [.agg r.1.cs.toArray, .string r.2.1, .int .i64 r.2.2]) (.cell h2 rfl (.agg hl) (.tmp h3 (.tmp h4 .nil))) ⟨by rw [e]; rfl, m⟩
  refine W.cutS (fun w' g => (Mv (fun _ => False) w w' ∧ BX w' p 33 E0.cs ∧ g = [(0, .string s), (2, .pointer (some ⟨p, 0, none⟩))]) ∧ 14 ≤ s.size ∧ s.size ≤ 3000) ?_ ?_
  · refine W.block ?_
    by_cases h1 : s.size < 14
    · have k1 : Kn (decide ((s.size : Int) < 14)) true := .yes (by omega)
      have e : (E0, (⟨#[]⟩ : ByteArray), (2 : Int)) = getE s := by unfold getE; rw [if_pos h1]
      apply W.readS LO mixed [2, 6] (by kernel_rfl)
      · repeat' (first | rfl | with_reducible assumption | assumption | constructor)
      intro w3 f3 s3 hf3
      replace hf3 : f3 = [(2, _), (6, _)] := hf3
      subst hf3
      refine W.cond (b := true) rfl (fun _ => ?_) (fun h => by cases h)
      refine W.seq (W.list ?_)
      apply Ls.runK LO [2, 10] 1
      · repeat' (first | rfl | with_reducible assumption | assumption | constructor)
      intro w4 f4 s4 hf4
      replace hf4 : f4 = [(2, _), (10, _)] := hf4
      subst hf4
      refine Ls.store LO rfl rfl rfl rfl rfl (vs := E0.cs) rfl rfl rfl ((hb2.same s3).same s4) rfl ?_
      intro w5 hb5 m5 _
      have hb5 : BX w5 p 33 E0.cs := hb5
      apply Ls.runK LO [2, 3, 4] 2
      · repeat' (first | rfl | with_reducible assumption | assumption | constructor)
      intro w6 f6 s6 hf6
      replace hf6 : f6 = [(2, _), (3, _), (4, _)] := hf6
      subst hf6
      exact Ls.nil (N.to (W.ret (N.inbR (N.thenR (fin _ _ _ ⟨rfl, rfl⟩ e ((((m2.same s3).same s4).cut m5 fun k hk e => by omega).same s6) (hb5.same s6) rfl rfl rfl)))))
    · have k1 : Kn (decide ((s.size : Int) < 14)) false := .no (by omega)
      apply W.readS LO mixed [0, 2, 6] (by kernel_rfl)
      · repeat' (first | rfl | with_reducible assumption | assumption | constructor)
      intro w3 f3 s3 hf3
      replace hf3 : f3 = [(0, _), (2, _), (6, _)] := hf3
      subst hf3
      have m3 := m2.same s3
      have hb3 := hb2.same s3
      refine W.cond (b := false) rfl (fun h => by cases h) (fun _ => ?_)
      by_cases h2 : 3000 < s.size
      · have k2 : Kn (decide (3000 < (s.size : Int))) true := .yes (by omega)
        have e : (E0, (⟨#[]⟩ : ByteArray), (5 : Int)) = getE s := by unfold getE; rw [if_neg h1, if_pos h2]
        apply W.readS LO mixed [2, 11] (by kernel_rfl)
        · repeat' (first | rfl | with_reducible assumption | assumption | constructor)
        intro w4 f4 s4 hf4
        replace hf4 : f4 = [(2, _), (11, _)] := hf4
        subst hf4
        refine W.cond (b := true) rfl (fun _ => ?_) (fun h => by cases h)
        refine W.seq (W.list ?_)
        apply Ls.runK LO [2, 15] 1
        · repeat' (first | rfl | with_reducible assumption | assumption | constructor)
        intro w5 f5 s5 hf5
        replace hf5 : f5 = [(2, _), (15, _)] := hf5
        subst hf5
        refine Ls.store LO rfl rfl rfl rfl rfl (vs := E0.cs) rfl rfl rfl ((hb3.same s4).same s5) rfl ?_
        intro w6 hb6 m6 _
        have hb6 : BX w6 p 33 E0.cs := hb6
        apply Ls.runK LO [2, 3, 4] 2
        · repeat' (first | rfl | with_reducible assumption | assumption | constructor)
        intro w7 f7 s7 hf7
        replace hf7 : f7 = [(2, _), (3, _), (4, _)] := hf7
        subst hf7
        exact Ls.nil (N.to (W.ret (N.inbR (N.thenR (fin _ _ _ ⟨rfl, rfl⟩ e ((((m3.same s4).same s5).cut m6 fun k hk e => by omega).same s7) (hb6.same s7) rfl rfl rfl)))))
      · have k2 : Kn (decide (3000 < (s.size : Int))) false := .no (by omega)
        apply W.readS LO mixed [0, 2, 11] (by kernel_rfl)
        · repeat' (first | rfl | with_reducible assumption | assumption | constructor)
        intro w4 f4 s4 hf4
        replace hf4 : f4 = [(0, _), (2, _), (11, _)] := hf4
        subst hf4
        refine W.cond (b := false) rfl (fun h => by cases h) (fun _ => W.skip ?_)
        exact N.inb (N.cut ⟨⟨m3.same s4, hb3.same s4, rfl⟩, by omega, by omega⟩ (sub_keys rfl))
  clear m2 hb2
  rintro w3 _ ⟨⟨m3, hb3, rfl⟩, h14, h3000⟩
  refine W.seq (W.list ?_)
  refine Ls.alloc LO rfl rfl rfl rfl (zs := [.int .u8 0, .int .u8 0, .int .u8 0, .int .u8 0, .int .u8 0, .int .u8 0, .int .u8 0, .int .u8 0, .int .u8 0, .int .u8 0, .int .u8 0, .int .u8 0, .int .i64 0]) rfl ?_
  have hq4 : BX (w3.alloc (.cells [Value.int .u8 0, .int .u8 0, .int .u8 0, .int .u8 0, .int .u8 0, .int .u8 0, .int .u8 0, .int .u8 0, .int .u8 0, .int .u8 0, .int .u8 0, .int .u8 0, .int .i64 0].toArray 33)) w3.heap.size 33 E0.cs := heap_alloc_new w3 (.cells E0.cs.toArray 33)
  have m4 : Mv (fun _ => False) w3 (w3.alloc (.cells [Value.int .u8 0, .int .u8 0, .int .u8 0, .int .u8 0, .int .u8 0, .int .u8 0, .int .u8 0, .int .u8 0, .int .u8 0, .int .u8 0, .int .u8 0, .int .u8 0, .int .i64 0].toArray 33)) := (Mv.refl _ w3).alloc _
  generalize w3.alloc (.cells [Value.int .u8 0, .int .u8 0, .int .u8 0, .int .u8 0, .int .u8 0, .int .u8 0, .int .u8 0, .int .u8 0, .int .u8 0, .int .u8 0, .int .u8 0, .int .u8 0, .int .i64 0].toArray 33) = w4 at hq4 m4
  obtain ⟨q, hq⟩ : ∃ q, q = w3.heap.size := ⟨_, rfl⟩
  rw [← hq] at hq4
  rw [← hq]
  have hpq : p < q := by have := hb3.lt; omega
  have hwq : w.heap.size ≤ q := by have := m3.size; omega
  have hb4 := hb3.moved m4 fun e => e
  have m4 := m3.trans m4
  clear hq m3 hb3
  refine Ls.nil (N.to ?_)
  -- the first copy
  refine W.seq (W.list ?_)
  apply Ls.runK LO [0, 2, 5, 17, 18] 3
  · repeat' (first | rfl | with_reducible assumption | assumption | constructor)
  intro w5 f5 s5 hf5
  replace hf5 : f5 = [(0, _), (2, _), (5, _), (17, _), (18, _)] := hf5
  subst hf5
  have m5 := m4.same s5
  have hb5 := hb4.same s5
  have hq5 := hq4.same s5
  refine Ls.copyS rfl rfl rfl rfl rfl info_sl8 (by kernel_rfl) rfl rfl hq5 (by show 0 + 0 + min s.size 6 ≤ 13; omega) ?_
  intro w6 u6 hq6 m6 _
  have hq6 : BX w6 q 33 (bcs (s.extract 0 6) ++ (bcs E0.s ++ [.int .i64 0])) := by
    have e1 : (bcs s).take (min s.size 6) = bcs (s.extract 0 6) := by
      rw [show min s.size 6 = 6 by omega]
      exact bcs_take0 s 6
    rw [e1] at hq6
    have e2 : wr E0.cs (0 + 0) (bcs (s.extract 0 6)) = bcs (s.extract 0 6) ++ (bcs E0.s ++ [.int .i64 0]) := by
      have := wr_mid [] (bcs E0.d) (bcs E0.s ++ [.int .i64 0]) (bcs (s.extract 0 6)) (k := 0) rfl (by rw [bcs_len, bcs_len]; simp; show min 6 s.size = 6; omega)
      exact this
    rw [e2] at hq6
    exact hq6
  have hb6 := hb5.moved m6 (by omega)
  have m6 : Mv (fun _ => False) w w6 := m5.cut m6 fun k hk e => by omega
  refine Ls.nil (N.to ?_)
  clear m4 hb4 hq4 s5 m5 hb5 hq5
  -- the second
  have b0 : (0 : Int) ≤ 6 := by decide
  have b1 : (6 : Int) ≤ (s.size : Int) := by omega
  refine W.seq (W.held mixed (fun w' => Mv (· = q) w6 w') [] 5 rfl (fun w' s => (Mv.refl _ w6).same s) ?_)
  intro w7 s7
  apply H.takesK LO true [0, 2, 5, 21, 23] [0, 1, 2, 3] (k := 1) rfl (by kernel_rfl)
  · repeat' (first | rfl | with_reducible assumption | assumption | (intro w' hw'; replace hw' := hw' rfl) | constructor)
  intro g_ hg_
  replace hg_ : g_ = [(0, _), (2, _), (5, _), (21, _), (23, _)] := hg_
  subst hg_
  refine H.only (i := 4) rfl (by kernel_rfl) ?_
  have m7 := m6.same s7
  have hb7 := hb6.same s7
  have hq7 := hq6.same s7
  have hel : (s.extract 6 s.size).size = s.size - 6 := by simp
  refine Ls.copyS rfl rfl rfl rfl rfl info_sl8 (by kernel_rfl) rfl rfl hq7 (by rw [List.length_append, List.length_append, bcs_len, bcs_len]; simp; show 6 + min (s.size - 6) 6 ≤ min 6 s.size + (6 + 1); omega) ?_
  intro w8 u8 hq8 m8 _
  have hq8 : BX w8 q 33 (bcs (s.extract 0 6) ++ (bcs (s.extract 6 12) ++ [.int .i64 0])) := by
    have e1 : (bcs (s.extract (6 : Int).toNat s.size)).take (min (s.extract (6 : Int).toNat s.size).size 6) = bcs (s.extract 6 12) := by
      show (bcs (s.extract 6 s.size)).take (min (s.extract 6 s.size).size 6) = _
      rw [hel, show min (s.size - 6) 6 = 12 - 6 by omega]
      exact bcs_take s 6 12 (by omega)
    rw [e1] at hq8
    have e2 : wr (bcs (s.extract 0 6) ++ (bcs E0.s ++ [.int .i64 0])) (0 + 6) (bcs (s.extract 6 12)) = bcs (s.extract 0 6) ++ (bcs (s.extract 6 12) ++ [.int .i64 0]) :=
      wr_mid (bcs (s.extract 0 6)) (bcs E0.s) [.int .i64 0] (bcs (s.extract 6 12)) (by rw [bcs_len]; simp; omega) (by rw [bcs_len, bcs_len]; simp; show min 12 s.size - 6 = 6; omega)
    rw [e2] at hq8
    exact hq8
  refine Ls.nil (N.goOn (fun _ => ((Mv.refl _ w6).same s7).trans m8) ?_)
  refine H.done (by kernel_rfl) (N.to ?_)
  have hb8 := hb7.moved m8 (by omega)
  have m8 : Mv (fun _ => False) w w8 := m7.cut m8 fun k hk e => by omega
  clear m6 hb6 hq6 s7 m7 hb7 hq7
  -- the type
  refine W.seq (W.list ?_)
  have b2 : (0 : Int) ≤ 12 := by decide
  have b3 : (12 : Int) ≤ 14 := by decide
  have b4 : (14 : Int) ≤ (s.size : Int) := by omega
  apply Ls.runK LO [0, 2, 5, 26] 2
  · repeat' (first | rfl | with_reducible assumption | assumption | constructor)
  intro w9 f9 s9 hf9
  replace hf9 : f9 = [(0, _), (2, _), (5, _), (26, _)] := hf9
  subst hf9
  have m9 := m8.same s9
  refine Ls.call LO rfl rfl rfl rfl rfl (vs := [.string (s.extract 12 14)]) rfl (num_walk (s.extract 12 14) w9 (by simp; omega)) ?_
  rintro _ w10 ⟨rfl, m10'⟩
  refine ⟨_, rfl, ?_⟩
  have hb10 := (hb8.same s9).moved m10' fun e => e
  have hq10 := (hq8.same s9).moved m10' fun e => e
  have m10 := m9.trans m10'
  apply Ls.runK LO [0, 2, 5, 27, 28] 1
  · repeat' (first | rfl | with_reducible assumption | assumption | constructor)
  intro w11 f11 s11 hf11
  replace hf11 : f11 = [(0, _), (2, _), (5, _), (27, _), (28, _)] := hf11
  subst hf11
  obtain ⟨H_, hH⟩ : ∃ H_ : EthV, H_ = ⟨s.extract 0 6, s.extract 6 12, numOf (s.extract 12 14)⟩ := ⟨_, rfl⟩
  have hok : H_.Ok := by rw [hH]; exact ⟨by simp; omega, by simp; omega⟩
  have hl12 : (bcs (s.extract 0 6) ++ (bcs (s.extract 6 12) ++ [Value.int .i64 0])).length = 13 := by
    rw [List.length_append, List.length_append, bcs_len, bcs_len]; simp; omega
  refine Ls.store LO rfl rfl rfl rfl rfl (vs := [.int .i64 (numOf (s.extract 12 14))]) rfl rfl rfl (hq10.same s11) (by rw [hl12]; rfl) ?_
  intro w12 hq12 m12 _
  have hq12 : BX w12 q 33 H_.cs := by
    have e2 : wr (bcs (s.extract 0 6) ++ (bcs (s.extract 6 12) ++ [Value.int .i64 0])) (0 + 12) [Value.int .i64 (numOf (s.extract 12 14))] = H_.cs := by
      rw [hH]
      have := wr_mid (bcs (s.extract 0 6) ++ bcs (s.extract 6 12)) [Value.int .i64 0] [] [Value.int .i64 (numOf (s.extract 12 14))] (k := 12) (by rw [List.length_append, bcs_len, bcs_len]; simp; omega) rfl
      rw [List.append_nil, List.append_nil, List.append_assoc, List.append_assoc] at this
      exact this
    rw [e2] at hq12
    exact hq12
  have hb12 := (hb10.same s11).moved m12 (by omega)
  have m12 : Mv (fun _ => False) w w12 := (m10.same s11).cut m12 fun k hk e => by omega
  refine Ls.nil (N.to ?_)
  clear m8 hb8 hq8 s9 m9 m10 m10' hb10 hq10 s11
  -- the end
  have hcell : CellsAt w12 q 0 13 H_.cs := by have := hq12.cells; rwa [hok.len] at this
  have F1 : ∀ w', Mv (· = p) w12 w' → CellsAt w' q 0 13 H_.cs := fun w' m => by
    have := (hq12.moved m (by omega)).cells
    rwa [hok.len] at this
  have b5 : (0 : Int) ≤ 14 := by decide
  refine W.seq (W.held mixed (fun w' => Mv (· = p) w12 w') [] 6 rfl (fun w' s => (Mv.refl _ w12).same s) ?_)
  intro w13 s13
  apply H.takesK LO true [2, 29, 31] [0, 1, 2] (k := 3) rfl (by kernel_rfl)
  · repeat' (first | rfl | with_reducible assumption | assumption | (intro w' hw'; replace hw' := hw' rfl; have h0' := F1 w' hw') | constructor)
  intro g_ hg_
  replace hg_ : g_ = [(2, _), (29, _), (31, _)] := hg_
  subst hg_
  refine H.only (i := 3) rfl (by kernel_rfl) ?_
  refine Ls.store LO rfl rfl rfl rfl rfl (vs := H_.cs) rfl (by rw [hok.len]; rfl) (EthV.one H_) (hb12.same s13) (by rw [hok.len]; rfl) ?_
  intro w14 hb14 m14 _
  have hb14 : BX w14 p 33 H_.cs := by
    have e : wr E0.cs 0 H_.cs = H_.cs := by
      have := wr_mid [] E0.cs [] H_.cs (k := 0) rfl (by rw [hok.len]; rfl)
      simpa using this
    rw [e] at hb14
    exact hb14
  refine Ls.nil (N.goOn (fun _ => ((Mv.refl _ w12).same s13).trans m14) ?_)
  apply H.takesK LO false [2, 3, 4] [4, 5] (k := 0) rfl (by kernel_rfl)
  · repeat' (first | rfl | with_reducible assumption | assumption | (intro w' hw'; replace hw' := True.intro) | constructor)
  intro g_ hg_
  replace hg_ : g_ = [(2, _), (3, _), (4, _)] := hg_
  subst hg_
  refine H.done (by kernel_rfl) (N.to ?_)
  refine W.ret (fin (H_, s.extract 14 s.size, 0) _ _ hok ?_ ((m12.same s13).cut m14 fun k hk e => by omega) hb14 rfl rfl rfl)
  unfold getE
  rw [if_neg (by omega), if_neg (by omega), hH]
end Go.Proofs.Ytbidgeaigiijpaa
