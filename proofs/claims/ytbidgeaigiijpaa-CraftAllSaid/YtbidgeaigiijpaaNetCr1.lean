/- What is proved: heads that the laws make; heads turned round, heads made plain. Conditions: those that stand in each theorem. -/
import Derived.Test.YtbidgeaigiijpaaNetIp2
namespace Go.Proofs.Ytbidgeaigiijpaa
set_option linter.unusedVariables false
set_option linter.unusedSimpArgs false
set_option linter.unusedSectionVars false
open Go.RowKit Fw Nt
def six (f : Nat → Int) : List Value := [.int .u8 (f 0), .int .u8 (f 1), .int .u8 (f 2), .int .u8 (f 3), .int .u8 (f 4), .int .u8 (f 5)]
def ecs (f g : Nat → Int) (t : Int) : List Value := [.int .u8 (f 0), .int .u8 (f 1), .int .u8 (f 2), .int .u8 (f 3), .int .u8 (f 4), .int .u8 (f 5), .int .u8 (g 0), .int .u8 (g 1), .int .u8 (g 2), .int .u8 (g 3), .int .u8 (g 4), .int .u8 (g 5), .int .i64 t]
def two (f g : Nat → Int) (t : Int) (i : IpV) : List Value := [.int .u8 (f 0), .int .u8 (f 1), .int .u8 (f 2), .int .u8 (f 3), .int .u8 (f 4), .int .u8 (f 5), .int .u8 (g 0), .int .u8 (g 1), .int .u8 (g 2), .int .u8 (g 3), .int .u8 (g 4), .int .u8 (g 5), .int .i64 t, .int .i64 i.tos, .int .i64 i.id, .bool i.more, .bool i.keep, .int .i64 i.off, .int .i64 i.ttl, .int .i64 i.proto, .int .u32 i.src, .int .u32 i.dst, .string i.o]
theorem bcs_six {s : ByteArray} (h : s.size = 6) : bcs s = six fun j => bt s (j : Int) := by
  apply List.ext_getElem?
  intro j
  by_cases hj : j < 6
  · rw [bcs_at s (by omega)]
    match j, hj with
    | 0, _ => rfl
    | 1, _ => rfl
    | 2, _ => rfl
    | 3, _ => rfl
    | 4, _ => rfl
    | 5, _ => rfl
  · rw [List.getElem?_eq_none_iff.2 (by rw [bcs_len]; omega), List.getElem?_eq_none_iff.2 (by show 6 ≤ j; omega)]
theorem EthV.ecs {h : EthV} (ok : h.Ok) : h.cs = ecs (fun j => bt h.d (j : Int)) (fun j => bt h.s (j : Int)) h.t := by
  unfold EthV.cs
  rw [bcs_six ok.d, bcs_six ok.s]
  rfl
theorem BX.part {w : World} {b T : Nat} {cs x y z : List Value} (h : BX w b T cs) (e : cs = x ++ (y ++ z)) {k n : Nat} (hk : x.length = k) (hn : y.length = n) : CellsAt w b k n y := by
  subst e hk hn
  refine cellsAt_of fun j u hj => (h.cl ?_).h
  rw [List.getElem?_append_right (by omega), Nat.add_sub_cancel_left, List.getElem?_append_left (List.getElem?_eq_some_iff.1 hj).1]
  exact hj
def IpV.plain (i : IpV) : IpV := ⟨i.tos, i.id, false, false, 0, i.ttl, i.proto, i.src, i.dst, ⟨#[]⟩⟩
def IpV.back (i : IpV) : IpV := ⟨i.tos, 0, false, false, 0, 64, i.proto, i.dst, i.src, ⟨#[]⟩⟩
set_option maxRecDepth 100000 in
set_option maxHeartbeats 8000000 in
theorem plain_walk (f g : Nat → Int) (t : Int) (i : IpV) (w : World) : Calls Try.prog 31 #[.agg (two f g t i).toArray] w fun e w' => e = .returned (.agg (two f g t i.plain).toArray) ∧ Mv (fun _ => False) w w' := by
  refine calls_W (n := 12) (vs := [.agg (two f g t i).toArray]) Try.func31 rfl rfl rfl ?_
  refine W.seq (W.list ?_)
  refine Ls.box rfl rfl rfl rfl rfl (vs := two f g t i) rfl ?_
  have hb1 : BX (w.alloc (.cells (two f g t i).toArray 65)) w.heap.size 65 (two f g t i) := heap_alloc_new w (.cells (two f g t i).toArray 65)
  have m1 : Mv (fun _ => False) w (w.alloc (.cells (two f g t i).toArray 65)) := (Mv.refl _ w).alloc _
  generalize w.alloc (.cells (two f g t i).toArray 65) = w1 at hb1 m1
  obtain ⟨p, hp⟩ : ∃ p, p = w.heap.size := ⟨_, rfl⟩
  rw [← hp] at hb1
  rw [← hp]
  refine Ls.alloc LO rfl rfl rfl rfl (zs := two (fun _ => 0) (fun _ => 0) 0 ⟨0, 0, false, false, 0, 0, 0, 0, 0, ⟨#[]⟩⟩) rfl ?_
  have hr2 : BX (w1.alloc (.cells (two (fun _ => 0) (fun _ => 0) 0 ⟨0, 0, false, false, 0, 0, 0, 0, 0, ⟨#[]⟩⟩).toArray 65)) w1.heap.size 65 (two (fun _ => 0) (fun _ => 0) 0 ⟨0, 0, false, false, 0, 0, 0, 0, 0, ⟨#[]⟩⟩) := heap_alloc_new w1 (.cells (two (fun _ => 0) (fun _ => 0) 0 ⟨0, 0, false, false, 0, 0, 0, 0, 0, ⟨#[]⟩⟩).toArray 65)
  have m2 : Mv (fun _ => False) w1 (w1.alloc (.cells (two (fun _ => 0) (fun _ => 0) 0 ⟨0, 0, false, false, 0, 0, 0, 0, 0, ⟨#[]⟩⟩).toArray 65)) := (Mv.refl _ w1).alloc _
  generalize w1.alloc (.cells (two (fun _ => 0) (fun _ => 0) 0 ⟨0, 0, false, false, 0, 0, 0, 0, 0, ⟨#[]⟩⟩).toArray 65) = w2 at hr2 m2
  obtain ⟨r, hr⟩ : ∃ r, r = w1.heap.size := ⟨_, rfl⟩
  rw [← hr] at hr2
  rw [← hr]
  have hpr : p < r := by have := hb1.lt; omega
  have hwp : w.heap.size ≤ p := by omega
  have hwr : w.heap.size ≤ r := by omega
  have hb2 := hb1.moved m2 fun e => e
  have m2 := m1.trans m2
  refine Ls.nil (N.to ?_)
  clear m1 hb1 hp hr
  refine W.seq (W.list ?_)
  apply Ls.runK LO [1, 2, 4] 2
  · repeat' (first | rfl | with_reducible assumption | assumption | constructor)
  intro u2 f2 s2 hf2
  replace hf2 : f2 = [(1, _), (2, _), (4, _)] := hf2
  subst hf2
  have m3 := m2.same s2
  refine Ls.store LO rfl rfl rfl rfl rfl (vs := [.bool false]) rfl rfl rfl (hb2.same s2) rfl ?_
  intro w3 hb3 q2 _
  have hb3 : BX w3 p 65 (two f g t ⟨i.tos, i.id, false, i.keep, i.off, i.ttl, i.proto, i.src, i.dst, i.o⟩) := hb3
  have hr3 := (hr2.same s2).moved q2 (by omega)
  have m3 : Mv (fun _ => False) w w3 := m3.cut q2 fun k hk e => by omega
  clear q2 s2 hb2 hr2 m2
  apply Ls.runK LO [1, 2, 6] 2
  · repeat' (first | rfl | with_reducible assumption | assumption | constructor)
  intro u3 f3 s3 hf3
  replace hf3 : f3 = [(1, _), (2, _), (6, _)] := hf3
  subst hf3
  have m4 := m3.same s3
  refine Ls.store LO rfl rfl rfl rfl rfl (vs := [.bool false]) rfl rfl rfl (hb3.same s3) rfl ?_
  intro w4 hb4 q3 _
  have hb4 : BX w4 p 65 (two f g t ⟨i.tos, i.id, false, false, i.off, i.ttl, i.proto, i.src, i.dst, i.o⟩) := hb4
  have hr4 := (hr3.same s3).moved q3 (by omega)
  have m4 : Mv (fun _ => False) w w4 := m4.cut q3 fun k hk e => by omega
  clear q3 s3 hb3 hr3 m3
  apply Ls.runK LO [1, 2, 8] 2
  · repeat' (first | rfl | with_reducible assumption | assumption | constructor)
  intro u4 f4 s4 hf4
  replace hf4 : f4 = [(1, _), (2, _), (8, _)] := hf4
  subst hf4
  have m5 := m4.same s4
  refine Ls.store LO rfl rfl rfl rfl rfl (vs := [.int .i64 0]) rfl rfl rfl (hb4.same s4) rfl ?_
  intro w5 hb5 q4 _
  have hb5 : BX w5 p 65 (two f g t ⟨i.tos, i.id, false, false, 0, i.ttl, i.proto, i.src, i.dst, i.o⟩) := hb5
  have hr5 := (hr4.same s4).moved q4 (by omega)
  have m5 : Mv (fun _ => False) w w5 := m5.cut q4 fun k hk e => by omega
  clear q4 s4 hb4 hr4 m4
  apply Ls.runK LO [1, 2, 10] 2
  · repeat' (first | rfl | with_reducible assumption | assumption | constructor)
  intro u5 f5 s5 hf5
  replace hf5 : f5 = [(1, _), (2, _), (10, _)] := hf5
  subst hf5
  have m6 := m5.same s5
  refine Ls.store LO rfl rfl rfl rfl rfl (vs := [.string ⟨#[]⟩]) rfl rfl rfl (hb5.same s5) rfl ?_
  intro w6 hb6 q5 _
  have hb6 : BX w6 p 65 (two f g t ⟨i.tos, i.id, false, false, 0, i.ttl, i.proto, i.src, i.dst, ⟨#[]⟩⟩) := hb6
  have hr6 := (hr5.same s5).moved q5 (by omega)
  have m6 : Mv (fun _ => False) w w6 := m6.cut q5 fun k hk e => by omega
  clear q5 s5 hb5 hr5 m5
  refine Ls.nil (N.to ?_)
  refine W.seq (W.list ?_)
  have hc : CellsAt w6 p 0 23 (two f g t ⟨i.tos, i.id, false, false, 0, i.ttl, i.proto, i.src, i.dst, ⟨#[]⟩⟩) := hb6.cells
  apply Ls.runK LO [2, 11] 1
  · repeat' (first | rfl | with_reducible assumption | assumption | constructor)
  intro v0 e0 t0 he0
  replace he0 : e0 = [(2, _), (11, _)] := he0
  subst he0
  refine Ls.store LO rfl rfl rfl rfl rfl (vs := two f g t ⟨i.tos, i.id, false, false, 0, i.ttl, i.proto, i.src, i.dst, ⟨#[]⟩⟩) rfl rfl rfl (hr6.same t0) rfl ?_
  intro v1 hr n1 _
  have hr : BX v1 r 65 (two f g t ⟨i.tos, i.id, false, false, 0, i.ttl, i.proto, i.src, i.dst, ⟨#[]⟩⟩) := hr
  refine Ls.nil (N.to (W.ret ?_))
  have hl : CellsAt v1 r 0 23 (two f g t ⟨i.tos, i.id, false, false, 0, i.ttl, i.proto, i.src, i.dst, ⟨#[]⟩⟩) := hr.cells
  exact post LO (rs := [.cell 2 65]) rfl (vs := [.agg (two f g t ⟨i.tos, i.id, false, false, 0, i.ttl, i.proto, i.src, i.dst, ⟨#[]⟩⟩).toArray]) (.cell rfl rfl (.agg hl) .nil) ⟨rfl, (m6.same t0).cut n1 fun k hk e => by omega⟩
set_option maxRecDepth 100000 in
set_option maxHeartbeats 8000000 in
theorem back_walk (f g : Nat → Int) (t : Int) (i : IpV) (w : World) : Calls Try.prog 32 #[.agg (two f g t i).toArray] w fun e w' => e = .returned (.agg (two g f t i.back).toArray) ∧ Mv (fun _ => False) w w' := by
  refine calls_W (n := 36) (vs := [.agg (two f g t i).toArray]) Try.func32 rfl rfl rfl ?_
  refine W.seq (W.list ?_)
  refine Ls.box rfl rfl rfl rfl rfl (vs := two f g t i) rfl ?_
  have hb1 : BX (w.alloc (.cells (two f g t i).toArray 65)) w.heap.size 65 (two f g t i) := heap_alloc_new w (.cells (two f g t i).toArray 65)
  have m1 : Mv (fun _ => False) w (w.alloc (.cells (two f g t i).toArray 65)) := (Mv.refl _ w).alloc _
  generalize w.alloc (.cells (two f g t i).toArray 65) = w1 at hb1 m1
  obtain ⟨p, hp⟩ : ∃ p, p = w.heap.size := ⟨_, rfl⟩
  rw [← hp] at hb1
  rw [← hp]
  refine Ls.alloc LO rfl rfl rfl rfl (zs := two (fun _ => 0) (fun _ => 0) 0 ⟨0, 0, false, false, 0, 0, 0, 0, 0, ⟨#[]⟩⟩) rfl ?_
  have hr2 : BX (w1.alloc (.cells (two (fun _ => 0) (fun _ => 0) 0 ⟨0, 0, false, false, 0, 0, 0, 0, 0, ⟨#[]⟩⟩).toArray 65)) w1.heap.size 65 (two (fun _ => 0) (fun _ => 0) 0 ⟨0, 0, false, false, 0, 0, 0, 0, 0, ⟨#[]⟩⟩) := heap_alloc_new w1 (.cells (two (fun _ => 0) (fun _ => 0) 0 ⟨0, 0, false, false, 0, 0, 0, 0, 0, ⟨#[]⟩⟩).toArray 65)
  have m2 : Mv (fun _ => False) w1 (w1.alloc (.cells (two (fun _ => 0) (fun _ => 0) 0 ⟨0, 0, false, false, 0, 0, 0, 0, 0, ⟨#[]⟩⟩).toArray 65)) := (Mv.refl _ w1).alloc _
  generalize w1.alloc (.cells (two (fun _ => 0) (fun _ => 0) 0 ⟨0, 0, false, false, 0, 0, 0, 0, 0, ⟨#[]⟩⟩).toArray 65) = w2 at hr2 m2
  obtain ⟨r, hr⟩ : ∃ r, r = w1.heap.size := ⟨_, rfl⟩
  rw [← hr] at hr2
  rw [← hr]
  have hpr : p < r := by have := hb1.lt; omega
  have hwp : w.heap.size ≤ p := by omega
  have hwr : w.heap.size ≤ r := by omega
  have hb2 := hb1.moved m2 fun e => e
  have m2 := m1.trans m2
  refine Ls.nil (N.to ?_)
  clear m1 hb1 hp hr
  refine W.seq (W.list ?_)
  have c1 : CellsAt w2 p 6 6 (six g) := hb2.part (x := six f) (y := six g) (z := .int .i64 t :: i.cs) rfl rfl rfl
  have c2 : CellsAt w2 p 0 6 (six f) := hb2.part (x := []) (y := six f) (z := six g ++ .int .i64 t :: i.cs) rfl rfl rfl
  apply Ls.runK LO [1, 2, 5, 8, 10] 8
  · repeat' (first | rfl | with_reducible assumption | assumption | constructor)
  intro u2 f2 s2 hf2
  replace hf2 : f2 = [(1, _), (2, _), (5, _), (8, _), (10, _)] := hf2
  subst hf2
  have m3 := m2.same s2
  refine Ls.store LO rfl rfl rfl rfl rfl (vs := six g) rfl rfl rfl (hb2.same s2) rfl ?_
  intro w3 hb3 q2 _
  have hb3 : BX w3 p 65 (two g g t ⟨i.tos, i.id, i.more, i.keep, i.off, i.ttl, i.proto, i.src, i.dst, i.o⟩) := hb3
  have hr3 := (hr2.same s2).moved q2 (by omega)
  have m3 : Mv (fun _ => False) w w3 := m3.cut q2 fun k hk e => by omega
  clear q2 s2 hb2 hr2 m2
  apply Ls.runK LO [1, 2, 8, 12] 2
  · repeat' (first | rfl | with_reducible assumption | assumption | constructor)
  intro u3 f3 s3 hf3
  replace hf3 : f3 = [(1, _), (2, _), (8, _), (12, _)] := hf3
  subst hf3
  have m4 := m3.same s3
  refine Ls.store LO rfl rfl rfl rfl rfl (vs := six f) rfl rfl rfl (hb3.same s3) rfl ?_
  intro w4 hb4 q3 _
  have hb4 : BX w4 p 65 (two g f t ⟨i.tos, i.id, i.more, i.keep, i.off, i.ttl, i.proto, i.src, i.dst, i.o⟩) := hb4
  have hr4 := (hr3.same s3).moved q3 (by omega)
  have m4 : Mv (fun _ => False) w w4 := m4.cut q3 fun k hk e => by omega
  clear q3 s3 hb3 hr3 m3
  refine Ls.nil (N.to ?_)
  clear c1 c2
  refine W.seq (W.list ?_)
  have d1 : Cl w4 ⟨p, 0 + 13 + 8, none⟩ (.int .u32 i.dst) := hb4.cl rfl
  have d2 : Cl w4 ⟨p, 0 + 13 + 7, none⟩ (.int .u32 i.src) := hb4.cl rfl
  apply Ls.runK LO [1, 2, 15, 18, 20] 8
  · repeat' (first | rfl | with_reducible assumption | assumption | constructor)
  intro u4 f4 s4 hf4
  replace hf4 : f4 = [(1, _), (2, _), (15, _), (18, _), (20, _)] := hf4
  subst hf4
  have m5 := m4.same s4
  refine Ls.store LO rfl rfl rfl rfl rfl (vs := [.int .u32 i.dst]) rfl rfl rfl (hb4.same s4) rfl ?_
  intro w5 hb5 q4 _
  have hb5 : BX w5 p 65 (two g f t ⟨i.tos, i.id, i.more, i.keep, i.off, i.ttl, i.proto, i.dst, i.dst, i.o⟩) := hb5
  have hr5 := (hr4.same s4).moved q4 (by omega)
  have m5 : Mv (fun _ => False) w w5 := m5.cut q4 fun k hk e => by omega
  clear q4 s4 hb4 hr4 m4
  apply Ls.runK LO [1, 2, 18, 22] 2
  · repeat' (first | rfl | with_reducible assumption | assumption | constructor)
  intro u5 f5 s5 hf5
  replace hf5 : f5 = [(1, _), (2, _), (18, _), (22, _)] := hf5
  subst hf5
  have m6 := m5.same s5
  refine Ls.store LO rfl rfl rfl rfl rfl (vs := [.int .u32 i.src]) rfl rfl rfl (hb5.same s5) rfl ?_
  intro w6 hb6 q5 _
  have hb6 : BX w6 p 65 (two g f t ⟨i.tos, i.id, i.more, i.keep, i.off, i.ttl, i.proto, i.dst, i.src, i.o⟩) := hb6
  have hr6 := (hr5.same s5).moved q5 (by omega)
  have m6 : Mv (fun _ => False) w w6 := m6.cut q5 fun k hk e => by omega
  clear q5 s5 hb5 hr5 m5
  refine Ls.nil (N.to ?_)
  clear d1 d2
  refine W.seq (W.list ?_)
  apply Ls.runK LO [1, 2, 24] 2
  · repeat' (first | rfl | with_reducible assumption | assumption | constructor)
  intro u6 f6 s6 hf6
  replace hf6 : f6 = [(1, _), (2, _), (24, _)] := hf6
  subst hf6
  have m7 := m6.same s6
  refine Ls.store LO rfl rfl rfl rfl rfl (vs := [.bool false]) rfl rfl rfl (hb6.same s6) rfl ?_
  intro w7 hb7 q6 _
  have hb7 : BX w7 p 65 (two g f t ⟨i.tos, i.id, false, i.keep, i.off, i.ttl, i.proto, i.dst, i.src, i.o⟩) := hb7
  have hr7 := (hr6.same s6).moved q6 (by omega)
  have m7 : Mv (fun _ => False) w w7 := m7.cut q6 fun k hk e => by omega
  clear q6 s6 hb6 hr6 m6
  apply Ls.runK LO [1, 2, 26] 2
  · repeat' (first | rfl | with_reducible assumption | assumption | constructor)
  intro u7 f7 s7 hf7
  replace hf7 : f7 = [(1, _), (2, _), (26, _)] := hf7
  subst hf7
  have m8 := m7.same s7
  refine Ls.store LO rfl rfl rfl rfl rfl (vs := [.bool false]) rfl rfl rfl (hb7.same s7) rfl ?_
  intro w8 hb8 q7 _
  have hb8 : BX w8 p 65 (two g f t ⟨i.tos, i.id, false, false, i.off, i.ttl, i.proto, i.dst, i.src, i.o⟩) := hb8
  have hr8 := (hr7.same s7).moved q7 (by omega)
  have m8 : Mv (fun _ => False) w w8 := m8.cut q7 fun k hk e => by omega
  clear q7 s7 hb7 hr7 m7
  apply Ls.runK LO [1, 2, 28] 2
  · repeat' (first | rfl | with_reducible assumption | assumption | constructor)
  intro u8 f8 s8 hf8
  replace hf8 : f8 = [(1, _), (2, _), (28, _)] := hf8
  subst hf8
  have m9 := m8.same s8
  refine Ls.store LO rfl rfl rfl rfl rfl (vs := [.int .i64 0]) rfl rfl rfl (hb8.same s8) rfl ?_
  intro w9 hb9 q8 _
  have hb9 : BX w9 p 65 (two g f t ⟨i.tos, i.id, false, false, 0, i.ttl, i.proto, i.dst, i.src, i.o⟩) := hb9
  have hr9 := (hr8.same s8).moved q8 (by omega)
  have m9 : Mv (fun _ => False) w w9 := m9.cut q8 fun k hk e => by omega
  clear q8 s8 hb8 hr8 m8
  apply Ls.runK LO [1, 2, 30] 2
  · repeat' (first | rfl | with_reducible assumption | assumption | constructor)
  intro u9 f9 s9 hf9
  replace hf9 : f9 = [(1, _), (2, _), (30, _)] := hf9
  subst hf9
  have m10 := m9.same s9
  refine Ls.store LO rfl rfl rfl rfl rfl (vs := [.int .i64 0]) rfl rfl rfl (hb9.same s9) rfl ?_
  intro w10 hb10 q9 _
  have hb10 : BX w10 p 65 (two g f t ⟨i.tos, 0, false, false, 0, i.ttl, i.proto, i.dst, i.src, i.o⟩) := hb10
  have hr10 := (hr9.same s9).moved q9 (by omega)
  have m10 : Mv (fun _ => False) w w10 := m10.cut q9 fun k hk e => by omega
  clear q9 s9 hb9 hr9 m9
  apply Ls.runK LO [1, 2, 32] 2
  · repeat' (first | rfl | with_reducible assumption | assumption | constructor)
  intro u10 f10 s10 hf10
  replace hf10 : f10 = [(1, _), (2, _), (32, _)] := hf10
  subst hf10
  have m11 := m10.same s10
  refine Ls.store LO rfl rfl rfl rfl rfl (vs := [.int .i64 64]) rfl rfl rfl (hb10.same s10) rfl ?_
  intro w11 hb11 q10 _
  have hb11 : BX w11 p 65 (two g f t ⟨i.tos, 0, false, false, 0, 64, i.proto, i.dst, i.src, i.o⟩) := hb11
  have hr11 := (hr10.same s10).moved q10 (by omega)
  have m11 : Mv (fun _ => False) w w11 := m11.cut q10 fun k hk e => by omega
  clear q10 s10 hb10 hr10 m10
  apply Ls.runK LO [1, 2, 34] 2
  · repeat' (first | rfl | with_reducible assumption | assumption | constructor)
  intro u11 f11 s11 hf11
  replace hf11 : f11 = [(1, _), (2, _), (34, _)] := hf11
  subst hf11
  have m12 := m11.same s11
  refine Ls.store LO rfl rfl rfl rfl rfl (vs := [.string ⟨#[]⟩]) rfl rfl rfl (hb11.same s11) rfl ?_
  intro w12 hb12 q11 _
  have hb12 : BX w12 p 65 (two g f t ⟨i.tos, 0, false, false, 0, 64, i.proto, i.dst, i.src, ⟨#[]⟩⟩) := hb12
  have hr12 := (hr11.same s11).moved q11 (by omega)
  have m12 : Mv (fun _ => False) w w12 := m12.cut q11 fun k hk e => by omega
  clear q11 s11 hb11 hr11 m11
  refine Ls.nil (N.to ?_)
  refine W.seq (W.list ?_)
  have hc : CellsAt w12 p 0 23 (two g f t ⟨i.tos, 0, false, false, 0, 64, i.proto, i.dst, i.src, ⟨#[]⟩⟩) := hb12.cells
  apply Ls.runK LO [2, 35] 1
  · repeat' (first | rfl | with_reducible assumption | assumption | constructor)
  intro v0 e0 t0 he0
  replace he0 : e0 = [(2, _), (35, _)] := he0
  subst he0
  refine Ls.store LO rfl rfl rfl rfl rfl (vs := two g f t ⟨i.tos, 0, false, false, 0, 64, i.proto, i.dst, i.src, ⟨#[]⟩⟩) rfl rfl rfl (hr12.same t0) rfl ?_
  intro v1 hr n1 _
  have hr : BX v1 r 65 (two g f t ⟨i.tos, 0, false, false, 0, 64, i.proto, i.dst, i.src, ⟨#[]⟩⟩) := hr
  refine Ls.nil (N.to (W.ret ?_))
  have hl : CellsAt v1 r 0 23 (two g f t ⟨i.tos, 0, false, false, 0, 64, i.proto, i.dst, i.src, ⟨#[]⟩⟩) := hr.cells
  exact post LO (rs := [.cell 2 65]) rfl (vs := [.agg (two g f t ⟨i.tos, 0, false, false, 0, 64, i.proto, i.dst, i.src, ⟨#[]⟩⟩).toArray]) (.cell rfl rfl (.agg hl) .nil) ⟨rfl, (m12.same t0).cut n1 fun k hk e => by omega⟩
end Go.Proofs.Ytbidgeaigiijpaa
