/- What is proved: a new stream; a push whose answer is laid in a variable; the example. Conditions: those that stand in each theorem. -/
import Derived.Test.YtieolnekccacbaaDirSmall
import Derived.Test.YtieolnekccacbaaFwTail
namespace Go.Proofs.Ytieolnekccacbaa
set_option linter.unusedVariables false
set_option linter.unusedSimpArgs false
set_option linter.unusedSectionVars false
open Go.RowKit Go.Maps Go.MapKept Go.ChangeMaps Fw
def DS.new (s b h : Int) : DS := ⟨s, max 0 (min b 1024), max 0 (min h 1024), 0, [], ⟨#[]⟩, -1, false⟩
def NewPost (s b h : Int) (w : World) (e : Ending) (w' : World) : Prop :=
  ∃ p m, e = .returned (.pointer (some ⟨p, 0, none⟩)) ∧ DirAt w' p m (DS.new s b h) ∧ w.heap.size ≤ p ∧ w.heap.size ≤ m ∧ Mv (fun _ => False) w w'
theorem size_alloc' (w : World) (o : Obj) : (w.alloc o).heap.size = w.heap.size + 1 := Array.size_push _
set_option maxRecDepth 100000 in
set_option maxHeartbeats 4000000 in
theorem start_walk (s b h : Int) (w : World) : Calls Try.prog 11 #[.int .u32 s, .int .i64 b, .int .i64 h] w (NewPost s b h w) := by
  refine calls_W (n := 17) (vs := [.int .u32 s, .int .i64 b, .int .i64 h]) Try.func11 rfl rfl rfl ?_
  apply W.readS LO mixed [0, 1, 2] (by kernel_rfl)
  · repeat' (first | rfl | with_reducible assumption | assumption | constructor)
  intro w1 f1 s1 hf1
  replace hf1 : f1 = [(0, _), (1, _), (2, _)] := hf1
  subst hf1
  have k1 : Kn (if 1024 < b then 1024 else b) (min b 1024) := .of (by split <;> omega)
  have k2 : Kn (if min b 1024 > 0 then min b 1024 else 0) (max 0 (min b 1024)) := .of (by split <;> omega)
  have k3 : Kn (if 1024 < h then 1024 else h) (min h 1024) := .of (by split <;> omega)
  have k4 : Kn (if min h 1024 > 0 then min h 1024 else 0) (max 0 (min h 1024)) := .of (by split <;> omega)
  refine W.seq (W.list ?_)
  apply Ls.runK LO [7, 10, 13] 7
  · repeat' (first | rfl | with_reducible assumption | assumption | constructor)
  intro w2 f2 s2 hf2
  replace hf2 : f2 = [(7, _), (10, _), (13, _)] := hf2
  subst hf2
  refine Ls.mmake rfl rfl rfl rfl ?_
  have hm := ML.made (Value.int .i64) (Value.int .u8) okK w2
  have hmv : Mv (fun _ => False) w2 (w2.alloc (.map #[] 0)) := (Mv.refl _ w2).alloc _
  have hsz : (w2.alloc (.map #[] 0)).heap.size = w2.heap.size + 1 := size_alloc' w2 _
  generalize w2.alloc (.map #[] 0) = w3 at hm hmv hsz
  apply Ls.runK LO [15] 1
  · repeat' (first | rfl | with_reducible assumption | assumption | constructor)
  intro w4 f4 s4 hf4
  replace hf4 : f4 = [(15, _)] := hf4
  subst hf4
  refine Ls.box rfl rfl rfl rfl rfl (vs := [.int .u32 s, .int .i64 (max 0 (min b 1024)), .int .i64 (max 0 (min h 1024)), .int .i64 0, .map (some w2.heap.size), .string ⟨#[]⟩, .int .i64 (-1), .bool false]) rfl ?_
  have hsz4 : w4.heap.size = w2.heap.size + 1 := by rw [s4.heap]; exact hsz
  have hb := heap_alloc_new w4 (.cells [.int .u32 s, .int .i64 (max 0 (min b 1024)), .int .i64 (max 0 (min h 1024)), .int .i64 0, .map (some w2.heap.size), .string ⟨#[]⟩, .int .i64 (-1), .bool false].toArray 53)
  have hmv5 : Mv (fun _ => False) w4 (w4.alloc (.cells [.int .u32 s, .int .i64 (max 0 (min b 1024)), .int .i64 (max 0 (min h 1024)), .int .i64 0, .map (some w2.heap.size), .string ⟨#[]⟩, .int .i64 (-1), .bool false].toArray 53)) := (Mv.refl _ w4).alloc _
  generalize w4.alloc (.cells [.int .u32 s, .int .i64 (max 0 (min b 1024)), .int .i64 (max 0 (min h 1024)), .int .i64 0, .map (some w2.heap.size), .string ⟨#[]⟩, .int .i64 (-1), .bool false].toArray 53) = w5 at hb hmv5
  apply Ls.runK LO [6] 1
  · repeat' (first | rfl | with_reducible assumption | assumption | constructor)
  intro w6 f6 s6 hf6
  replace hf6 : f6 = [(6, _)] := hf6
  subst hf6
  refine Ls.nil (N.to (W.ret (post LO (rs := [.tmp 6]) rfl (vs := [.pointer (some ⟨w4.heap.size, 0, none⟩)]) (.tmp rfl .nil) ?_)))
  have h12 : w2.heap.size = w.heap.size := by rw [s2.heap, s1.heap]
  have hm4 : HM w4 w2.heap.size [] := hm.kept (by rw [s4.heap])
  refine ⟨w4.heap.size, w2.heap.size, rfl, ⟨?_, (hm4.moved hmv5 (fun e => e)).kept (by rw [s6.heap])⟩, by omega, by omega, ?_⟩
  · show w6.heap[_]? = _
    rw [s6.heap]; exact hb
  · exact (((((Mv.refl _ w).same s1).same s2).trans hmv).same s4).trans hmv5 |>.same s6

/-- What a push needs. -/
structure Can (d : DS) (n : Nat) : Prop where
  h0 : 0 ≤ d.pl
  h1 : d.pl ≤ 1099511627776
  hf : -1 ≤ d.fin
  hf1 : d.fin ≤ 1099511627776
  hs : n ≤ 1000000
  hb : 0 ≤ d.buffer
  hb1 : d.buffer ≤ 1024
  room : Room d n
set_option maxRecDepth 100000 in
theorem Ls.pushed {ops l : List Oper} {o1 o2 o3 : Oper} {n : Nat} {f : Fr} {w : World} {Q : Exit → Act → World → Prop} {args : Array Operand} {ts : Array Nat} {d1 d2 p m : Nat} {sq : Int} {s : ByteArray} {fin : Bool} {d : DS}
    (h1 : o1.op = .call ⟨.value (.func 12), args, ts⟩) (g1 : wantF f ops o1.guard = some true) (e1 : o1.dst = some d1) (b1 : Nat.blt d1 n = true)
    (hv : fevals f args.toList = some [.pointer (some ⟨p, 0, none⟩), .int .u32 sq, .string s, .bool fin])
    (h2 : o2.op = .alloc 28) (g2 : o2.guard = none) (e2 : o2.dst = some d2) (b2 : Nat.blt d2 n = true)
    (h3 : o3.op = .store 28 (.tmp d2) (.tmp d1)) (g3 : o3.guard = none) (e3 : o3.dst = none) (hne : Nat.beq d2 d1 = false)
    (hD : DirAt w p m d) (hc : Can d s.size)
    (hK : ∀ w' r, DirAt w' p m (d.push sq s fin).1 → GBlk w' r (d.push sq s fin).2 → r ≠ p → r ≠ m → w.heap.size ≤ r → Mv (fun k => k = p ∨ k = m) w w' → Ls Try.prog n ops l ((d2, .pointer (some ⟨r, 0, none⟩)) :: (d1, gotVal (d.push sq s fin).2) :: f) w' Q) :
    Ls Try.prog n ops (o1 :: o2 :: o3 :: l) f w Q := by
  refine Ls.call LO h1 g1 rfl e1 b1 hv (push_walk p m d sq s fin w hD hc.h0 hc.h1 hc.hf hc.hf1 hc.hs hc.hb hc.hb1 hc.room) ?_
  rintro _ w1 ⟨rfl, hD1, hm1⟩
  refine ⟨_, rfl, ?_⟩
  refine Ls.alloc LO h2 g2 e2 b2 (zs := [.int .i64 0, .int .i64 0, .string ⟨#[]⟩, .bool false]) rfl ?_
  have hb := heap_alloc_new w1 (.cells [.int .i64 0, .int .i64 0, .string ⟨#[]⟩, .bool false].toArray 28)
  have hm2 : Mv (fun _ => False) w1 (w1.alloc (.cells [.int .i64 0, .int .i64 0, .string ⟨#[]⟩, .bool false].toArray 28)) := (Mv.refl _ w1).alloc _
  generalize w1.alloc (.cells [.int .i64 0, .int .i64 0, .string ⟨#[]⟩, .bool false].toArray 28) = w2 at hb hm2
  refine Ls.store LO h3 g3 e3 (b := w1.heap.size) (i := 0) (v := gotVal (d.push sq s fin).2) ?_ ?_ (vs := [.int .i64 (d.push sq s fin).2.kind, .int .i64 (d.push sq s fin).2.from_, .string (d.push sq s fin).2.data, .bool (d.push sq s fin).2.fin]) rfl rfl rfl hb rfl ?_
  · show (bif Nat.beq d2 d2 then _ else _) = _
    rw [Nat.beq_refl]; rfl
  · show (bif Nat.beq d2 d1 then _ else (bif Nat.beq d1 d1 then _ else _)) = _
    rw [hne, Nat.beq_refl]; rfl
  · intro w3 hb3 hm3 hsz
    have hD2 : DirAt w2 p m (d.push sq s fin).1 := hD1.moved hm2 (fun e => e) (fun e => e)
    have hp : p ≠ w1.heap.size := Nat.ne_of_lt hD1.blk.lt
    have hmm : m ≠ w1.heap.size := Nat.ne_of_lt hD1.map.lt
    have hM : Mv (fun k => k = p ∨ k = m) w w3 := (hm1.trans (hm2.mono fun k e => e.elim)).cut hm3 (fun i hi e => absurd e (by have := hm1.size; omega))
    exact hK w3 w1.heap.size (hD2.moved hm3 hp hmm) hb3 (Ne.symm hp) (Ne.symm hmm) hm1.size hM
end Go.Proofs.Ytieolnekccacbaa
