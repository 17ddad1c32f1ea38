/- What is proved: what the reference's Put of frames makes. Conditions: those that stand in each theorem. -/
import Derived.Test.YtbidgeaigiijpaaNetRef3
namespace Go.Proofs.Ytbidgeaigiijpaa
set_option linter.unusedVariables false
set_option linter.unusedSimpArgs false
set_option linter.unusedSectionVars false
open Go.RowKit Fw Nt
theorem txt_bt {s : ByteArray} (h : s.size = 6) : txt (fun j => bt s (j : Int)) = s := by
  unfold txt
  rw [show (List.range 6).map (fun j : Nat => bt s (j : Int)) = s.data.toList.map fun c => (c.toNat : Int) from ?_, of_bcs]
  apply List.ext_getElem
  · rw [List.length_map, List.length_map, List.length_range, list_len, h]
  · intro j h1 h2
    rw [List.length_map, List.length_range] at h1
    rw [List.getElem_map, List.getElem_map, List.getElem_range, bt_get s j (by omega)]
set_option maxRecDepth 100000 in
set_option maxHeartbeats 4000000 in
theorem rput2_walk (h : EthV) (body : ByteArray) (w : World) (ok : h.Ok) (hb : body.size ≤ 1000000000) {cs : List Value} (hcs : cs = h.cs) : Calls Try.prog 44 #[.agg cs.toArray, .string body] w fun e w' => e = .returned (.string (putE h body)) ∧ Mv (fun _ => False) w w' := by
  obtain ⟨f, hf⟩ : ∃ f : Nat → Int, f = fun j : Nat => bt h.d (j : Int) := ⟨_, rfl⟩
  obtain ⟨g, hg⟩ : ∃ g : Nat → Int, g = fun j : Nat => bt h.s (j : Int) := ⟨_, rfl⟩
  have hcs' : cs = ecs f g h.t := by rw [hcs, hf, hg]; exact EthV.ecs ok
  have tf : txt f = h.d := by rw [hf]; exact txt_bt ok.d
  have tg : txt g = h.s := by rw [hg]; exact txt_bt ok.s
  subst hcs'
  refine calls_W (n := 18) (vs := [.agg (ecs f g h.t).toArray, .string body]) Try.func44 rfl rfl rfl ?_
  refine W.seq (W.list ?_)
  refine Ls.box rfl rfl rfl rfl rfl (vs := ecs f g h.t) rfl ?_
  have hb1 : BX (w.alloc (.cells (ecs f g h.t).toArray 33)) w.heap.size 33 (ecs f g h.t) := heap_alloc_new w (.cells (ecs f g h.t).toArray 33)
  have m1 : Mv (fun _ => False) w (w.alloc (.cells (ecs f g h.t).toArray 33)) := (Mv.refl _ w).alloc _
  generalize w.alloc (.cells (ecs f g h.t).toArray 33) = w1 at hb1 m1
  generalize w.heap.size = p at hb1
  apply Ls.runK LO [1, 2] 1
  · repeat' (first | rfl | with_reducible assumption | assumption | constructor)
  intro w2 f2 s2 hf2
  replace hf2 : f2 = [(1, _), (2, _)] := hf2
  subst hf2
  refine Ls.nil (N.to ?_)
  have m2 := m1.same s2
  have hb2 := hb1.same s2
  clear m1 hb1 s2
  have F1 : ∀ w', Mv (fun _ => False) w2 w' → CellsAt w' p 0 6 (six f) := fun w' m => (hb2.moved m fun e => e).part (x := []) (y := six f) (z := six g ++ [.int .i64 h.t]) rfl rfl rfl
  have F2 : ∀ w', Mv (fun _ => False) w2 w' → CellsAt w' p 6 6 (six g) := fun w' m => (hb2.moved m fun e => e).part (x := six f) (y := six g) (z := [.int .i64 h.t]) rfl rfl rfl
  have F3 : ∀ w', Mv (fun _ => False) w2 w' → Cl w' ⟨p, 0 + 12, none⟩ (.int .i64 h.t) := fun w' m => (hb2.moved m fun e => e).cl rfl
  have z1 : h.d.size + h.s.size ≤ 9223372036854775807 := by rw [ok.d, ok.s]; decide
  have z2 : (h.d ++ h.s).size + (bigS h.t 2).size ≤ 9223372036854775807 := by rw [ByteArray.size_append, ok.d, ok.s, bigS_size]; decide
  have z3 : (h.d ++ h.s ++ bigS h.t 2).size + body.size ≤ 9223372036854775807 := by rw [ByteArray.size_append, ByteArray.size_append, ok.d, ok.s, bigS_size]; omega
  refine W.seq (W.held mixed (fun w' => Mv (fun _ => False) w2 w') [] 14 rfl (fun w' s => (Mv.refl _ w2).same s) ?_)
  intro x0 s0
  have m0 : Mv (fun _ => False) w2 x0 := (Mv.refl _ w2).same s0
  apply H.takesK LO true [6, 9, 13, 16] [0, 1, 3, 4, 7, 8, 11] (k := 7) rfl (by kernel_rfl)
  · repeat' (first | rfl | with_reducible assumption | assumption | (intro w' hw'; replace hw' := hw' rfl; have h0' := F1 w' hw'; have h1' := F2 w' hw'; have h2' := F3 w' hw') | constructor)
  intro g_ hg_
  replace hg_ : g_ = [(6, _), (9, _), (13, _), (16, _)] := hg_
  subst hg_
  refine H.only (i := 2) rfl (by kernel_rfl) ?_
  refine Ls.call LO rfl rfl rfl rfl rfl (vs := [.agg (six f).toArray]) rfl (text_walk f x0) ?_
  rintro _ x1 ⟨rfl, n1⟩
  have n1 := m0.trans n1
  refine ⟨_, rfl, Ls.nil (N.goOn (fun _ => n1) ?_)⟩
  rw [tf]
  refine H.only (i := 5) rfl (by kernel_rfl) ?_
  refine Ls.call LO rfl rfl rfl rfl rfl (vs := [.agg (six g).toArray]) rfl (text_walk g x1) ?_
  rintro _ x2 ⟨rfl, n2⟩
  have n2 := n1.trans n2
  refine ⟨_, rfl, Ls.nil (N.goOn (fun _ => n2) ?_)⟩
  rw [tg]
  apply H.takesK LO false [11, 13, 16] [6] (k := 4) rfl (by kernel_rfl)
  · repeat' (first | rfl | with_reducible assumption | assumption | (intro w' hw'; replace hw' := True.intro) | constructor)
  intro g_ hg_
  replace hg_ : g_ = [(11, _), (13, _), (16, _)] := hg_
  subst hg_
  refine H.only (i := 9) rfl (by kernel_rfl) ?_
  refine Ls.call LO rfl rfl rfl rfl rfl (vs := [.int .i64 h.t, .int .i64 2]) rfl (rbig_walk h.t 2 x2 (by decide)) ?_
  rintro _ x3 ⟨rfl, n3⟩
  have n3 := n2.trans n3
  refine ⟨_, rfl, Ls.nil (N.goOn (fun _ => n3) ?_)⟩
  apply H.takesK LO false [4] [10, 12, 13] (k := 0) rfl (by kernel_rfl)
  · repeat' (first | rfl | with_reducible assumption | assumption | (intro w' hw'; replace hw' := True.intro) | constructor)
  intro g_ hg_
  replace hg_ : g_ = [(4, _)] := hg_
  subst hg_
  refine H.done (by kernel_rfl) (N.to ?_)
  exact W.ret (post LO (rs := [.tmp 4]) rfl (vs := [.string (putE h body)]) (.tmp rfl .nil) ⟨rfl, m2.trans n3⟩)
end Go.Proofs.Ytbidgeaigiijpaa
