/- What is proved: each Go function of this text answers as the plain Lean function beside it (a law: its given row, out of the plain statement). Conditions: those that stand in each theorem. Written by my drive.py, which calls the printer of the kit for what that covers. -/
import Derived.Test.YtgolimfljndnmaaHVx0
import Derived.Test.YtgolimfljndnmaaHVx4
import Derived.Test.YtgolimfljndnmaaHVx5
namespace Go.Proofs.Ytgolimfljndnmaa.HV
open Go.RowKit Go.Proofs.YtgolimfljndnmaaW.PrintWords Go.Proofs.YtgolimfljndnmaaW.PrintLast Go.Proofs.YtgolimfljndnmaaW.PrintMore
attribute [local go_sem] max2_int min2_int max_two min_two max_three min_three max_four min_four   -- for this text's walks alone
set_option linter.unusedVariables false
set_option linter.unusedSimpArgs false

/-! ### ipv4_Get: function 18 -/
def chkCells : Array Value := #[.func (.func 67) #[] #[], .int .i64 2, .func (.func 68) #[] #[], .int .i64 3, .func (.func 69) #[] #[], .int .i64 2, .func (.func 70) #[] #[], .int .i64 3, .func (.func 71) #[] #[], .int .i64 2, .func (.func 72) #[] #[], .int .i64 3, .func (.func 73) #[] #[], .int .i64 5, .func (.func 74) #[] #[], .int .i64 4]
set_option maxRecDepth 100000 in
theorem checks_calls (w : World) : Calls Try.prog 47 #[] w fun e w' => e = .returned (.slice (some ⟨w.heap.size, 0, none⟩) 8 8) ∧ w.alloc (.cells chkCells 71 (0, 0)) = w' := by
 go_enter Try.func47, Try.ntmps47
 go_wp2
 go_ret
 exact ⟨rfl, rfl⟩
def zIP : Array Value := #[.int .i64 0, .int .i64 0, .bool false, .bool false, .int .i64 0, .int .i64 0, .int .i64 0, .int .u32 0, .int .u32 0, .string (⟨#[]⟩ : ByteArray)]
theorem far10 {W : World} {gd gb i : Nat} (h : gd ≠ gb) {v0 v1 v2 v3 v4 v5 v6 v7 v8 v9 v : Value} (hH : W.cell? ⟨gd, i, none⟩ = some v) : ((((((((((W.setCell ⟨gb, 0, none⟩ v0).setCell ⟨gb, 1, none⟩ v1).setCell ⟨gb, 2, none⟩ v2).setCell ⟨gb, 3, none⟩ v3).setCell ⟨gb, 4, none⟩ v4).setCell ⟨gb, 5, none⟩ v5).setCell ⟨gb, 6, none⟩ v6).setCell ⟨gb, 7, none⟩ v7).setCell ⟨gb, 8, none⟩ v8).setCell ⟨gb, 9, none⟩ v9).cell? ⟨gd, i, none⟩ = some v := by
 rw [cell_far (p := ⟨gb, 9, none⟩) (a := ⟨gd, i, none⟩) h, cell_far (p := ⟨gb, 8, none⟩) (a := ⟨gd, i, none⟩) h, cell_far (p := ⟨gb, 7, none⟩) (a := ⟨gd, i, none⟩) h, cell_far (p := ⟨gb, 6, none⟩) (a := ⟨gd, i, none⟩) h, cell_far (p := ⟨gb, 5, none⟩) (a := ⟨gd, i, none⟩) h, cell_far (p := ⟨gb, 4, none⟩) (a := ⟨gd, i, none⟩) h, cell_far (p := ⟨gb, 3, none⟩) (a := ⟨gd, i, none⟩) h, cell_far (p := ⟨gb, 2, none⟩) (a := ⟨gd, i, none⟩) h, cell_far (p := ⟨gb, 1, none⟩) (a := ⟨gd, i, none⟩) h, cell_far (p := ⟨gb, 0, none⟩) (a := ⟨gd, i, none⟩) h]
 exact hH

def cTl : Code → Code
 | .seq _ b => b
 | c => c
def cHd : Code → Code
 | .seq a _ => a
 | c => c
def cIn : Code → Code
 | .block _ b => b
 | .loop b => b
 | c => c
def cThen : Code → Code
 | .cond _ a _ => a
 | c => c
set_option maxRecDepth 100000 in
set_option maxHeartbeats 8000000 in
theorem ipv4_errRet (Φ : Ending → World → Prop) (s : ByteArray) (gb gd : Nat) (v : Int) (w2 : World) (u3 u4 u9 u10 u11 u12 u13 u14 u15 u16 u17 u18 u19 u20 u21 u22 : Value)
  (N : w2.cell? ⟨gd, 1, none⟩ = some (.int .i64 v)) (NE : Aside0 (gd ≠ gb)) (BK2 : Aside0 (w2.heap[gb]? = some (.cells zIP 24 (0, 0))))
  (h : ∀ w', (∀ w0, w0.heap.size ≤ gb → Below w0.heap.size w0 w2 → Below w0.heap.size w0 w') → Φ (.returned (.tuple #[.agg #[.int .i64 0, .int .i64 0, .bool false, .bool false, .int .i64 0, .int .i64 0, .int .i64 0, .int .u32 0, .int .u32 0, .string (⟨#[]⟩ : ByteArray)], .string (⟨#[]⟩ : ByteArray), .int .i64 v])) w')
  (K0 : Act → World → Prop) (Q0 : Exit → Act → World → Prop) (hK0 : ∀ a w, bodyPost Try.prog Try.f18 Φ .ret a w → K0 a w) (hQ0 : ∀ x a d v w, Q0 (.panic x) (Act.put a d v) w → Q0 (.panic x) a w) :
  Code.wp Try.prog (cHd (cThen (cTl (cTl (cIn (cHd (cTl (cTl (cIn (cIn (cTl (cHd (cTl (Try.f18.body.getD .skip)))))))))))))) (Exit.then K0 Q0) ⟨#[.string s, undef, .pointer (some ⟨gb, 0, none⟩), u3, u4, undef, .pointer (some ⟨gd, 0, none⟩), undef, undef, u9, u10, u11, u12, u13, u14, u15, u16, u17, u18, u19, u20, u21, u22, undef, undef, undef, undef, undef, undef, undef, undef, undef, undef, undef, undef, undef, undef, undef, undef, undef, undef, undef, undef, undef, undef, undef, undef, undef, undef, undef, undef, undef, undef, undef, undef, undef, undef, undef, undef, undef, undef, undef, undef, undef, undef, undef, undef], []⟩ w2 := by
 have H := Aside0.mk h
 have HK0 := Aside0.mk hK0
 have HQ := Aside0.mk hQ0
 clear h hK0 hQ0
 simp only [Try.f18, Option.getD, cTl, cHd, cIn, cThen]
 refine start_ (n := 6) (S := fun w' => w'.cell? ⟨gd, 1, none⟩ = some (.int .i64 v)) (ds := []) #[false, false, false, false, false, false] (by kernel_rfl) rfl rfl N (fun hHeld => ?_)
 have BK3 := Aside0.mk (blk_drew BK2.out)
 have H3 : ∀ w', (∀ w0, w0.heap.size ≤ gb → Below w0.heap.size w0 w2.drew → Below w0.heap.size w0 w') → Φ (.returned (.tuple #[.agg #[.int .i64 0, .int .i64 0, .bool false, .bool false, .int .i64 0, .int .i64 0, .int .i64 0, .int .u32 0, .int .u32 0, .string (⟨#[]⟩ : ByteArray)], .string (⟨#[]⟩ : ByteArray), .int .i64 v])) w' := fun w' h => H.out w' (fun w0 hn hB => h w0 hn (below_drew1 hB))
 have H4 := Aside0.mk H3
 clear BK2 N H H3
 generalize w2.drew = w3 at BK3 H4 hHeld ⊢
 refine pure_ (i := 0) (N := some 19) (v := ?_) (a' := ?_) #[true, false, false, false, false, false] rfl rfl (by kernel_rfl) (fun _ _ _ h => HQ.out _ _ _ _ _ h) (Or.inl ⟨by rfl, ?_⟩) ?_ ?_
 rotate_left
 ·
  intro w'
  go_simp
  with_reducible rfl
 rotate_left
 ·
  simp only [Act.put, List.setIfInBounds_toArray, List.set_cons_zero, List.set_cons_succ, i64_w, i32_w]
  rfl
 refine pure_ (i := 1) (N := some 20) (v := ?_) (a' := ?_) #[true, true, false, false, false, false] rfl rfl (by kernel_rfl) (fun _ _ _ h => HQ.out _ _ _ _ _ h) (Or.inl ⟨by rfl, ?_⟩) ?_ ?_
 rotate_left
 ·
  intro w'
  go_simp
  with_reducible rfl
 rotate_left
 ·
  simp only [Act.put, List.setIfInBounds_toArray, List.set_cons_zero, List.set_cons_succ, i64_w, i32_w]
  rfl
 refine take_ (i := 2) (N := some 21) (v := ?_) (a' := ?_) #[true, true, true, false, false, false] rfl rfl (by kernel_rfl) (fun _ _ _ h => HQ.out _ _ _ _ _ h) (Or.inl ⟨by rfl, ?_⟩) hHeld ?_ ?_
 rotate_left
 ·
  intro w' s0
  go_simp
  with_reducible rfl
 rotate_left
 ·
  simp only [Act.put, List.setIfInBounds_toArray, List.set_cons_zero, List.set_cons_succ, i64_w, i32_w]
  rfl
 refine one_ (i := 3) (N := none) #[true, true, true, true, false, false] rfl rfl (by kernel_rfl) (by decide) (fun K hK => ?_)
 have hs0 : w3.cell? ⟨gb, 0, none⟩ = some (.int .i64 0) := (blk_cell BK3.out 0).trans rfl
 have hfs0 := blk_frozen BK3.out 0
 have hs1 : w3.cell? ⟨gb, 1, none⟩ = some (.int .i64 0) := (blk_cell BK3.out 1).trans rfl
 have hfs1 := blk_frozen BK3.out 1
 have hs2 : w3.cell? ⟨gb, 2, none⟩ = some (.bool false) := (blk_cell BK3.out 2).trans rfl
 have hfs2 := blk_frozen BK3.out 2
 have hs3 : w3.cell? ⟨gb, 3, none⟩ = some (.bool false) := (blk_cell BK3.out 3).trans rfl
 have hfs3 := blk_frozen BK3.out 3
 have hs4 : w3.cell? ⟨gb, 4, none⟩ = some (.int .i64 0) := (blk_cell BK3.out 4).trans rfl
 have hfs4 := blk_frozen BK3.out 4
 have hs5 : w3.cell? ⟨gb, 5, none⟩ = some (.int .i64 0) := (blk_cell BK3.out 5).trans rfl
 have hfs5 := blk_frozen BK3.out 5
 have hs6 : w3.cell? ⟨gb, 6, none⟩ = some (.int .i64 0) := (blk_cell BK3.out 6).trans rfl
 have hfs6 := blk_frozen BK3.out 6
 have hs7 : w3.cell? ⟨gb, 7, none⟩ = some (.int .u32 0) := (blk_cell BK3.out 7).trans rfl
 have hfs7 := blk_frozen BK3.out 7
 have hs8 : w3.cell? ⟨gb, 8, none⟩ = some (.int .u32 0) := (blk_cell BK3.out 8).trans rfl
 have hfs8 := blk_frozen BK3.out 8
 have hs9 : w3.cell? ⟨gb, 9, none⟩ = some (.string (⟨#[]⟩ : ByteArray)) := (blk_cell BK3.out 9).trans rfl
 have hfs9 := blk_frozen BK3.out 9
 refine skip_ (w1 := ?_) (by rfl) rfl ?_ ?_
 rotate_left
 ·
  go_simp
  rfl
 have F := @far10 w3 gd gb 1 NE.out (.int .i64 0) (.int .i64 0) (.bool false) (.bool false) (.int .i64 0) (.int .i64 0) (.int .i64 0) (.int .u32 0) (.int .u32 0) (.string (⟨#[]⟩ : ByteArray)) (.int .i64 v) hHeld
 refine hK.out _ _ F (fun hHeld => ?_)
 clear hK K
 refine pure_ (i := 4) (N := some 3) (v := ?_) (a' := ?_) #[true, true, true, true, true, false] rfl rfl (by kernel_rfl) (fun _ _ _ h => HQ.out _ _ _ _ _ h) (Or.inl ⟨by rfl, ?_⟩) ?_ ?_
 rotate_left
 ·
  intro w'
  go_simp
  with_reducible rfl
 rotate_left
 ·
  simp only [Act.put, List.setIfInBounds_toArray, List.set_cons_zero, List.set_cons_succ, i64_w, i32_w]
  rfl
 refine pure_ (i := 5) (N := some 4) (v := ?_) (a' := ?_) #[true, true, true, true, true, true] rfl rfl (by kernel_rfl) (fun _ _ _ h => HQ.out _ _ _ _ _ h) (Or.inl ⟨by rfl, ?_⟩) ?_ ?_
 rotate_left
 ·
  intro w'
  go_simp
  with_reducible rfl
 rotate_left
 ·
  simp only [Act.put, List.setIfInBounds_toArray, List.set_cons_zero, List.set_cons_succ, i64_w, i32_w]
  rfl
 refine done_ (by kernel_rfl) ?_
 try go_wp2
 refine HK0.out _ _ (bodyPost_ret (results_ctt rfl _ _ gb 24 zIP (0, 0) _ rfl (blk_put (cs := zIP) (blk_put (cs := zIP) (blk_put (cs := zIP) (blk_put (cs := zIP) (blk_put (cs := zIP) (blk_put (cs := zIP) (blk_put (cs := zIP) (blk_put (cs := zIP) (blk_put (cs := zIP) (blk_put (cs := zIP) BK3.out _ _ rfl) _ _ rfl) _ _ rfl) _ _ rfl) _ _ rfl) _ _ rfl) _ _ rfl) _ _ rfl) _ _ rfl) _ _ rfl) Try.underlying24 rfl (by kernel_rfl)) rfl ?_)
 exact H4.out _ (fun w0 hn hB => (below_set (below_set (below_set (below_set (below_set (below_set (below_set (below_set (below_set (below_set hB hn) hn) hn) hn) hn) hn) hn) hn) hn) hn))

def GetR (k : Nat) (s : ByteArray) : Nat → Option Int
 | 0 => some 0
 | 1 => (ipv4_checks_8.f k s).bind fun b => if b = true then some 4 else GetR k s 0
 | 2 => (ipv4_checks_7.f s).bind fun b => if b = true then some 5 else GetR k s 1
 | 3 => (ipv4_checks_6.f s).bind fun b => if b = true then some 3 else GetR k s 2
 | 4 => (ipv4_checks_5.f s).bind fun b => if b = true then some 2 else GetR k s 3
 | 5 => (ipv4_checks_4.f s).bind fun b => if b = true then some 3 else GetR k s 4
 | 6 => (ipv4_checks_3.f s).bind fun b => if b = true then some 2 else GetR k s 5
 | 7 => (ipv4_checks_2.f s).bind fun b => if b = true then some 3 else GetR k s 6
 | n + 8 => (ipv4_checks_1.f s).bind fun b => if b = true then some 2 else GetR k s (n + 7)
def GRel (k : Nat) (s : ByteArray) (e : Int) (w : World) (gb gc : Nat) (i : Value) (wr : World) : Prop := ∃ j : Nat, j ≤ 8 ∧ i = .int .i64 j ∧ Aside0 (GetR k s (8 - j) = some e) ∧ Aside0 (wr.heap[gb]? = some (.cells zIP 24 (0, 0))) ∧ Aside0 (wr.heap[gc]? = some (.cells chkCells 71 (0, 0))) ∧ Aside0 (Below w.heap.size w wr)
set_option maxRecDepth 100000 in
set_option maxHeartbeats 8000000 in
theorem ipv4_Get.walk (k : Nat) (s : ByteArray) (e : Int) (w : World) (Φ : Ending → World → Prop) (h : GetR k s 8 = some e)
  (hErr : e ≠ 0 → ∀ w', Below w.heap.size w w' → Φ (.returned (.tuple #[.agg #[.int .i64 0, .int .i64 0, .bool false, .bool false, .int .i64 0, .int .i64 0, .int .i64 0, .int .u32 0, .int .u32 0, .string (⟨#[]⟩ : ByteArray)], .string (⟨#[]⟩ : ByteArray), .int .i64 e])) w')
  (hOk : e = 0 → ∀ (u3 u4 u6 u9 u10 u11 u12 u13 u14 u15 u16 u17 u18 u19 u20 u21 u22 : Value) (W : World) (gb : Nat), Aside0 (gb = w.heap.size) → Aside0 (W.heap[gb]? = some (.cells zIP 24 (0, 0))) → Aside0 (Below w.heap.size w W) →
   Code.wp Try.prog (cTl (cTl (Try.f18.body.getD .skip))) (bodyPost Try.prog Try.f18 Φ) ⟨#[.string s, undef, .pointer (some ⟨gb, 0, none⟩), u3, u4, undef, u6, undef, undef, u9, u10, u11, u12, u13, u14, u15, u16, u17, u18, u19, u20, u21, u22, undef, undef, undef, undef, undef, undef, undef, undef, undef, undef, undef, undef, undef, undef, undef, undef, undef, undef, undef, undef, undef, undef, undef, undef, undef, undef, undef, undef, undef, undef, undef, undef, undef, undef, undef, undef, undef, undef, undef, undef, undef, undef, undef, undef], []⟩ W) :
  Calls Try.prog 18 #[.string s] w Φ := by
 have HERR := Aside0.mk hErr
 have HOK := Aside0.mk hOk
 have HR0 := Aside0.mk h
 clear hErr hOk h
 go_enter Try.func18, Try.ntmps18
 go_wp2_with (go_at_call 47; refine (checks_calls _).mono ?_; rintro e w' ⟨rfl, rfl⟩)
 have B1 := Aside0.mk (blk_alloc (blk_new w (.cells zIP 24 (0, 0))) (.cells chkCells 71 (0, 0)))
 have B2 := Aside0.mk (blk_new (w.alloc (.cells zIP 24 (0, 0))) (.cells chkCells 71 (0, 0)))
 have B3 := Aside0.mk (((Below.refl w.heap.size w).alloc (Nat.le_refl _) (.cells zIP 24 (0, 0))).alloc (by simp) (.cells chkCells 71 (0, 0)))
 have B4 : (w.alloc (.cells zIP 24 (0, 0))).heap.size = w.heap.size + 1 := by simp
 rw [B4] at B2
 clear B4
 obtain ⟨gb, hgb⟩ : ∃ g, g = w.heap.size := ⟨_, rfl⟩
 obtain ⟨gc, hgc⟩ : ∃ g, g = w.heap.size + 1 := ⟨_, rfl⟩
 rw [← hgc] at B2 ⊢
 rw [← hgb] at B1 ⊢
 have GB := Aside0.mk hgb
 have GC := Aside0.mk hgc
 clear hgb hgc
 change Aside0 (((w.alloc (.cells #[.int .i64 0, .int .i64 0, .bool false, .bool false, .int .i64 0, .int .i64 0, .int .i64 0, .int .u32 0, .int .u32 0, .string (⟨#[]⟩ : ByteArray)] 24 (0, 0))).alloc (.cells chkCells 71 (0, 0))).heap[gb]? = _) at B1
 change Aside0 (((w.alloc (.cells #[.int .i64 0, .int .i64 0, .bool false, .bool false, .int .i64 0, .int .i64 0, .int .i64 0, .int .u32 0, .int .u32 0, .string (⟨#[]⟩ : ByteArray)] 24 (0, 0))).alloc (.cells chkCells 71 (0, 0))).heap[gc]? = _) at B2
 change Aside0 (Below _ w ((w.alloc (.cells #[.int .i64 0, .int .i64 0, .bool false, .bool false, .int .i64 0, .int .i64 0, .int .i64 0, .int .u32 0, .int .u32 0, .string (⟨#[]⟩ : ByteArray)] 24 (0, 0))).alloc (.cells chkCells 71 (0, 0)))) at B3
 generalize ((w.alloc (.cells #[.int .i64 0, .int .i64 0, .bool false, .bool false, .int .i64 0, .int .i64 0, .int .i64 0, .int .u32 0, .int .u32 0, .string (⟨#[]⟩ : ByteArray)] 24 (0, 0))).alloc (.cells chkCells 71 (0, 0))) = W0 at *
 go_loopw [11] (fun i wr => GRel k s e w gb gc i wr) (fun i _ => 8 - (intOf i).toNat)
 case atStart => exact ⟨0, by omega, rfl, HR0, B1, B2, B3⟩
 case round =>
  clear B1 B2 B3 HR0
  obtain ⟨j, hj, rfl, HR, BK, CK, HB⟩ := hrel
  have hlt := blk_lt CK.out
  rcases (show j = 0 ∨ j = 1 ∨ j = 2 ∨ j = 3 ∨ j = 4 ∨ j = 5 ∨ j = 6 ∨ j = 7 ∨ j = 8 by omega) with rfl | rfl | rfl | rfl | rfl | rfl | rfl | rfl | rfl
  ·
   have c0 : wr.cell? ⟨gc, 0, none⟩ = some (.func (.func 67) #[] #[]) := (blk_cell CK.out 0).trans rfl
   have c1 : wr.cell? ⟨gc, 1, none⟩ = some (.int .i64 2) := (blk_cell CK.out 1).trans rfl
   have hR : (ipv4_checks_1.f s).bind (fun b => if b = true then some 2 else GetR k s 7) = some e := HR.out
   clear HR
   obtain ⟨b, hb0, hR⟩ := Option.bind_eq_some_iff.mp hR
   have HB0 := Aside0.mk hb0
   clear hb0
   cases b with
   | false =>
    have HR : Aside0 (GetR k s 7 = some e) := ⟨hR⟩
    clear hR
    go_wp2_with (go_at_call 67; refine (ipv4_checks_1.calls s false _ HB0.out).mono ?_; rintro x w' ⟨rfl, ⟨nd, rfl⟩⟩)
    exact ⟨⟨1, by omega, rfl, HR, ⟨blk_drewN (blk_alloc BK.out _) nd⟩, ⟨blk_drewN (blk_alloc CK.out _) nd⟩, ⟨pw_below_drewN (below_alloc HB.out _) nd⟩⟩, by simp [intOf]⟩
   | true =>
    have hR : some 2 = some e := hR
    obtain rfl := Option.some.inj hR
    clear hR
    go_wp2_with (go_at_call 67; refine (ipv4_checks_1.calls s true _ HB0.out).mono ?_; rintro x w' ⟨rfl, ⟨nd, rfl⟩⟩)
    have N := (blk_drewN (blk_new wr _) nd : _ = some (.cells #[.func (.func 67) #[] #[], .int .i64 2] 71 (0, 0)))
    have BK2 := Aside0.mk (blk_drewN (blk_alloc BK.out (.cells #[.func (.func 67) #[] #[], .int .i64 2] 71 (0, 0))) nd)
    have HB2 := Aside0.mk (pw_below_drewN (below_alloc HB.out (.cells #[.func (.func 67) #[] #[], .int .i64 2] 71 (0, 0))) nd)
    have NE := Aside0.mk (show wr.heap.size ≠ gb from fun h => absurd (blk_lt BK.out) (by rw [h]; exact Nat.lt_irrefl _))
    refine ipv4_errRet Φ s gb _ 2 _ _ _ _ _ _ _ _ _ _ _ _ _ _ _ _ _ ((blk_cell N 1).trans rfl) NE BK2 (fun w' H => HERR.out (by decide) w' (H w (Nat.le_of_eq GB.out.symm) HB2.out)) _ _ ?_ ?_
    ·
     intro a w' hh
     go_step
     apply wp_ret
     exact hh
    ·
     intro x a d v w0 hh; cases d <;> exact hh
  ·
   have c0 : wr.cell? ⟨gc, 2, none⟩ = some (.func (.func 68) #[] #[]) := (blk_cell CK.out 2).trans rfl
   have c1 : wr.cell? ⟨gc, 3, none⟩ = some (.int .i64 3) := (blk_cell CK.out 3).trans rfl
   have hR : (ipv4_checks_2.f s).bind (fun b => if b = true then some 3 else GetR k s 6) = some e := HR.out
   clear HR
   obtain ⟨b, hb0, hR⟩ := Option.bind_eq_some_iff.mp hR
   have HB0 := Aside0.mk hb0
   clear hb0
   cases b with
   | false =>
    have HR : Aside0 (GetR k s 6 = some e) := ⟨hR⟩
    clear hR
    go_wp2_with (go_at_call 68; refine (ipv4_checks_2.calls s false _ HB0.out).mono ?_; rintro x w' ⟨rfl, ⟨nd, rfl⟩⟩)
    exact ⟨⟨2, by omega, rfl, HR, ⟨blk_drewN (blk_alloc BK.out _) nd⟩, ⟨blk_drewN (blk_alloc CK.out _) nd⟩, ⟨pw_below_drewN (below_alloc HB.out _) nd⟩⟩, by simp [intOf]⟩
   | true =>
    have hR : some 3 = some e := hR
    obtain rfl := Option.some.inj hR
    clear hR
    go_wp2_with (go_at_call 68; refine (ipv4_checks_2.calls s true _ HB0.out).mono ?_; rintro x w' ⟨rfl, ⟨nd, rfl⟩⟩)
    have N := (blk_drewN (blk_new wr _) nd : _ = some (.cells #[.func (.func 68) #[] #[], .int .i64 3] 71 (0, 0)))
    have BK2 := Aside0.mk (blk_drewN (blk_alloc BK.out (.cells #[.func (.func 68) #[] #[], .int .i64 3] 71 (0, 0))) nd)
    have HB2 := Aside0.mk (pw_below_drewN (below_alloc HB.out (.cells #[.func (.func 68) #[] #[], .int .i64 3] 71 (0, 0))) nd)
    have NE := Aside0.mk (show wr.heap.size ≠ gb from fun h => absurd (blk_lt BK.out) (by rw [h]; exact Nat.lt_irrefl _))
    refine ipv4_errRet Φ s gb _ 3 _ _ _ _ _ _ _ _ _ _ _ _ _ _ _ _ _ ((blk_cell N 1).trans rfl) NE BK2 (fun w' H => HERR.out (by decide) w' (H w (Nat.le_of_eq GB.out.symm) HB2.out)) _ _ ?_ ?_
    ·
     intro a w' hh
     go_step
     apply wp_ret
     exact hh
    ·
     intro x a d v w0 hh; cases d <;> exact hh
  ·
   have c0 : wr.cell? ⟨gc, 4, none⟩ = some (.func (.func 69) #[] #[]) := (blk_cell CK.out 4).trans rfl
   have c1 : wr.cell? ⟨gc, 5, none⟩ = some (.int .i64 2) := (blk_cell CK.out 5).trans rfl
   have hR : (ipv4_checks_3.f s).bind (fun b => if b = true then some 2 else GetR k s 5) = some e := HR.out
   clear HR
   obtain ⟨b, hb0, hR⟩ := Option.bind_eq_some_iff.mp hR
   have HB0 := Aside0.mk hb0
   clear hb0
   cases b with
   | false =>
    have HR : Aside0 (GetR k s 5 = some e) := ⟨hR⟩
    clear hR
    go_wp2_with (go_at_call 69; refine (ipv4_checks_3.calls s false _ HB0.out).mono ?_; rintro x w' ⟨rfl, ⟨nd, rfl⟩⟩)
    exact ⟨⟨3, by omega, rfl, HR, ⟨blk_drewN (blk_alloc BK.out _) nd⟩, ⟨blk_drewN (blk_alloc CK.out _) nd⟩, ⟨pw_below_drewN (below_alloc HB.out _) nd⟩⟩, by simp [intOf]⟩
   | true =>
    have hR : some 2 = some e := hR
    obtain rfl := Option.some.inj hR
    clear hR
    go_wp2_with (go_at_call 69; refine (ipv4_checks_3.calls s true _ HB0.out).mono ?_; rintro x w' ⟨rfl, ⟨nd, rfl⟩⟩)
    have N := (blk_drewN (blk_new wr _) nd : _ = some (.cells #[.func (.func 69) #[] #[], .int .i64 2] 71 (0, 0)))
    have BK2 := Aside0.mk (blk_drewN (blk_alloc BK.out (.cells #[.func (.func 69) #[] #[], .int .i64 2] 71 (0, 0))) nd)
    have HB2 := Aside0.mk (pw_below_drewN (below_alloc HB.out (.cells #[.func (.func 69) #[] #[], .int .i64 2] 71 (0, 0))) nd)
    have NE := Aside0.mk (show wr.heap.size ≠ gb from fun h => absurd (blk_lt BK.out) (by rw [h]; exact Nat.lt_irrefl _))
    refine ipv4_errRet Φ s gb _ 2 _ _ _ _ _ _ _ _ _ _ _ _ _ _ _ _ _ ((blk_cell N 1).trans rfl) NE BK2 (fun w' H => HERR.out (by decide) w' (H w (Nat.le_of_eq GB.out.symm) HB2.out)) _ _ ?_ ?_
    ·
     intro a w' hh
     go_step
     apply wp_ret
     exact hh
    ·
     intro x a d v w0 hh; cases d <;> exact hh
  ·
   have c0 : wr.cell? ⟨gc, 6, none⟩ = some (.func (.func 70) #[] #[]) := (blk_cell CK.out 6).trans rfl
   have c1 : wr.cell? ⟨gc, 7, none⟩ = some (.int .i64 3) := (blk_cell CK.out 7).trans rfl
   have hR : (ipv4_checks_4.f s).bind (fun b => if b = true then some 3 else GetR k s 4) = some e := HR.out
   clear HR
   obtain ⟨b, hb0, hR⟩ := Option.bind_eq_some_iff.mp hR
   have HB0 := Aside0.mk hb0
   clear hb0
   cases b with
   | false =>
    have HR : Aside0 (GetR k s 4 = some e) := ⟨hR⟩
    clear hR
    go_wp2_with (go_at_call 70; refine (ipv4_checks_4.calls s false _ HB0.out).mono ?_; rintro x w' ⟨rfl, hb⟩)
    exact ⟨⟨4, by omega, rfl, HR, ⟨blk_below (blk_alloc BK.out _) hb⟩, ⟨blk_below (blk_alloc CK.out _) hb⟩, ⟨below_step (below_alloc HB.out _) hb⟩⟩, by simp [intOf]⟩
   | true =>
    have hR : some 3 = some e := hR
    obtain rfl := Option.some.inj hR
    clear hR
    go_wp2_with (go_at_call 70; refine (ipv4_checks_4.calls s true _ HB0.out).mono ?_; rintro x w' ⟨rfl, hb⟩)
    have N := (blk_below (blk_new wr _) hb : _ = some (.cells #[.func (.func 70) #[] #[], .int .i64 3] 71 (0, 0)))
    have BK2 := Aside0.mk (blk_below (blk_alloc BK.out (.cells #[.func (.func 70) #[] #[], .int .i64 3] 71 (0, 0))) hb)
    have HB2 := Aside0.mk (below_step (below_alloc HB.out (.cells #[.func (.func 70) #[] #[], .int .i64 3] 71 (0, 0))) hb)
    have NE := Aside0.mk (show wr.heap.size ≠ gb from fun h => absurd (blk_lt BK.out) (by rw [h]; exact Nat.lt_irrefl _))
    refine ipv4_errRet Φ s gb _ 3 _ _ _ _ _ _ _ _ _ _ _ _ _ _ _ _ _ ((blk_cell N 1).trans rfl) NE BK2 (fun w' H => HERR.out (by decide) w' (H w (Nat.le_of_eq GB.out.symm) HB2.out)) _ _ ?_ ?_
    ·
     intro a w' hh
     go_step
     apply wp_ret
     exact hh
    ·
     intro x a d v w0 hh; cases d <;> exact hh
  ·
   have c0 : wr.cell? ⟨gc, 8, none⟩ = some (.func (.func 71) #[] #[]) := (blk_cell CK.out 8).trans rfl
   have c1 : wr.cell? ⟨gc, 9, none⟩ = some (.int .i64 2) := (blk_cell CK.out 9).trans rfl
   have hR : (ipv4_checks_5.f s).bind (fun b => if b = true then some 2 else GetR k s 3) = some e := HR.out
   clear HR
   obtain ⟨b, hb0, hR⟩ := Option.bind_eq_some_iff.mp hR
   have HB0 := Aside0.mk hb0
   clear hb0
   cases b with
   | false =>
    have HR : Aside0 (GetR k s 3 = some e) := ⟨hR⟩
    clear hR
    go_wp2_with (go_at_call 71; refine (ipv4_checks_5.calls s false _ HB0.out).mono ?_; rintro x w' ⟨rfl, hb⟩)
    exact ⟨⟨5, by omega, rfl, HR, ⟨blk_below (blk_alloc BK.out _) hb⟩, ⟨blk_below (blk_alloc CK.out _) hb⟩, ⟨below_step (below_alloc HB.out _) hb⟩⟩, by simp [intOf]⟩
   | true =>
    have hR : some 2 = some e := hR
    obtain rfl := Option.some.inj hR
    clear hR
    go_wp2_with (go_at_call 71; refine (ipv4_checks_5.calls s true _ HB0.out).mono ?_; rintro x w' ⟨rfl, hb⟩)
    have N := (blk_below (blk_new wr _) hb : _ = some (.cells #[.func (.func 71) #[] #[], .int .i64 2] 71 (0, 0)))
    have BK2 := Aside0.mk (blk_below (blk_alloc BK.out (.cells #[.func (.func 71) #[] #[], .int .i64 2] 71 (0, 0))) hb)
    have HB2 := Aside0.mk (below_step (below_alloc HB.out (.cells #[.func (.func 71) #[] #[], .int .i64 2] 71 (0, 0))) hb)
    have NE := Aside0.mk (show wr.heap.size ≠ gb from fun h => absurd (blk_lt BK.out) (by rw [h]; exact Nat.lt_irrefl _))
    refine ipv4_errRet Φ s gb _ 2 _ _ _ _ _ _ _ _ _ _ _ _ _ _ _ _ _ ((blk_cell N 1).trans rfl) NE BK2 (fun w' H => HERR.out (by decide) w' (H w (Nat.le_of_eq GB.out.symm) HB2.out)) _ _ ?_ ?_
    ·
     intro a w' hh
     go_step
     apply wp_ret
     exact hh
    ·
     intro x a d v w0 hh; cases d <;> exact hh
  ·
   have c0 : wr.cell? ⟨gc, 10, none⟩ = some (.func (.func 72) #[] #[]) := (blk_cell CK.out 10).trans rfl
   have c1 : wr.cell? ⟨gc, 11, none⟩ = some (.int .i64 3) := (blk_cell CK.out 11).trans rfl
   have hR : (ipv4_checks_6.f s).bind (fun b => if b = true then some 3 else GetR k s 2) = some e := HR.out
   clear HR
   obtain ⟨b, hb0, hR⟩ := Option.bind_eq_some_iff.mp hR
   have HB0 := Aside0.mk hb0
   clear hb0
   cases b with
   | false =>
    have HR : Aside0 (GetR k s 2 = some e) := ⟨hR⟩
    clear hR
    go_wp2_with (go_at_call 72; refine (ipv4_checks_6.calls s false _ HB0.out).mono ?_; rintro x w' ⟨rfl, ⟨nd, rfl⟩⟩)
    exact ⟨⟨6, by omega, rfl, HR, ⟨blk_drewN (blk_alloc BK.out _) nd⟩, ⟨blk_drewN (blk_alloc CK.out _) nd⟩, ⟨pw_below_drewN (below_alloc HB.out _) nd⟩⟩, by simp [intOf]⟩
   | true =>
    have hR : some 3 = some e := hR
    obtain rfl := Option.some.inj hR
    clear hR
    go_wp2_with (go_at_call 72; refine (ipv4_checks_6.calls s true _ HB0.out).mono ?_; rintro x w' ⟨rfl, ⟨nd, rfl⟩⟩)
    have N := (blk_drewN (blk_new wr _) nd : _ = some (.cells #[.func (.func 72) #[] #[], .int .i64 3] 71 (0, 0)))
    have BK2 := Aside0.mk (blk_drewN (blk_alloc BK.out (.cells #[.func (.func 72) #[] #[], .int .i64 3] 71 (0, 0))) nd)
    have HB2 := Aside0.mk (pw_below_drewN (below_alloc HB.out (.cells #[.func (.func 72) #[] #[], .int .i64 3] 71 (0, 0))) nd)
    have NE := Aside0.mk (show wr.heap.size ≠ gb from fun h => absurd (blk_lt BK.out) (by rw [h]; exact Nat.lt_irrefl _))
    refine ipv4_errRet Φ s gb _ 3 _ _ _ _ _ _ _ _ _ _ _ _ _ _ _ _ _ ((blk_cell N 1).trans rfl) NE BK2 (fun w' H => HERR.out (by decide) w' (H w (Nat.le_of_eq GB.out.symm) HB2.out)) _ _ ?_ ?_
    ·
     intro a w' hh
     go_step
     apply wp_ret
     exact hh
    ·
     intro x a d v w0 hh; cases d <;> exact hh
  ·
   have c0 : wr.cell? ⟨gc, 12, none⟩ = some (.func (.func 73) #[] #[]) := (blk_cell CK.out 12).trans rfl
   have c1 : wr.cell? ⟨gc, 13, none⟩ = some (.int .i64 5) := (blk_cell CK.out 13).trans rfl
   have hR : (ipv4_checks_7.f s).bind (fun b => if b = true then some 5 else GetR k s 1) = some e := HR.out
   clear HR
   obtain ⟨b, hb0, hR⟩ := Option.bind_eq_some_iff.mp hR
   have HB0 := Aside0.mk hb0
   clear hb0
   cases b with
   | false =>
    have HR : Aside0 (GetR k s 1 = some e) := ⟨hR⟩
    clear hR
    go_wp2_with (go_at_call 73; refine (ipv4_checks_7.calls s false _ HB0.out).mono ?_; rintro x w' ⟨rfl, hb⟩)
    exact ⟨⟨7, by omega, rfl, HR, ⟨blk_below (blk_alloc BK.out _) hb⟩, ⟨blk_below (blk_alloc CK.out _) hb⟩, ⟨below_step (below_alloc HB.out _) hb⟩⟩, by simp [intOf]⟩
   | true =>
    have hR : some 5 = some e := hR
    obtain rfl := Option.some.inj hR
    clear hR
    go_wp2_with (go_at_call 73; refine (ipv4_checks_7.calls s true _ HB0.out).mono ?_; rintro x w' ⟨rfl, hb⟩)
    have N := (blk_below (blk_new wr _) hb : _ = some (.cells #[.func (.func 73) #[] #[], .int .i64 5] 71 (0, 0)))
    have BK2 := Aside0.mk (blk_below (blk_alloc BK.out (.cells #[.func (.func 73) #[] #[], .int .i64 5] 71 (0, 0))) hb)
    have HB2 := Aside0.mk (below_step (below_alloc HB.out (.cells #[.func (.func 73) #[] #[], .int .i64 5] 71 (0, 0))) hb)
    have NE := Aside0.mk (show wr.heap.size ≠ gb from fun h => absurd (blk_lt BK.out) (by rw [h]; exact Nat.lt_irrefl _))
    refine ipv4_errRet Φ s gb _ 5 _ _ _ _ _ _ _ _ _ _ _ _ _ _ _ _ _ ((blk_cell N 1).trans rfl) NE BK2 (fun w' H => HERR.out (by decide) w' (H w (Nat.le_of_eq GB.out.symm) HB2.out)) _ _ ?_ ?_
    ·
     intro a w' hh
     go_step
     apply wp_ret
     exact hh
    ·
     intro x a d v w0 hh; cases d <;> exact hh
  ·
   have c0 : wr.cell? ⟨gc, 14, none⟩ = some (.func (.func 74) #[] #[]) := (blk_cell CK.out 14).trans rfl
   have c1 : wr.cell? ⟨gc, 15, none⟩ = some (.int .i64 4) := (blk_cell CK.out 15).trans rfl
   have hR : (ipv4_checks_8.f k s).bind (fun b => if b = true then some 4 else GetR k s 0) = some e := HR.out
   clear HR
   obtain ⟨b, hb0, hR⟩ := Option.bind_eq_some_iff.mp hR
   have HB0 := Aside0.mk hb0
   clear hb0
   cases b with
   | false =>
    have HR : Aside0 (GetR k s 0 = some e) := ⟨hR⟩
    clear hR
    go_wp2_with (go_at_call 74; refine (ipv4_checks_8.calls k s false _ HB0.out).mono ?_; rintro x w' ⟨rfl, hb⟩)
    exact ⟨⟨8, by omega, rfl, HR, ⟨blk_below (blk_alloc BK.out _) hb⟩, ⟨blk_below (blk_alloc CK.out _) hb⟩, ⟨below_step (below_alloc HB.out _) hb⟩⟩, by simp [intOf]⟩
   | true =>
    have hR : some 4 = some e := hR
    obtain rfl := Option.some.inj hR
    clear hR
    go_wp2_with (go_at_call 74; refine (ipv4_checks_8.calls k s true _ HB0.out).mono ?_; rintro x w' ⟨rfl, hb⟩)
    have N := (blk_below (blk_new wr _) hb : _ = some (.cells #[.func (.func 74) #[] #[], .int .i64 4] 71 (0, 0)))
    have BK2 := Aside0.mk (blk_below (blk_alloc BK.out (.cells #[.func (.func 74) #[] #[], .int .i64 4] 71 (0, 0))) hb)
    have HB2 := Aside0.mk (below_step (below_alloc HB.out (.cells #[.func (.func 74) #[] #[], .int .i64 4] 71 (0, 0))) hb)
    have NE := Aside0.mk (show wr.heap.size ≠ gb from fun h => absurd (blk_lt BK.out) (by rw [h]; exact Nat.lt_irrefl _))
    refine ipv4_errRet Φ s gb _ 4 _ _ _ _ _ _ _ _ _ _ _ _ _ _ _ _ _ ((blk_cell N 1).trans rfl) NE BK2 (fun w' H => HERR.out (by decide) w' (H w (Nat.le_of_eq GB.out.symm) HB2.out)) _ _ ?_ ?_
    ·
     intro a w' hh
     go_step
     apply wp_ret
     exact hh
    ·
     intro x a d v w0 hh; cases d <;> exact hh
  ·
   obtain rfl : 0 = e := Option.some.inj HR.out
   clear HR
   have HOK := Aside0.mk (HOK.out rfl)
   iterate 20 (first | (guard_target =~ Code.wp Try.prog (Code.seq (Code.region 7 _ _) _) _ _ _) | go_values | go_skip | go_guarded | go_step | go_upon | go_back | go_simp | (go_values <;> (try go_simp)))
   exact HOK.out _ _ _ _ _ _ _ _ _ _ _ _ _ _ _ _ _ _ gb GB BK HB

/-! ### ipv4_Tail: function 18 -/
def ipv4_Tail.f (a0 : ByteArray) : Option (Int × Int × Bool × Bool × Int × Int × Int × Int × Int × ByteArray × ByteArray × Int) := if 6 ≤ 8 then (if 8 ≤ (a0.size : Int) then ((sum_Num.f (a0.extract 6 8)).bind fun t145 => (if 1 < (a0.size : Int) then (if 4 ≤ 6 then (if 6 ≤ (a0.size : Int) then ((sum_Num.f (a0.extract 4 6)).bind fun t146 => (if 8 < (a0.size : Int) then (if 9 < (a0.size : Int) then (if 12 ≤ 16 then (if 16 ≤ (a0.size : Int) then ((sum_Num.f (a0.extract 12 16)).bind fun t147 => (if 16 ≤ 20 then (if 20 ≤ (a0.size : Int) then ((sum_Num.f (a0.extract 16 20)).bind fun t148 => ((ipv4_size.f a0).bind fun t149 => (if 20 ≤ t149 then (if t149 ≤ (a0.size : Int) then ((ipv4_size.f a0).bind fun t151 => ((ipv4_all.f a0).bind fun t152 => (if 0 ≤ t151 then (if t151 ≤ t152 then (if t152 ≤ (a0.size : Int) then (some (wrap64 (bt a0 1), t146, ((Go.bits .and .i64 t145 8192) != 0), ((Go.bits .and .i64 t145 16384) != 0), wrap64 ((Go.bits .and .i64 t145 8191) * 8), wrap64 (bt a0 8), wrap64 (bt a0 9), (t147) % 4294967296, (t148) % 4294967296, a0.extract 20 (t149 : Int).toNat, a0.extract (t151 : Int).toNat (t152 : Int).toNat, 0)) else (none)) else (none)) else (none)))) else (none)) else (none)))) else (none)) else (none))) else (none)) else (none)) else (none)) else (none))) else (none)) else (none)) else (none))) else (none)) else (none)
def ipv4_Tail.T8 : Bool × List (List Nat × List Nat) := (true, [([], []), ([0], [0]), ([1], [1]), ([], []), ([3], [3]), ([4], [4]), ([], []), ([6], [6]), ([7], [7]), ([], []), ([9], [9]), ([10], [10]), ([], []), ([12], [12]), ([13], [13]), ([], []), ([15], [15]), ([16], [16]), ([], []), ([18], [18]), ([19], [19]), ([], []), ([21], [21]), ([22, 5], [22]), ([23], [23]), ([], []), ([25], [25]), ([26, 23], [26]), ([27], [27]), ([], []), ([], []), ([30, 27], [30]), ([29, 31], [29, 31]), ([2, 5, 8, 11, 14, 17, 20, 24, 28, 32], [2, 5, 8, 11, 14, 17, 20, 24, 28, 32]), ([], []), ([34, 33, 31, 0, 1, 2, 3, 4, 5, 6, 7, 8, 9, 10, 11, 12, 13, 14, 15, 16, 17, 18, 19, 20, 21, 22, 23, 24, 25, 26, 27, 28, 29, 30, 31, 32, 33, 34], [33, 34])])
def ipv4_Tail.B8 : List Nat := [0, 1, 3, 0, 8, 24, 0, 64, 192, 0, 512, 1536, 0, 4096, 12288, 0, 32768, 98304, 0, 262144, 786432, 0, 2097152, 6291512, 14680120, 0, 33554432, 115343416, 249561144, 0, 0, 1323302968, 4007657528, 8589934591, 0, 34359738367]
theorem ipv4_Tail.tab8 : rtab .any (opsOf Try.f18 8) = ipv4_Tail.T8 := by kernel_rfl
theorem ipv4_Tail.bits8 : waitsOk ipv4_Tail.T8.2 ipv4_Tail.B8 = true := by kernel_rfl
def ipv4_Tail.T9 : Bool × List (List Nat × List Nat) := (true, [([], []), ([], []), ([], []), ([2], [2]), ([], []), ([4, 3], [4]), ([1, 3, 5], [1, 3, 5]), ([0, 5, 0], [0]), ([6, 7, 0, 1, 2, 3, 4, 5, 6, 7], [6]), ([8, 0, 1, 2, 3, 4, 5, 6, 7, 8], [])])
def ipv4_Tail.B9 : List Nat := [0, 0, 0, 4, 0, 28, 62, 61, 255, 511]
theorem ipv4_Tail.tab9 : rtab .any (opsOf Try.f18 9) = ipv4_Tail.T9 := by kernel_rfl
theorem ipv4_Tail.bits9 : waitsOk ipv4_Tail.T9.2 ipv4_Tail.B9 = true := by kernel_rfl
set_option maxHeartbeats 8000000 in
set_option maxRecDepth 100000 in
theorem ipv4_Tail.wp (a0 : ByteArray) (r1 : Int) (r2 : Int) (r3 : Bool) (r4 : Bool) (r5 : Int) (r6 : Int) (r7 : Int) (r8 : Int) (r9 : Int) (r10 : ByteArray) (r11 : ByteArray) (r12 : Int) (w : World) (u3 u4 u6 u9 u10 u11 u12 u13 u14 u15 u16 u17 u18 u19 u20 u21 u22 : Value) (W : World) (gb144 : Nat) (GB : Aside0 (gb144 = w.heap.size)) (BK0 : Aside0 (W.heap[gb144]? = some (.cells zIP 24 (0, 0)))) (HB0 : Aside0 (Below w.heap.size w W)) (h : ipv4_Tail.f a0 = some (r1, r2, r3, r4, r5, r6, r7, r8, r9, r10, r11, r12)) :
  Code.wp Try.prog (cTl (cTl (Try.f18.body.getD .skip))) (bodyPost Try.prog Try.f18 (fun e w' => e = .returned (.tuple #[.agg #[.int .i64 r1, .int .i64 r2, .bool r3, .bool r4, .int .i64 r5, .int .i64 r6, .int .i64 r7, .int .u32 r8, .int .u32 r9, .string r10], .string r11, .int .i64 r12]) ∧ Below w.heap.size w w')) ⟨#[.string a0, undef, .pointer (some ⟨gb144, 0, none⟩), u3, u4, undef, u6, undef, undef, u9, u10, u11, u12, u13, u14, u15, u16, u17, u18, u19, u20, u21, u22, undef, undef, undef, undef, undef, undef, undef, undef, undef, undef, undef, undef, undef, undef, undef, undef, undef, undef, undef, undef, undef, undef, undef, undef, undef, undef, undef, undef, undef, undef, undef, undef, undef, undef, undef, undef, undef, undef, undef, undef, undef, undef, undef, undef], []⟩ W := by
 have hu24 := Try.underlying24
 have HB := HB0
 clear HB0
 have H : (if 6 ≤ 8 then (if 8 ≤ (a0.size : Int) then ((sum_Num.f (a0.extract 6 8)).bind fun t145 => (if 1 < (a0.size : Int) then (if 4 ≤ 6 then (if 6 ≤ (a0.size : Int) then ((sum_Num.f (a0.extract 4 6)).bind fun t146 => (if 8 < (a0.size : Int) then (if 9 < (a0.size : Int) then (if 12 ≤ 16 then (if 16 ≤ (a0.size : Int) then ((sum_Num.f (a0.extract 12 16)).bind fun t147 => (if 16 ≤ 20 then (if 20 ≤ (a0.size : Int) then ((sum_Num.f (a0.extract 16 20)).bind fun t148 => ((ipv4_size.f a0).bind fun t149 => (if 20 ≤ t149 then (if t149 ≤ (a0.size : Int) then ((ipv4_size.f a0).bind fun t151 => ((ipv4_all.f a0).bind fun t152 => (if 0 ≤ t151 then (if t151 ≤ t152 then (if t152 ≤ (a0.size : Int) then (some (wrap64 (bt a0 1), t146, ((Go.bits .and .i64 t145 8192) != 0), ((Go.bits .and .i64 t145 16384) != 0), wrap64 ((Go.bits .and .i64 t145 8191) * 8), wrap64 (bt a0 8), wrap64 (bt a0 9), (t147) % 4294967296, (t148) % 4294967296, a0.extract 20 (t149 : Int).toNat, a0.extract (t151 : Int).toNat (t152 : Int).toNat, 0)) else (none)) else (none)) else (none)))) else (none)) else (none)))) else (none)) else (none))) else (none)) else (none)) else (none)) else (none))) else (none)) else (none)) else (none))) else (none)) else (none)) = some (r1, r2, r3, r4, r5, r6, r7, r8, r9, r10, r11, r12) := h
 clear h
 by_cases c2 : 6 ≤ 8
 ·
  rw [if_pos c2] at H
  have c2b0 := eq_true c2
  have c2b1 : decide (6 ≤ 8) = true := decide_eq_true c2
  clear c2
  by_cases c3 : 8 ≤ (a0.size : Int)
  ·
   rw [if_pos c3] at H
   have c3b0 := eq_true c3
   have c3b1 : decide (8 ≤ (a0.size : Int)) = true := decide_eq_true c3
   clear c3
   replace H := Option.bind_eq_some_iff.mp H
   obtain ⟨t145, A40, H⟩ := H
   replace H : (if 1 < (a0.size : Int) then (if 4 ≤ 6 then (if 6 ≤ (a0.size : Int) then ((sum_Num.f (a0.extract 4 6)).bind fun t146 => (if 8 < (a0.size : Int) then (if 9 < (a0.size : Int) then (if 12 ≤ 16 then (if 16 ≤ (a0.size : Int) then ((sum_Num.f (a0.extract 12 16)).bind fun t147 => (if 16 ≤ 20 then (if 20 ≤ (a0.size : Int) then ((sum_Num.f (a0.extract 16 20)).bind fun t148 => ((ipv4_size.f a0).bind fun t149 => (if 20 ≤ t149 then (if t149 ≤ (a0.size : Int) then ((ipv4_size.f a0).bind fun t151 => ((ipv4_all.f a0).bind fun t152 => (if 0 ≤ t151 then (if t151 ≤ t152 then (if t152 ≤ (a0.size : Int) then (some (wrap64 (bt a0 1), t146, ((Go.bits .and .i64 t145 8192) != 0), ((Go.bits .and .i64 t145 16384) != 0), wrap64 ((Go.bits .and .i64 t145 8191) * 8), wrap64 (bt a0 8), wrap64 (bt a0 9), (t147) % 4294967296, (t148) % 4294967296, a0.extract 20 (t149 : Int).toNat, a0.extract (t151 : Int).toNat (t152 : Int).toNat, 0)) else (none)) else (none)) else (none)))) else (none)) else (none)))) else (none)) else (none))) else (none)) else (none)) else (none)) else (none))) else (none)) else (none)) else (none)) = some (r1, r2, r3, r4, r5, r6, r7, r8, r9, r10, r11, r12) := H
   have A4 := Aside0.mk A40
   clear A40
   by_cases c5 : 1 < (a0.size : Int)
   ·
    rw [if_pos c5] at H
    have c5b0 : decide (1 < (a0.size : Int)) = true := decide_eq_true c5
    have c5b1 : decide (1 < a0.size) = true := decide_eq_true (by omega)
    clear c5
    by_cases c7 : 4 ≤ 6
    ·
     rw [if_pos c7] at H
     have c7b0 := eq_true c7
     have c7b1 : decide (4 ≤ 6) = true := decide_eq_true c7
     clear c7
     by_cases c8 : 6 ≤ (a0.size : Int)
     ·
      rw [if_pos c8] at H
      have c8b0 := eq_true c8
      have c8b1 : decide (6 ≤ (a0.size : Int)) = true := decide_eq_true c8
      clear c8
      replace H := Option.bind_eq_some_iff.mp H
      obtain ⟨t146, A90, H⟩ := H
      replace H : (if 8 < (a0.size : Int) then (if 9 < (a0.size : Int) then (if 12 ≤ 16 then (if 16 ≤ (a0.size : Int) then ((sum_Num.f (a0.extract 12 16)).bind fun t147 => (if 16 ≤ 20 then (if 20 ≤ (a0.size : Int) then ((sum_Num.f (a0.extract 16 20)).bind fun t148 => ((ipv4_size.f a0).bind fun t149 => (if 20 ≤ t149 then (if t149 ≤ (a0.size : Int) then ((ipv4_size.f a0).bind fun t151 => ((ipv4_all.f a0).bind fun t152 => (if 0 ≤ t151 then (if t151 ≤ t152 then (if t152 ≤ (a0.size : Int) then (some (wrap64 (bt a0 1), t146, ((Go.bits .and .i64 t145 8192) != 0), ((Go.bits .and .i64 t145 16384) != 0), wrap64 ((Go.bits .and .i64 t145 8191) * 8), wrap64 (bt a0 8), wrap64 (bt a0 9), (t147) % 4294967296, (t148) % 4294967296, a0.extract 20 (t149 : Int).toNat, a0.extract (t151 : Int).toNat (t152 : Int).toNat, 0)) else (none)) else (none)) else (none)))) else (none)) else (none)))) else (none)) else (none))) else (none)) else (none)) else (none)) else (none)) = some (r1, r2, r3, r4, r5, r6, r7, r8, r9, r10, r11, r12) := H
      have A9 := Aside0.mk A90
      clear A90
      by_cases c10 : 8 < (a0.size : Int)
      ·
       rw [if_pos c10] at H
       have c10b0 : decide (8 < (a0.size : Int)) = true := decide_eq_true c10
       have c10b1 : decide (8 < a0.size) = true := decide_eq_true (by omega)
       clear c10
       by_cases c12 : 9 < (a0.size : Int)
       ·
        rw [if_pos c12] at H
        have c12b0 : decide (9 < (a0.size : Int)) = true := decide_eq_true c12
        have c12b1 : decide (9 < a0.size) = true := decide_eq_true (by omega)
        clear c12
        by_cases c14 : 12 ≤ 16
        ·
         rw [if_pos c14] at H
         have c14b0 := eq_true c14
         have c14b1 : decide (12 ≤ 16) = true := decide_eq_true c14
         clear c14
         by_cases c15 : 16 ≤ (a0.size : Int)
         ·
          rw [if_pos c15] at H
          have c15b0 := eq_true c15
          have c15b1 : decide (16 ≤ (a0.size : Int)) = true := decide_eq_true c15
          clear c15
          replace H := Option.bind_eq_some_iff.mp H
          obtain ⟨t147, A160, H⟩ := H
          replace H : (if 16 ≤ 20 then (if 20 ≤ (a0.size : Int) then ((sum_Num.f (a0.extract 16 20)).bind fun t148 => ((ipv4_size.f a0).bind fun t149 => (if 20 ≤ t149 then (if t149 ≤ (a0.size : Int) then ((ipv4_size.f a0).bind fun t151 => ((ipv4_all.f a0).bind fun t152 => (if 0 ≤ t151 then (if t151 ≤ t152 then (if t152 ≤ (a0.size : Int) then (some (wrap64 (bt a0 1), t146, ((Go.bits .and .i64 t145 8192) != 0), ((Go.bits .and .i64 t145 16384) != 0), wrap64 ((Go.bits .and .i64 t145 8191) * 8), wrap64 (bt a0 8), wrap64 (bt a0 9), (t147) % 4294967296, (t148) % 4294967296, a0.extract 20 (t149 : Int).toNat, a0.extract (t151 : Int).toNat (t152 : Int).toNat, 0)) else (none)) else (none)) else (none)))) else (none)) else (none)))) else (none)) else (none)) = some (r1, r2, r3, r4, r5, r6, r7, r8, r9, r10, r11, r12) := H
          have A16 := Aside0.mk A160
          clear A160
          by_cases c17 : 16 ≤ 20
          ·
           rw [if_pos c17] at H
           have c17b0 := eq_true c17
           have c17b1 : decide (16 ≤ 20) = true := decide_eq_true c17
           clear c17
           by_cases c18 : 20 ≤ (a0.size : Int)
           ·
            rw [if_pos c18] at H
            have c18b0 := eq_true c18
            have c18b1 : decide (20 ≤ (a0.size : Int)) = true := decide_eq_true c18
            clear c18
            replace H := Option.bind_eq_some_iff.mp H
            obtain ⟨t148, A190, H⟩ := H
            replace H : ((ipv4_size.f a0).bind fun t149 => (if 20 ≤ t149 then (if t149 ≤ (a0.size : Int) then ((ipv4_size.f a0).bind fun t151 => ((ipv4_all.f a0).bind fun t152 => (if 0 ≤ t151 then (if t151 ≤ t152 then (if t152 ≤ (a0.size : Int) then (some (wrap64 (bt a0 1), t146, ((Go.bits .and .i64 t145 8192) != 0), ((Go.bits .and .i64 t145 16384) != 0), wrap64 ((Go.bits .and .i64 t145 8191) * 8), wrap64 (bt a0 8), wrap64 (bt a0 9), (t147) % 4294967296, (t148) % 4294967296, a0.extract 20 (t149 : Int).toNat, a0.extract (t151 : Int).toNat (t152 : Int).toNat, 0)) else (none)) else (none)) else (none)))) else (none)) else (none))) = some (r1, r2, r3, r4, r5, r6, r7, r8, r9, r10, r11, r12) := H
            have A19 := Aside0.mk A190
            clear A190
            replace H := Option.bind_eq_some_iff.mp H
            obtain ⟨t149, A200, H⟩ := H
            replace H : (if 20 ≤ t149 then (if t149 ≤ (a0.size : Int) then ((ipv4_size.f a0).bind fun t151 => ((ipv4_all.f a0).bind fun t152 => (if 0 ≤ t151 then (if t151 ≤ t152 then (if t152 ≤ (a0.size : Int) then (some (wrap64 (bt a0 1), t146, ((Go.bits .and .i64 t145 8192) != 0), ((Go.bits .and .i64 t145 16384) != 0), wrap64 ((Go.bits .and .i64 t145 8191) * 8), wrap64 (bt a0 8), wrap64 (bt a0 9), (t147) % 4294967296, (t148) % 4294967296, a0.extract 20 (t149 : Int).toNat, a0.extract (t151 : Int).toNat (t152 : Int).toNat, 0)) else (none)) else (none)) else (none)))) else (none)) else (none)) = some (r1, r2, r3, r4, r5, r6, r7, r8, r9, r10, r11, r12) := H
            have A20 := Aside0.mk A200
            clear A200
            by_cases c21 : 20 ≤ t149
            ·
             rw [if_pos c21] at H
             have c21b0 := eq_true c21
             have c21b1 : decide (20 ≤ t149) = true := decide_eq_true c21
             clear c21
             by_cases c22 : t149 ≤ (a0.size : Int)
             ·
              rw [if_pos c22] at H
              have c22b0 := eq_true c22
              have c22b1 : decide (t149 ≤ (a0.size : Int)) = true := decide_eq_true c22
              clear c22
              replace H := Option.bind_eq_some_iff.mp H
              obtain ⟨t151, A230, H⟩ := H
              replace H : ((ipv4_all.f a0).bind fun t152 => (if 0 ≤ t151 then (if t151 ≤ t152 then (if t152 ≤ (a0.size : Int) then (some (wrap64 (bt a0 1), t146, ((Go.bits .and .i64 t145 8192) != 0), ((Go.bits .and .i64 t145 16384) != 0), wrap64 ((Go.bits .and .i64 t145 8191) * 8), wrap64 (bt a0 8), wrap64 (bt a0 9), (t147) % 4294967296, (t148) % 4294967296, a0.extract 20 (t149 : Int).toNat, a0.extract (t151 : Int).toNat (t152 : Int).toNat, 0)) else (none)) else (none)) else (none))) = some (r1, r2, r3, r4, r5, r6, r7, r8, r9, r10, r11, r12) := H
              have A23 := Aside0.mk A230
              clear A230
              replace H := Option.bind_eq_some_iff.mp H
              obtain ⟨t152, A240, H⟩ := H
              replace H : (if 0 ≤ t151 then (if t151 ≤ t152 then (if t152 ≤ (a0.size : Int) then (some (wrap64 (bt a0 1), t146, ((Go.bits .and .i64 t145 8192) != 0), ((Go.bits .and .i64 t145 16384) != 0), wrap64 ((Go.bits .and .i64 t145 8191) * 8), wrap64 (bt a0 8), wrap64 (bt a0 9), (t147) % 4294967296, (t148) % 4294967296, a0.extract 20 (t149 : Int).toNat, a0.extract (t151 : Int).toNat (t152 : Int).toNat, 0)) else (none)) else (none)) else (none)) = some (r1, r2, r3, r4, r5, r6, r7, r8, r9, r10, r11, r12) := H
              have A24 := Aside0.mk A240
              clear A240
              by_cases c25 : 0 ≤ t151
              ·
               rw [if_pos c25] at H
               have c25b0 := eq_true c25
               have c25b1 : decide (0 ≤ t151) = true := decide_eq_true c25
               clear c25
               by_cases c26 : t151 ≤ t152
               ·
                rw [if_pos c26] at H
                have c26b0 := eq_true c26
                have c26b1 : decide (t151 ≤ t152) = true := decide_eq_true c26
                clear c26
                by_cases c27 : t152 ≤ (a0.size : Int)
                ·
                 rw [if_pos c27] at H
                 have c27b0 := eq_true c27
                 have c27b1 : decide (t152 ≤ (a0.size : Int)) = true := decide_eq_true c27
                 clear c27
                 simp only [Option.some.injEq, Prod.mk.injEq] at H
                 obtain ⟨rfl, rfl, rfl, rfl, rfl, rfl, rfl, rfl, rfl, rfl, rfl, rfl⟩ := H
                 conv in (cTl _) => simp only [Try.f18, Option.getD, cTl]
                 have BK144 : Aside0 (W.heap[gb144]? = some (.cells #[.int .i64 0, .int .i64 0, .bool false, .bool false, .int .i64 0, .int .i64 0, .int .i64 0, .int .u32 0, .int .u32 0, .string (⟨#[]⟩ : ByteArray)] 24 (0, 0))) := BK0
                 clear BK0
                 have GW144 := Aside0.mk (show w.heap.size ≤ gb144 from Nat.le_of_eq GB.out.symm)
                 have GE144 := GW144
                 try go_wp2_with (first | ((with_reducible refine gate_dst (N := 2) rfl ?_); refine box_event ?hg (N := 2) ?hd (cs := #[.int .i64 0, .int .i64 0, .bool false, .bool false, .int .i64 0, .int .i64 0, .int .i64 0, .int .u32 0, .int .u32 0, .string (⟨#[]⟩ : ByteArray)]) (t := 24) ?hr ?_; (case hd => rfl); (case hg => rfl); (case hr => first | (go_simp; done) | (go_simp; rfl)); intro gb144 hg w28 hbox hb; have n0_ := Aside0.mk (below_step (by repeat (first | (with_reducible first | exact HB.out | apply below_alloc | apply pw_below_drewN | apply below_drew1) | exact HB.out)) hb); have n1_ := Aside0.mk (hbox); have n2_ := Aside0.mk ((by rw [hg]; exact (below_size (by repeat (first | (with_reducible first | exact HB.out | apply below_alloc | apply pw_below_drewN | apply below_drew1) | exact HB.out))) : w.heap.size ≤ gb144)); have n3_ := Aside0.mk ((by rw [hg]; exact (below_size (by repeat (first | (with_reducible first | exact HB.out | apply below_alloc | apply pw_below_drewN | apply below_drew1) | exact HB.out))) : w.heap.size ≤ gb144)); clear HB; have HB := n0_; have BK144 := n1_; have GW144 := n2_; have GE144 := n3_; clear n0_ n1_ n2_ n3_; clear hb hbox hg) | ((with_reducible refine gate_callee (f := 48) rfl ?_); refine goesL_ (some 25) rfl rfl Try.func48 (by kernel_rfl) rfl #[.string (a0.extract 6 8)] rfl (by (try simp only [List.map_toArray, List.map_cons, List.map_nil]); first | done | rfl | (simp only [List.length_drop, List.length_take]; rfl)) ?_; (with_reducible refine (sum_Num.calls (a0.extract 6 8) t145 _ A4.out).mono ?_); rintro e w29 ⟨rfl, hb⟩; refine ⟨_, rfl, ?_⟩; have n0_ := Aside0.mk (blk_below (g := gb144) (o := .cells #[.int .i64 0, .int .i64 0, .bool false, .bool false, .int .i64 0, .int .i64 0, .int .i64 0, .int .u32 0, .int .u32 0, .string (⟨#[]⟩ : ByteArray)] 24 (0, 0)) (by (with_reducible repeat (first | refine blk_drewN ?_ _ | refine blk_drew ?_ | refine blk_alloc ?_ _)); exact BK144.out) hb); have n1_ := Aside0.mk (below_step (by repeat (first | (with_reducible first | exact HB.out | apply below_alloc | apply pw_below_drewN | apply below_drew1 | refine below_set ?_ GE144.out) | exact HB.out)) hb); clear BK144; clear HB; have BK144 := n0_; have HB := n1_; clear n0_ n1_; (try clear hb); (try clear hb2); (try clear hk); (try clear hi)))
                 have n0_ := Aside0.mk (blk_drew BK144.out)
                 have n1_ := Aside0.mk (below_drew1 HB.out)
                 clear BK144
                 clear HB
                 have BK144 := n0_
                 have HB := n1_
                 clear n0_ n1_
                 have p6 : 0 ≤ (1 : Int) := (by omega)
                 have q6 : 1 < a0.size := (by have : (1 : Int) < (a0.size : Int) := of_decide_eq_true (by first | (with_reducible assumption) | assumption); omega)
                 have hx6 : ∀ h : 1 < a0.size, ((a0[1]'h).toNat : Int) = bt a0 1 := bt_at a0 1
                 clear p6
                 have qi6 : (1 < (a0.size : Int)) = True := eq_true (of_decide_eq_true (by first | (with_reducible assumption) | assumption))
                 replace q6 := eq_true q6
                 have p11 : 0 ≤ (8 : Int) := (by omega)
                 have q11 : 8 < a0.size := (by have : (8 : Int) < (a0.size : Int) := of_decide_eq_true (by first | (with_reducible assumption) | assumption); omega)
                 have hx11 : ∀ h : 8 < a0.size, ((a0[8]'h).toNat : Int) = bt a0 8 := bt_at a0 8
                 clear p11
                 have qi11 : (8 < (a0.size : Int)) = True := eq_true (of_decide_eq_true (by first | (with_reducible assumption) | assumption))
                 replace q11 := eq_true q11
                 have p13 : 0 ≤ (9 : Int) := (by omega)
                 have q13 : 9 < a0.size := (by have : (9 : Int) < (a0.size : Int) := of_decide_eq_true (by first | (with_reducible assumption) | assumption); omega)
                 have hx13 : ∀ h : 9 < a0.size, ((a0[9]'h).toNat : Int) = bt a0 9 := bt_at a0 9
                 clear p13
                 have qi13 : (9 < (a0.size : Int)) = True := eq_true (of_decide_eq_true (by first | (with_reducible assumption) | assumption))
                 replace q13 := eq_true q13
                 refine start_ (n := 36) (S := fun w' => True) (ds := []) #[false, false, false, false, false, false, false, false, false, false, false, false, false, false, false, false, false, false, false, false, false, false, false, false, false, false, false, false, false, false, false, false, false, false, false, false] (by kernel_rfl) rfl rfl trivial (fun hHeld => ?_); refine with_tabW ipv4_Tail.tab8 ipv4_Tail.bits8 (fun HT_ HW_ => ?_)
                 generalize w29.drew = w30 at BK144 HB hHeld ⊢
                 refine pure_ (i := 0) (N := some 26) (v := ?_) (a' := ?_) #[true, false, false, false, false, false, false, false, false, false, false, false, false, false, false, false, false, false, false, false, false, false, false, false, false, false, false, false, false, false, false, false, false, false, false, false] rfl rfl (any_of HT_.out (by kernel_rfl)) (fun _ _ _ h => h) (Or.inl ⟨by rfl, ?_⟩) ?_ ?_
                 rotate_left
                 ·
                  intro w'
                  go_simp
                  with_reducible rfl
                 rotate_left
                 ·
                  simp only [Act.put, List.setIfInBounds_toArray, List.set_cons_zero, List.set_cons_succ, i64_w, i32_w]
                  rfl
                 refine pure_ (i := 3) (N := some 29) (v := ?_) (a' := ?_) #[true, false, false, true, false, false, false, false, false, false, false, false, false, false, false, false, false, false, false, false, false, false, false, false, false, false, false, false, false, false, false, false, false, false, false, false] rfl rfl (any_of HT_.out (by kernel_rfl)) (fun _ _ _ h => h) (Or.inl ⟨by rfl, ?_⟩) ?_ ?_
                 rotate_left
                 ·
                  intro w'
                  go_simp
                  with_reducible rfl
                 rotate_left
                 ·
                  simp only [Act.put, List.setIfInBounds_toArray, List.set_cons_zero, List.set_cons_succ, i64_w, i32_w]
                  rfl
                 refine pure_ (i := 4) (N := some 30) (v := ?_) (a' := ?_) #[true, false, false, true, true, false, false, false, false, false, false, false, false, false, false, false, false, false, false, false, false, false, false, false, false, false, false, false, false, false, false, false, false, false, false, false] rfl rfl (any_of HT_.out (by kernel_rfl)) (fun _ _ _ h => h) (Or.inl ⟨by rfl, ?_⟩) ?_ ?_
                 rotate_left
                 ·
                  intro w'
                  go_simp
                  with_reducible rfl
                 rotate_left
                 ·
                  simp only [Act.put, List.setIfInBounds_toArray, List.set_cons_zero, List.set_cons_succ, i64_w, i32_w]
                  rfl
                 refine pure_ (i := 6) (N := some 32) (v := ?_) (a' := ?_) #[true, false, false, true, true, false, true, false, false, false, false, false, false, false, false, false, false, false, false, false, false, false, false, false, false, false, false, false, false, false, false, false, false, false, false, false] rfl rfl (any_of HT_.out (by kernel_rfl)) (fun _ _ _ h => h) (Or.inl ⟨by rfl, ?_⟩) ?_ ?_
                 rotate_left
                 ·
                  intro w'
                  go_simp
                  with_reducible rfl
                 rotate_left
                 ·
                  simp only [Act.put, List.setIfInBounds_toArray, List.set_cons_zero, List.set_cons_succ, i64_w, i32_w]
                  rfl
                 refine pure_ (i := 7) (N := some 33) (v := ?_) (a' := ?_) #[true, false, false, true, true, false, true, true, false, false, false, false, false, false, false, false, false, false, false, false, false, false, false, false, false, false, false, false, false, false, false, false, false, false, false, false] rfl rfl (any_of HT_.out (by kernel_rfl)) (fun _ _ _ h => h) (Or.inl ⟨by rfl, ?_⟩) ?_ ?_
                 rotate_left
                 ·
                  intro w'
                  go_simp
                  with_reducible rfl
                 rotate_left
                 ·
                  simp only [Act.put, List.setIfInBounds_toArray, List.set_cons_zero, List.set_cons_succ, i64_w, i32_w]
                  rfl
                 refine pure_ (i := 8) (N := some 34) (v := ?_) (a' := ?_) #[true, false, false, true, true, false, true, true, true, false, false, false, false, false, false, false, false, false, false, false, false, false, false, false, false, false, false, false, false, false, false, false, false, false, false, false] rfl rfl (any_of HT_.out (by kernel_rfl)) (fun _ _ _ h => h) (Or.inl ⟨by rfl, ?_⟩) ?_ ?_
                 rotate_left
                 ·
                  intro w'
                  go_simp
                  with_reducible rfl
                 rotate_left
                 ·
                  simp only [Act.put, List.setIfInBounds_toArray, List.set_cons_zero, List.set_cons_succ, i64_w, i32_w]
                  rfl
                 refine pure_ (i := 9) (N := some 35) (v := ?_) (a' := ?_) #[true, false, false, true, true, false, true, true, true, true, false, false, false, false, false, false, false, false, false, false, false, false, false, false, false, false, false, false, false, false, false, false, false, false, false, false] rfl rfl (any_of HT_.out (by kernel_rfl)) (fun _ _ _ h => h) (Or.inl ⟨by rfl, ?_⟩) ?_ ?_
                 rotate_left
                 ·
                  intro w'
                  go_simp
                  with_reducible rfl
                 rotate_left
                 ·
                  simp only [Act.put, List.setIfInBounds_toArray, List.set_cons_zero, List.set_cons_succ, i64_w, i32_w]
                  rfl
                 refine pure_ (i := 10) (N := some 36) (v := ?_) (a' := ?_) #[true, false, false, true, true, false, true, true, true, true, true, false, false, false, false, false, false, false, false, false, false, false, false, false, false, false, false, false, false, false, false, false, false, false, false, false] rfl rfl (any_of HT_.out (by kernel_rfl)) (fun _ _ _ h => h) (Or.inl ⟨by rfl, ?_⟩) ?_ ?_
                 rotate_left
                 ·
                  intro w'
                  go_simp
                  with_reducible rfl
                 rotate_left
                 ·
                  simp only [Act.put, List.setIfInBounds_toArray, List.set_cons_zero, List.set_cons_succ, i64_w, i32_w]
                  rfl
                 refine pure_ (i := 11) (N := some 37) (v := ?_) (a' := ?_) #[true, false, false, true, true, false, true, true, true, true, true, true, false, false, false, false, false, false, false, false, false, false, false, false, false, false, false, false, false, false, false, false, false, false, false, false] rfl rfl (any_of HT_.out (by kernel_rfl)) (fun _ _ _ h => h) (Or.inl ⟨by rfl, ?_⟩) ?_ ?_
                 rotate_left
                 ·
                  intro w'
                  go_simp
                  with_reducible rfl
                 rotate_left
                 ·
                  simp only [Act.put, List.setIfInBounds_toArray, List.set_cons_zero, List.set_cons_succ, i64_w, i32_w]
                  rfl
                 refine pure_ (i := 12) (N := some 38) (v := ?_) (a' := ?_) #[true, false, false, true, true, false, true, true, true, true, true, true, true, false, false, false, false, false, false, false, false, false, false, false, false, false, false, false, false, false, false, false, false, false, false, false] rfl rfl (any_of HT_.out (by kernel_rfl)) (fun _ _ _ h => h) (Or.inl ⟨by rfl, ?_⟩) ?_ ?_
                 rotate_left
                 ·
                  intro w'
                  go_simp
                  with_reducible rfl
                 rotate_left
                 ·
                  simp only [Act.put, List.setIfInBounds_toArray, List.set_cons_zero, List.set_cons_succ, i64_w, i32_w]
                  rfl
                 refine pure_ (i := 13) (N := some 39) (v := ?_) (a' := ?_) #[true, false, false, true, true, false, true, true, true, true, true, true, true, true, false, false, false, false, false, false, false, false, false, false, false, false, false, false, false, false, false, false, false, false, false, false] rfl rfl (any_of HT_.out (by kernel_rfl)) (fun _ _ _ h => h) (Or.inl ⟨by rfl, ?_⟩) ?_ ?_
                 rotate_left
                 ·
                  intro w'
                  go_simp
                  with_reducible rfl
                 rotate_left
                 ·
                  simp only [Act.put, List.setIfInBounds_toArray, List.set_cons_zero, List.set_cons_succ, i64_w, i32_w]
                  rfl
                 refine pure_ (i := 14) (N := some 40) (v := ?_) (a' := ?_) #[true, false, false, true, true, false, true, true, true, true, true, true, true, true, true, false, false, false, false, false, false, false, false, false, false, false, false, false, false, false, false, false, false, false, false, false] rfl rfl (any_of HT_.out (by kernel_rfl)) (fun _ _ _ h => h) (Or.inl ⟨by rfl, ?_⟩) ?_ ?_
                 rotate_left
                 ·
                  intro w'
                  go_simp
                  with_reducible rfl
                 rotate_left
                 ·
                  simp only [Act.put, List.setIfInBounds_toArray, List.set_cons_zero, List.set_cons_succ, i64_w, i32_w]
                  rfl
                 refine pure_ (i := 15) (N := some 41) (v := ?_) (a' := ?_) #[true, false, false, true, true, false, true, true, true, true, true, true, true, true, true, true, false, false, false, false, false, false, false, false, false, false, false, false, false, false, false, false, false, false, false, false] rfl rfl (any_of HT_.out (by kernel_rfl)) (fun _ _ _ h => h) (Or.inl ⟨by rfl, ?_⟩) ?_ ?_
                 rotate_left
                 ·
                  intro w'
                  go_simp
                  with_reducible rfl
                 rotate_left
                 ·
                  simp only [Act.put, List.setIfInBounds_toArray, List.set_cons_zero, List.set_cons_succ, i64_w, i32_w]
                  rfl
                 refine pure_ (i := 18) (N := some 44) (v := ?_) (a' := ?_) #[true, false, false, true, true, false, true, true, true, true, true, true, true, true, true, true, false, false, true, false, false, false, false, false, false, false, false, false, false, false, false, false, false, false, false, false] rfl rfl (any_of HT_.out (by kernel_rfl)) (fun _ _ _ h => h) (Or.inl ⟨by rfl, ?_⟩) ?_ ?_
                 rotate_left
                 ·
                  intro w'
                  go_simp
                  with_reducible rfl
                 rotate_left
                 ·
                  simp only [Act.put, List.setIfInBounds_toArray, List.set_cons_zero, List.set_cons_succ, i64_w, i32_w]
                  rfl
                 refine pure_ (i := 21) (N := some 47) (v := ?_) (a' := ?_) #[true, false, false, true, true, false, true, true, true, true, true, true, true, true, true, true, false, false, true, false, false, true, false, false, false, false, false, false, false, false, false, false, false, false, false, false] rfl rfl (any_of HT_.out (by kernel_rfl)) (fun _ _ _ h => h) (Or.inl ⟨by rfl, ?_⟩) ?_ ?_
                 rotate_left
                 ·
                  intro w'
                  go_simp
                  with_reducible rfl
                 rotate_left
                 ·
                  simp only [Act.put, List.setIfInBounds_toArray, List.set_cons_zero, List.set_cons_succ, i64_w, i32_w]
                  rfl
                 refine pure_ (i := 22) (N := some 48) (v := ?_) (a' := ?_) #[true, false, false, true, true, false, true, true, true, true, true, true, true, true, true, true, false, false, true, false, false, true, true, false, false, false, false, false, false, false, false, false, false, false, false, false] rfl rfl (any_of HT_.out (by kernel_rfl)) (fun _ _ _ h => h) (Or.inl ⟨by rfl, ?_⟩) ?_ ?_
                 rotate_left
                 ·
                  intro w'
                  go_simp
                  with_reducible rfl
                 rotate_left
                 ·
                  simp only [Act.put, List.setIfInBounds_toArray, List.set_cons_zero, List.set_cons_succ, i64_w, i32_w]
                  rfl
                 refine pure_ (i := 25) (N := some 51) (v := ?_) (a' := ?_) #[true, false, false, true, true, false, true, true, true, true, true, true, true, true, true, true, false, false, true, false, false, true, true, false, false, true, false, false, false, false, false, false, false, false, false, false] rfl rfl (any_of HT_.out (by kernel_rfl)) (fun _ _ _ h => h) (Or.inl ⟨by rfl, ?_⟩) ?_ ?_
                 rotate_left
                 ·
                  intro w'
                  go_simp
                  with_reducible rfl
                 rotate_left
                 ·
                  simp only [Act.put, List.setIfInBounds_toArray, List.set_cons_zero, List.set_cons_succ, i64_w, i32_w]
                  rfl
                 refine pure_ (i := 26) (N := some 52) (v := ?_) (a' := ?_) #[true, false, false, true, true, false, true, true, true, true, true, true, true, true, true, true, false, false, true, false, false, true, true, false, false, true, true, false, false, false, false, false, false, false, false, false] rfl rfl (any_of HT_.out (by kernel_rfl)) (fun _ _ _ h => h) (Or.inl ⟨by rfl, ?_⟩) ?_ ?_
                 rotate_left
                 ·
                  intro w'
                  go_simp
                  with_reducible rfl
                 rotate_left
                 ·
                  simp only [Act.put, List.setIfInBounds_toArray, List.set_cons_zero, List.set_cons_succ, i64_w, i32_w]
                  rfl
                 refine pure_ (i := 29) (N := some 55) (v := ?_) (a' := ?_) #[true, false, false, true, true, false, true, true, true, true, true, true, true, true, true, true, false, false, true, false, false, true, true, false, false, true, true, false, false, true, false, false, false, false, false, false] rfl rfl (any_of HT_.out (by kernel_rfl)) (fun _ _ _ h => h) (Or.inl ⟨by rfl, ?_⟩) ?_ ?_
                 rotate_left
                 ·
                  intro w'
                  go_simp
                  with_reducible rfl
                 rotate_left
                 ·
                  simp only [Act.put, List.setIfInBounds_toArray, List.set_cons_zero, List.set_cons_succ, i64_w, i32_w]
                  rfl
                 refine pure_ (i := 30) (N := some 56) (v := ?_) (a' := ?_) #[true, false, false, true, true, false, true, true, true, true, true, true, true, true, true, true, false, false, true, false, false, true, true, false, false, true, true, false, false, true, true, false, false, false, false, false] rfl rfl (any_of HT_.out (by kernel_rfl)) (fun _ _ _ h => h) (Or.inl ⟨by rfl, ?_⟩) ?_ ?_
                 rotate_left
                 ·
                  intro w'
                  go_simp
                  with_reducible rfl
                 rotate_left
                 ·
                  simp only [Act.put, List.setIfInBounds_toArray, List.set_cons_zero, List.set_cons_succ, i64_w, i32_w]
                  rfl
                 refine take_ (i := 1) (N := some 27) (v := ?_) (a' := ?_) #[true, true, false, true, true, false, true, true, true, true, true, true, true, true, true, true, false, false, true, false, false, true, true, false, false, true, true, false, false, true, true, false, false, false, false, false] rfl rfl (take_ofW HT_.out HW_.out (by kernel_rfl)) (fun _ _ _ h => h) (Or.inl ⟨by rfl, ?_⟩) hHeld ?_ ?_
                 rotate_left
                 ·
                  intro w' _
                  go_simp
                  with_reducible rfl
                 rotate_left
                 ·
                  simp only [Act.put, List.setIfInBounds_toArray, List.set_cons_zero, List.set_cons_succ, i64_w, i32_w]
                  rfl
                 refine pure_ (i := 2) (N := some 28) (v := ?_) (a' := ?_) #[true, true, true, true, true, false, true, true, true, true, true, true, true, true, true, true, false, false, true, false, false, true, true, false, false, true, true, false, false, true, true, false, false, false, false, false] rfl rfl (any_of HT_.out (by kernel_rfl)) (fun _ _ _ h => h) (Or.inl ⟨by rfl, ?_⟩) ?_ ?_
                 rotate_left
                 ·
                  intro w'
                  go_simp
                  with_reducible rfl
                 rotate_left
                 ·
                  simp only [Act.put, List.setIfInBounds_toArray, List.set_cons_zero, List.set_cons_succ, i64_w, i32_w]
                  rfl
                 refine take_ (i := 16) (N := some 42) (v := ?_) (a' := ?_) #[true, true, true, true, true, false, true, true, true, true, true, true, true, true, true, true, true, false, true, false, false, true, true, false, false, true, true, false, false, true, true, false, false, false, false, false] rfl rfl (take_ofW HT_.out HW_.out (by kernel_rfl)) (fun _ _ _ h => h) (Or.inl ⟨by rfl, ?_⟩) hHeld ?_ ?_
                 rotate_left
                 ·
                  intro w' _
                  go_simp
                  with_reducible rfl
                 rotate_left
                 ·
                  simp only [Act.put, List.setIfInBounds_toArray, List.set_cons_zero, List.set_cons_succ, i64_w, i32_w]
                  rfl
                 refine pure_ (i := 17) (N := some 43) (v := ?_) (a' := ?_) #[true, true, true, true, true, false, true, true, true, true, true, true, true, true, true, true, true, true, true, false, false, true, true, false, false, true, true, false, false, true, true, false, false, false, false, false] rfl rfl (any_of HT_.out (by kernel_rfl)) (fun _ _ _ h => h) (Or.inl ⟨by rfl, ?_⟩) ?_ ?_
                 rotate_left
                 ·
                  intro w'
                  go_simp
                  with_reducible rfl
                 rotate_left
                 ·
                  simp only [Act.put, List.setIfInBounds_toArray, List.set_cons_zero, List.set_cons_succ, i64_w, i32_w]
                  rfl
                 refine take_ (i := 19) (N := some 45) (v := ?_) (a' := ?_) #[true, true, true, true, true, false, true, true, true, true, true, true, true, true, true, true, true, true, true, true, false, true, true, false, false, true, true, false, false, true, true, false, false, false, false, false] rfl rfl (take_ofW HT_.out HW_.out (by kernel_rfl)) (fun _ _ _ h => h) (Or.inl ⟨by rfl, ?_⟩) hHeld ?_ ?_
                 rotate_left
                 ·
                  intro w' _
                  go_simp
                  with_reducible rfl
                 rotate_left
                 ·
                  simp only [Act.put, List.setIfInBounds_toArray, List.set_cons_zero, List.set_cons_succ, i64_w, i32_w]
                  rfl
                 refine pure_ (i := 20) (N := some 46) (v := ?_) (a' := ?_) #[true, true, true, true, true, false, true, true, true, true, true, true, true, true, true, true, true, true, true, true, true, true, true, false, false, true, true, false, false, true, true, false, false, false, false, false] rfl rfl (any_of HT_.out (by kernel_rfl)) (fun _ _ _ h => h) (Or.inl ⟨by rfl, ?_⟩) ?_ ?_
                 rotate_left
                 ·
                  intro w'
                  go_simp
                  with_reducible rfl
                 rotate_left
                 ·
                  simp only [Act.put, List.setIfInBounds_toArray, List.set_cons_zero, List.set_cons_succ, i64_w, i32_w]
                  rfl
                 refine join_ (σ := Nat) 1 #[true, true, true, true, true, true, true, true, true, true, true, true, true, true, true, true, true, true, true, true, true, true, true, true, true, true, true, true, true, true, true, true, true, true, true, false] (fun s_ => [(31, .int .i64 t146), (49, .int .i64 t147), (53, .int .i64 t148), (57, .int .i64 t149), (8, .pointer (some ⟨s_, 0, none⟩)), (50, .int .u32 ((t147) % 4294967296)), (54, .int .u32 ((t148) % 4294967296)), (58, .string (a0.extract 20 (t149 : Int).toNat)), (59, .agg #[.int .i64 (wrap64 (bt a0 1)), .int .i64 t146, .bool ((Go.bits .and .i64 t145 8192) != 0), .bool ((Go.bits .and .i64 t145 16384) != 0), .int .i64 (wrap64 ((Go.bits .and .i64 t145 8191) * 8)), .int .i64 (wrap64 (bt a0 8)), .int .i64 (wrap64 (bt a0 9)), .int .u32 ((t147) % 4294967296), .int .u32 ((t148) % 4294967296), .string (a0.extract 20 (t149 : Int).toNat)])]) (fun s_ w' => (w'.heap[gb144]? = some (.cells #[.int .i64 0, .int .i64 0, .bool false, .bool false, .int .i64 0, .int .i64 0, .int .i64 0, .int .u32 0, .int .u32 0, .string (⟨#[]⟩ : ByteArray)] 24 (0, 0))) ∧ (w'.heap[s_]? = some (.cells #[.int .i64 0, .int .i64 0, .bool false, .bool false, .int .i64 0, .int .i64 0, .int .i64 0, .int .u32 0, .int .u32 0, .string (⟨#[]⟩ : ByteArray)] 24 (0, 0))) ∧ (w.heap.size ≤ s_) ∧ (w.heap.size ≤ s_) ∧ (gb144 ≠ s_) ∧ (s_ ≠ gb144) ∧ (Below w.heap.size w w')) ?_ ?_
                 rotate_left
                 ·
                  intro hJ5_23_27_31_34
                  refine join_ (σ := Unit) 2 #[true, true, true, true, true, true, true, true, true, true, true, true, true, true, true, true, true, true, true, true, true, true, true, true, true, true, true, true, true, true, true, true, true, true, false, false] (fun s_ => [(31, .int .i64 t146), (49, .int .i64 t147), (53, .int .i64 t148), (57, .int .i64 t149), (50, .int .u32 ((t147) % 4294967296)), (54, .int .u32 ((t148) % 4294967296)), (58, .string (a0.extract 20 (t149 : Int).toNat)), (59, .agg #[.int .i64 (wrap64 (bt a0 1)), .int .i64 t146, .bool ((Go.bits .and .i64 t145 8192) != 0), .bool ((Go.bits .and .i64 t145 16384) != 0), .int .i64 (wrap64 ((Go.bits .and .i64 t145 8191) * 8)), .int .i64 (wrap64 (bt a0 8)), .int .i64 (wrap64 (bt a0 9)), .int .u32 ((t147) % 4294967296), .int .u32 ((t148) % 4294967296), .string (a0.extract 20 (t149 : Int).toNat)])]) (fun s_ w' => (w'.heap[gb144]? = some (.cells #[.int .i64 0, .int .i64 0, .bool false, .bool false, .int .i64 0, .int .i64 0, .int .i64 0, .int .u32 0, .int .u32 0, .string (⟨#[]⟩ : ByteArray)] 24 (0, 0))) ∧ (Below w.heap.size w w')) ?_ ?_
                  rotate_left
                  ·
                   intro hJ5_23_27_31
                   refine join_ (σ := Nat) 4 #[true, true, true, true, true, true, true, true, true, true, true, true, true, true, true, true, true, true, true, true, true, true, true, true, true, true, true, true, true, true, true, false, false, false, true, false] (fun s_ => [(31, .int .i64 t146), (49, .int .i64 t147), (53, .int .i64 t148), (8, .pointer (some ⟨s_, 0, none⟩)), (50, .int .u32 ((t147) % 4294967296)), (54, .int .u32 ((t148) % 4294967296))]) (fun s_ w' => (w'.heap[gb144]? = some (.cells #[.int .i64 0, .int .i64 0, .bool false, .bool false, .int .i64 0, .int .i64 0, .int .i64 0, .int .u32 0, .int .u32 0, .string (⟨#[]⟩ : ByteArray)] 24 (0, 0))) ∧ (w'.heap[s_]? = some (.cells #[.int .i64 0, .int .i64 0, .bool false, .bool false, .int .i64 0, .int .i64 0, .int .i64 0, .int .u32 0, .int .u32 0, .string (⟨#[]⟩ : ByteArray)] 24 (0, 0))) ∧ (w.heap.size ≤ s_) ∧ (w.heap.size ≤ s_) ∧ (gb144 ≠ s_) ∧ (s_ ≠ gb144) ∧ (Below w.heap.size w w')) ?_ ?_
                   rotate_left
                   ·
                    intro hJ5_23_27_34
                    refine join_ (σ := Unit) 5 #[true, true, true, true, true, true, true, true, true, true, true, true, true, true, true, true, true, true, true, true, true, true, true, true, true, true, true, true, true, true, true, false, false, false, false, false] (fun s_ => [(31, .int .i64 t146), (49, .int .i64 t147), (53, .int .i64 t148), (50, .int .u32 ((t147) % 4294967296)), (54, .int .u32 ((t148) % 4294967296))]) (fun s_ w' => (w'.heap[gb144]? = some (.cells #[.int .i64 0, .int .i64 0, .bool false, .bool false, .int .i64 0, .int .i64 0, .int .i64 0, .int .u32 0, .int .u32 0, .string (⟨#[]⟩ : ByteArray)] 24 (0, 0))) ∧ (Below w.heap.size w w')) ?_ ?_
                    rotate_left
                    ·
                     intro hJ5_23_27
                     refine join_ (σ := Nat) 6 #[true, true, true, true, true, true, true, true, true, true, true, true, true, true, true, true, true, true, true, true, true, true, true, true, true, true, true, false, false, true, true, false, false, false, true, false] (fun s_ => [(31, .int .i64 t146), (49, .int .i64 t147), (8, .pointer (some ⟨s_, 0, none⟩)), (50, .int .u32 ((t147) % 4294967296))]) (fun s_ w' => (w'.heap[gb144]? = some (.cells #[.int .i64 0, .int .i64 0, .bool false, .bool false, .int .i64 0, .int .i64 0, .int .i64 0, .int .u32 0, .int .u32 0, .string (⟨#[]⟩ : ByteArray)] 24 (0, 0))) ∧ (w'.heap[s_]? = some (.cells #[.int .i64 0, .int .i64 0, .bool false, .bool false, .int .i64 0, .int .i64 0, .int .i64 0, .int .u32 0, .int .u32 0, .string (⟨#[]⟩ : ByteArray)] 24 (0, 0))) ∧ (w.heap.size ≤ s_) ∧ (w.heap.size ≤ s_) ∧ (gb144 ≠ s_) ∧ (s_ ≠ gb144) ∧ (Below w.heap.size w w')) ?_ ?_
                     rotate_left
                     ·
                      intro hJ5_23_34
                      refine join_ (σ := Unit) 7 #[true, true, true, true, true, true, true, true, true, true, true, true, true, true, true, true, true, true, true, true, true, true, true, true, true, true, true, false, false, true, true, false, false, false, false, false] (fun s_ => [(31, .int .i64 t146), (49, .int .i64 t147), (50, .int .u32 ((t147) % 4294967296))]) (fun s_ w' => (w'.heap[gb144]? = some (.cells #[.int .i64 0, .int .i64 0, .bool false, .bool false, .int .i64 0, .int .i64 0, .int .i64 0, .int .u32 0, .int .u32 0, .string (⟨#[]⟩ : ByteArray)] 24 (0, 0))) ∧ (Below w.heap.size w w')) ?_ ?_
                      rotate_left
                      ·
                       intro hJ5_23
                       refine join_ (σ := Nat) 8 #[true, true, true, true, true, true, true, true, true, true, true, true, true, true, true, true, true, true, true, true, true, true, true, false, false, true, true, false, false, true, true, false, false, false, true, false] (fun s_ => [(31, .int .i64 t146), (8, .pointer (some ⟨s_, 0, none⟩))]) (fun s_ w' => (w'.heap[gb144]? = some (.cells #[.int .i64 0, .int .i64 0, .bool false, .bool false, .int .i64 0, .int .i64 0, .int .i64 0, .int .u32 0, .int .u32 0, .string (⟨#[]⟩ : ByteArray)] 24 (0, 0))) ∧ (w'.heap[s_]? = some (.cells #[.int .i64 0, .int .i64 0, .bool false, .bool false, .int .i64 0, .int .i64 0, .int .i64 0, .int .u32 0, .int .u32 0, .string (⟨#[]⟩ : ByteArray)] 24 (0, 0))) ∧ (w.heap.size ≤ s_) ∧ (w.heap.size ≤ s_) ∧ (gb144 ≠ s_) ∧ (s_ ≠ gb144) ∧ (Below w.heap.size w w')) ?_ ?_
                       rotate_left
                       ·
                        intro hJ5_34
                        refine join_ (σ := Unit) 9 #[true, true, true, true, true, true, true, true, true, true, true, true, true, true, true, true, true, true, true, true, true, true, true, false, false, true, true, false, false, true, true, false, false, false, false, false] (fun s_ => [(31, .int .i64 t146)]) (fun s_ w' => (w'.heap[gb144]? = some (.cells #[.int .i64 0, .int .i64 0, .bool false, .bool false, .int .i64 0, .int .i64 0, .int .i64 0, .int .u32 0, .int .u32 0, .string (⟨#[]⟩ : ByteArray)] 24 (0, 0))) ∧ (Below w.heap.size w w')) ?_ ?_
                        rotate_left
                        ·
                         intro hJ5
                         refine join_ (σ := Nat) 9 #[true, true, true, true, true, false, true, true, true, true, true, true, true, true, true, true, true, true, true, true, true, true, true, false, false, true, true, false, false, true, true, false, false, false, true, false] (fun s_ => [(8, .pointer (some ⟨s_, 0, none⟩))]) (fun s_ w' => (w'.heap[gb144]? = some (.cells #[.int .i64 0, .int .i64 0, .bool false, .bool false, .int .i64 0, .int .i64 0, .int .i64 0, .int .u32 0, .int .u32 0, .string (⟨#[]⟩ : ByteArray)] 24 (0, 0))) ∧ (w'.heap[s_]? = some (.cells #[.int .i64 0, .int .i64 0, .bool false, .bool false, .int .i64 0, .int .i64 0, .int .i64 0, .int .u32 0, .int .u32 0, .string (⟨#[]⟩ : ByteArray)] 24 (0, 0))) ∧ (w.heap.size ≤ s_) ∧ (w.heap.size ≤ s_) ∧ (gb144 ≠ s_) ∧ (s_ ≠ gb144) ∧ (Below w.heap.size w w')) ?_ ?_
                         rotate_left
                         ·
                          intro hJ34
                          refine two_ (i := 5) (j := 34) (Ni := some 31) (Nj := some 8) #[true, true, true, true, true, true, true, true, true, true, true, true, true, true, true, true, true, true, true, true, true, true, true, false, false, true, true, false, false, true, true, false, false, false, false, false] #[true, true, true, true, true, false, true, true, true, true, true, true, true, true, true, true, true, true, true, true, true, true, true, false, false, true, true, false, false, true, true, false, false, false, true, false] rfl rfl rfl rfl (two_of HT_.out (by kernel_rfl)) (by decide) (by decide) (fun K hK => ?_) (fun K hK => ?_)
                          ·
                           skip
                           refine goes_ Try.func48 (by kernel_rfl) rfl #[.string (a0.extract 4 6)] (by rfl) rfl rfl (by (try simp only [List.map_toArray, List.map_cons, List.map_nil]); first | done | rfl | (simp only [List.length_drop, List.length_take]; rfl)) ?_
                           with_reducible refine (sum_Num.calls (a0.extract 4 6) t146 _ A9.out).mono ?_
                           rintro e w31 ⟨rfl, hb⟩
                           refine ⟨_, rfl, ?_⟩
                           have n0_ := Aside0.mk (blk_below (g := gb144) (o := .cells #[.int .i64 0, .int .i64 0, .bool false, .bool false, .int .i64 0, .int .i64 0, .int .i64 0, .int .u32 0, .int .u32 0, .string (⟨#[]⟩ : ByteArray)] 24 (0, 0)) (by (with_reducible repeat (first | refine blk_drewN ?_ _ | refine blk_drew ?_ | refine blk_alloc ?_ _)); exact BK144.out) hb)
                           have n1_ := Aside0.mk (below_step (by repeat (first | (with_reducible first | exact HB.out | apply below_alloc | apply pw_below_drewN | apply below_drew1 | refine below_set ?_ GE144.out) | exact HB.out)) hb)
                           clear BK144
                           clear HB
                           have BK144 := n0_
                           have HB := n1_
                           clear n0_ n1_
                           (try clear hb)
                           (try clear hb2)
                           (try clear hk)
                           (try clear hi)
                           refine hK.out _ _ trivial (fun hHeld => ?_)
                           clear hK K
                           refine norm_ (a' := ?_) ?_ ?_
                           rotate_left
                           ·
                            show Act.put _ (some 31) _ = _
                            simp only [Act.put, List.setIfInBounds_toArray, List.set_cons_zero, List.set_cons_succ, i64_w, i32_w]
                            rfl
                           exact norm_ (by first | (simp only [putAll, Act.put, List.setIfInBounds_toArray, List.set_cons_zero, List.set_cons_succ]; done) | (simp only [putAll, Act.put, List.setIfInBounds_toArray, List.set_cons_zero, List.set_cons_succ]; rfl)) (hJ5 () _ ⟨(by (with_reducible repeat (first | refine blk_drewN ?_ _ | refine blk_drew ?_ | refine blk_alloc ?_ _)); exact BK144.out), (by repeat (first | (with_reducible first | exact HB.out | apply below_alloc | apply pw_below_drewN | apply below_drew1 | refine below_set ?_ GE144.out) | exact HB.out))⟩)
                          ·
                           skip
                           refine box_step ?hg (N := 8) ?hd (cs := #[.int .i64 0, .int .i64 0, .bool false, .bool false, .int .i64 0, .int .i64 0, .int .i64 0, .int .u32 0, .int .u32 0, .string (⟨#[]⟩ : ByteArray)]) (t := 24) ?hr ?_; (case hd => rfl); (case hg => rfl); (case hr => first | (go_simp; done) | (go_simp; rfl))
                           intro gb150 hg w31 hbox hb
                           have n0_ := Aside0.mk (blk_below (g := gb144) (o := .cells #[.int .i64 0, .int .i64 0, .bool false, .bool false, .int .i64 0, .int .i64 0, .int .i64 0, .int .u32 0, .int .u32 0, .string (⟨#[]⟩ : ByteArray)] 24 (0, 0)) (by (with_reducible repeat (first | refine blk_drewN ?_ _ | refine blk_drew ?_ | refine blk_alloc ?_ _)); exact BK144.out) hb)
                           have n1_ := Aside0.mk (below_step (by repeat (first | (with_reducible first | exact HB.out | apply below_alloc | apply pw_below_drewN | apply below_drew1 | refine below_set ?_ GE144.out) | exact HB.out)) hb)
                           have n2_ := Aside0.mk (hbox)
                           have n3_ := Aside0.mk ((by rw [hg]; exact (below_size (by repeat (first | (with_reducible first | exact HB.out | apply below_alloc | apply pw_below_drewN | apply below_drew1 | refine below_set ?_ GE144.out) | exact HB.out))) : w.heap.size ≤ gb150))
                           have n4_ := Aside0.mk ((by rw [hg]; exact (below_size (by repeat (first | (with_reducible first | exact HB.out | apply below_alloc | apply pw_below_drewN | apply below_drew1 | refine below_set ?_ GE144.out) | exact HB.out))) : w.heap.size ≤ gb150))
                           have n5_ := Aside0.mk ((by rw [hg]; exact Nat.ne_of_lt (blk_lt (g := gb144) (o := .cells #[.int .i64 0, .int .i64 0, .bool false, .bool false, .int .i64 0, .int .i64 0, .int .i64 0, .int .u32 0, .int .u32 0, .string (⟨#[]⟩ : ByteArray)] 24 (0, 0)) (by (with_reducible repeat (first | refine blk_drewN ?_ _ | refine blk_drew ?_ | refine blk_alloc ?_ _)); exact BK144.out)) : gb144 ≠ gb150))
                           have n6_ := Aside0.mk ((by rw [hg]; exact Nat.ne_of_gt (blk_lt (g := gb144) (o := .cells #[.int .i64 0, .int .i64 0, .bool false, .bool false, .int .i64 0, .int .i64 0, .int .i64 0, .int .u32 0, .int .u32 0, .string (⟨#[]⟩ : ByteArray)] 24 (0, 0)) (by (with_reducible repeat (first | refine blk_drewN ?_ _ | refine blk_drew ?_ | refine blk_alloc ?_ _)); exact BK144.out)) : gb150 ≠ gb144))
                           clear BK144
                           clear HB
                           have BK144 := n0_
                           have HB := n1_
                           have BK150 := n2_
                           have GW150 := n3_
                           have GE150 := n4_
                           have NB144_150 := n5_
                           have NB150_144 := n6_
                           clear n0_ n1_ n2_ n3_ n4_ n5_ n6_
                           clear hb hbox hg
                           refine hK.out _ _ trivial (fun hHeld => ?_)
                           clear hK K
                           refine norm_ (a' := ?_) ?_ ?_
                           rotate_left
                           ·
                            show Act.put _ (some 8) _ = _
                            simp only [Act.put, List.setIfInBounds_toArray, List.set_cons_zero, List.set_cons_succ, i64_w, i32_w]
                            rfl
                           exact norm_ (by first | (simp only [putAll, Act.put, List.setIfInBounds_toArray, List.set_cons_zero, List.set_cons_succ]; done) | (simp only [putAll, Act.put, List.setIfInBounds_toArray, List.set_cons_zero, List.set_cons_succ]; rfl)) (hJ34 (gb150) _ ⟨(by (with_reducible repeat (first | refine blk_drewN ?_ _ | refine blk_drew ?_ | refine blk_alloc ?_ _)); exact BK144.out), (by (with_reducible repeat (first | refine blk_drewN ?_ _ | refine blk_drew ?_ | refine blk_alloc ?_ _)); exact BK150.out), GW150.out, GE150.out, NB144_150.out, NB150_144.out, (by repeat (first | (with_reducible first | exact HB.out | apply below_alloc | apply pw_below_drewN | apply below_drew1 | refine below_set ?_ GE144.out | refine below_set ?_ GE150.out) | exact HB.out))⟩)
                         ·
                          skip
                          rintro gb150 w32 ⟨h0_, h1_, h2_, h3_, h4_, h5_, h6_⟩
                          have n0_ : Aside0 (w32.heap[gb144]? = some (.cells #[.int .i64 0, .int .i64 0, .bool false, .bool false, .int .i64 0, .int .i64 0, .int .i64 0, .int .u32 0, .int .u32 0, .string (⟨#[]⟩ : ByteArray)] 24 (0, 0))) := ⟨h0_⟩
                          have n1_ : Aside0 (w32.heap[gb150]? = some (.cells #[.int .i64 0, .int .i64 0, .bool false, .bool false, .int .i64 0, .int .i64 0, .int .i64 0, .int .u32 0, .int .u32 0, .string (⟨#[]⟩ : ByteArray)] 24 (0, 0))) := ⟨h1_⟩
                          have n2_ : Aside0 (w.heap.size ≤ gb150) := ⟨h2_⟩
                          have n3_ : Aside0 (w.heap.size ≤ gb150) := ⟨h3_⟩
                          have n4_ : Aside0 (gb144 ≠ gb150) := ⟨h4_⟩
                          have n5_ : Aside0 (gb150 ≠ gb144) := ⟨h5_⟩
                          have n6_ : Aside0 (Below w.heap.size w w32) := ⟨h6_⟩
                          clear BK144
                          clear HB
                          clear h0_ h1_ h2_ h3_ h4_ h5_ h6_
                          have BK144 := n0_
                          have BK150 := n1_
                          have GW150 := n2_
                          have GE150 := n3_
                          have NB144_150 := n4_
                          have NB150_144 := n5_
                          have HB := n6_
                          clear n0_ n1_ n2_ n3_ n4_ n5_ n6_
                          have hHeld := trivial
                          refine norm_ (a' := ?_) ?_ ?_
                          rotate_left
                          ·
                           simp only [putAll, Act.put, List.setIfInBounds_toArray, List.set_cons_zero, List.set_cons_succ]
                           rfl
                          refine one_ (i := 5) (N := some 31) #[true, true, true, true, true, true, true, true, true, true, true, true, true, true, true, true, true, true, true, true, true, true, true, false, false, true, true, false, false, true, true, false, false, false, true, false] rfl rfl (one_of HT_.out (by kernel_rfl)) (by decide) (fun K hK => ?_)
                          refine goes_ Try.func48 (by kernel_rfl) rfl #[.string (a0.extract 4 6)] (by rfl) rfl rfl (by (try simp only [List.map_toArray, List.map_cons, List.map_nil]); first | done | rfl | (simp only [List.length_drop, List.length_take]; rfl)) ?_
                          with_reducible refine (sum_Num.calls (a0.extract 4 6) t146 _ A9.out).mono ?_
                          rintro e w33 ⟨rfl, hb⟩
                          refine ⟨_, rfl, ?_⟩
                          have n0_ := Aside0.mk (blk_below (g := gb144) (o := .cells #[.int .i64 0, .int .i64 0, .bool false, .bool false, .int .i64 0, .int .i64 0, .int .i64 0, .int .u32 0, .int .u32 0, .string (⟨#[]⟩ : ByteArray)] 24 (0, 0)) (by (with_reducible repeat (first | refine blk_drewN ?_ _ | refine blk_drew ?_ | refine blk_alloc ?_ _)); exact BK144.out) hb)
                          have n1_ := Aside0.mk (blk_below (g := gb150) (o := .cells #[.int .i64 0, .int .i64 0, .bool false, .bool false, .int .i64 0, .int .i64 0, .int .i64 0, .int .u32 0, .int .u32 0, .string (⟨#[]⟩ : ByteArray)] 24 (0, 0)) (by (with_reducible repeat (first | refine blk_drewN ?_ _ | refine blk_drew ?_ | refine blk_alloc ?_ _)); exact BK150.out) hb)
                          have n2_ := Aside0.mk (below_step (by repeat (first | (with_reducible first | exact HB.out | apply below_alloc | apply pw_below_drewN | apply below_drew1 | refine below_set ?_ GE144.out | refine below_set ?_ GE150.out) | exact HB.out)) hb)
                          clear BK144
                          clear BK150
                          clear HB
                          have BK144 := n0_
                          have BK150 := n1_
                          have HB := n2_
                          clear n0_ n1_ n2_
                          (try clear hb)
                          (try clear hb2)
                          (try clear hk)
                          (try clear hi)
                          refine hK.out _ _ trivial (fun hHeld => ?_)
                          clear hK K
                          refine norm_ (a' := ?_) ?_ ?_
                          rotate_left
                          ·
                           show Act.put _ (some 31) _ = _
                           simp only [Act.put, List.setIfInBounds_toArray, List.set_cons_zero, List.set_cons_succ, i64_w, i32_w]
                           rfl
                          exact norm_ (by first | (simp only [putAll, Act.put, List.setIfInBounds_toArray, List.set_cons_zero, List.set_cons_succ]; done) | (simp only [putAll, Act.put, List.setIfInBounds_toArray, List.set_cons_zero, List.set_cons_succ]; rfl)) (hJ5_34 (gb150) _ ⟨(by (with_reducible repeat (first | refine blk_drewN ?_ _ | refine blk_drew ?_ | refine blk_alloc ?_ _)); exact BK144.out), (by (with_reducible repeat (first | refine blk_drewN ?_ _ | refine blk_drew ?_ | refine blk_alloc ?_ _)); exact BK150.out), GW150.out, GE150.out, NB144_150.out, NB150_144.out, (by repeat (first | (with_reducible first | exact HB.out | apply below_alloc | apply pw_below_drewN | apply below_drew1 | refine below_set ?_ GE144.out | refine below_set ?_ GE150.out) | exact HB.out))⟩)
                        ·
                         skip
                         rintro _ w32 ⟨h0_, h1_⟩
                         have n0_ : Aside0 (w32.heap[gb144]? = some (.cells #[.int .i64 0, .int .i64 0, .bool false, .bool false, .int .i64 0, .int .i64 0, .int .i64 0, .int .u32 0, .int .u32 0, .string (⟨#[]⟩ : ByteArray)] 24 (0, 0))) := ⟨h0_⟩
                         have n1_ : Aside0 (Below w.heap.size w w32) := ⟨h1_⟩
                         clear BK144
                         clear HB
                         clear h0_ h1_
                         have BK144 := n0_
                         have HB := n1_
                         clear n0_ n1_
                         have hHeld := trivial
                         refine norm_ (a' := ?_) ?_ ?_
                         rotate_left
                         ·
                          simp only [putAll, Act.put, List.setIfInBounds_toArray, List.set_cons_zero, List.set_cons_succ]
                          rfl
                         refine two_ (i := 23) (j := 34) (Ni := some 49) (Nj := some 8) #[true, true, true, true, true, true, true, true, true, true, true, true, true, true, true, true, true, true, true, true, true, true, true, true, false, true, true, false, false, true, true, false, false, false, false, false] #[true, true, true, true, true, true, true, true, true, true, true, true, true, true, true, true, true, true, true, true, true, true, true, false, false, true, true, false, false, true, true, false, false, false, true, false] rfl rfl rfl rfl (two_of HT_.out (by kernel_rfl)) (by decide) (by decide) (fun K hK => ?_) (fun K hK => ?_)
                         ·
                          skip
                          refine goes_ Try.func48 (by kernel_rfl) rfl #[.string (a0.extract 12 16)] (by rfl) rfl rfl (by (try simp only [List.map_toArray, List.map_cons, List.map_nil]); first | done | rfl | (simp only [List.length_drop, List.length_take]; rfl)) ?_
                          with_reducible refine (sum_Num.calls (a0.extract 12 16) t147 _ A16.out).mono ?_
                          rintro e w33 ⟨rfl, hb⟩
                          refine ⟨_, rfl, ?_⟩
                          have n0_ := Aside0.mk (blk_below (g := gb144) (o := .cells #[.int .i64 0, .int .i64 0, .bool false, .bool false, .int .i64 0, .int .i64 0, .int .i64 0, .int .u32 0, .int .u32 0, .string (⟨#[]⟩ : ByteArray)] 24 (0, 0)) (by (with_reducible repeat (first | refine blk_drewN ?_ _ | refine blk_drew ?_ | refine blk_alloc ?_ _)); exact BK144.out) hb)
                          have n1_ := Aside0.mk (below_step (by repeat (first | (with_reducible first | exact HB.out | apply below_alloc | apply pw_below_drewN | apply below_drew1 | refine below_set ?_ GE144.out) | exact HB.out)) hb)
                          clear BK144
                          clear HB
                          have BK144 := n0_
                          have HB := n1_
                          clear n0_ n1_
                          (try clear hb)
                          (try clear hb2)
                          (try clear hk)
                          (try clear hi)
                          refine hK.out _ _ trivial (fun hHeld => ?_)
                          clear hK K
                          refine norm_ (a' := ?_) ?_ ?_
                          rotate_left
                          ·
                           show Act.put _ (some 49) _ = _
                           simp only [Act.put, List.setIfInBounds_toArray, List.set_cons_zero, List.set_cons_succ, i64_w, i32_w]
                           rfl
                          refine pure_ (i := 24) (N := some 50) (v := ?_) (a' := ?_) #[true, true, true, true, true, true, true, true, true, true, true, true, true, true, true, true, true, true, true, true, true, true, true, true, true, true, true, false, false, true, true, false, false, false, false, false] rfl rfl (any_of HT_.out (by kernel_rfl)) (fun _ _ _ h => h) (Or.inl ⟨by rfl, ?_⟩) ?_ ?_
                          rotate_left
                          ·
                           intro w'
                           go_simp
                           with_reducible rfl
                          rotate_left
                          ·
                           simp only [Act.put, List.setIfInBounds_toArray, List.set_cons_zero, List.set_cons_succ, i64_w, i32_w]
                           rfl
                          exact norm_ (by first | (simp only [putAll, Act.put, List.setIfInBounds_toArray, List.set_cons_zero, List.set_cons_succ]; done) | (simp only [putAll, Act.put, List.setIfInBounds_toArray, List.set_cons_zero, List.set_cons_succ]; rfl)) (hJ5_23 () _ ⟨(by (with_reducible repeat (first | refine blk_drewN ?_ _ | refine blk_drew ?_ | refine blk_alloc ?_ _)); exact BK144.out), (by repeat (first | (with_reducible first | exact HB.out | apply below_alloc | apply pw_below_drewN | apply below_drew1 | refine below_set ?_ GE144.out) | exact HB.out))⟩)
                         ·
                          skip
                          refine box_step ?hg (N := 8) ?hd (cs := #[.int .i64 0, .int .i64 0, .bool false, .bool false, .int .i64 0, .int .i64 0, .int .i64 0, .int .u32 0, .int .u32 0, .string (⟨#[]⟩ : ByteArray)]) (t := 24) ?hr ?_; (case hd => rfl); (case hg => rfl); (case hr => first | (go_simp; done) | (go_simp; rfl))
                          intro gb150 hg w33 hbox hb
                          have n0_ := Aside0.mk (blk_below (g := gb144) (o := .cells #[.int .i64 0, .int .i64 0, .bool false, .bool false, .int .i64 0, .int .i64 0, .int .i64 0, .int .u32 0, .int .u32 0, .string (⟨#[]⟩ : ByteArray)] 24 (0, 0)) (by (with_reducible repeat (first | refine blk_drewN ?_ _ | refine blk_drew ?_ | refine blk_alloc ?_ _)); exact BK144.out) hb)
                          have n1_ := Aside0.mk (below_step (by repeat (first | (with_reducible first | exact HB.out | apply below_alloc | apply pw_below_drewN | apply below_drew1 | refine below_set ?_ GE144.out) | exact HB.out)) hb)
                          have n2_ := Aside0.mk (hbox)
                          have n3_ := Aside0.mk ((by rw [hg]; exact (below_size (by repeat (first | (with_reducible first | exact HB.out | apply below_alloc | apply pw_below_drewN | apply below_drew1 | refine below_set ?_ GE144.out) | exact HB.out))) : w.heap.size ≤ gb150))
                          have n4_ := Aside0.mk ((by rw [hg]; exact (below_size (by repeat (first | (with_reducible first | exact HB.out | apply below_alloc | apply pw_below_drewN | apply below_drew1 | refine below_set ?_ GE144.out) | exact HB.out))) : w.heap.size ≤ gb150))
                          have n5_ := Aside0.mk ((by rw [hg]; exact Nat.ne_of_lt (blk_lt (g := gb144) (o := .cells #[.int .i64 0, .int .i64 0, .bool false, .bool false, .int .i64 0, .int .i64 0, .int .i64 0, .int .u32 0, .int .u32 0, .string (⟨#[]⟩ : ByteArray)] 24 (0, 0)) (by (with_reducible repeat (first | refine blk_drewN ?_ _ | refine blk_drew ?_ | refine blk_alloc ?_ _)); exact BK144.out)) : gb144 ≠ gb150))
                          have n6_ := Aside0.mk ((by rw [hg]; exact Nat.ne_of_gt (blk_lt (g := gb144) (o := .cells #[.int .i64 0, .int .i64 0, .bool false, .bool false, .int .i64 0, .int .i64 0, .int .i64 0, .int .u32 0, .int .u32 0, .string (⟨#[]⟩ : ByteArray)] 24 (0, 0)) (by (with_reducible repeat (first | refine blk_drewN ?_ _ | refine blk_drew ?_ | refine blk_alloc ?_ _)); exact BK144.out)) : gb150 ≠ gb144))
                          clear BK144
                          clear HB
                          have BK144 := n0_
                          have HB := n1_
                          have BK150 := n2_
                          have GW150 := n3_
                          have GE150 := n4_
                          have NB144_150 := n5_
                          have NB150_144 := n6_
                          clear n0_ n1_ n2_ n3_ n4_ n5_ n6_
                          clear hb hbox hg
                          refine hK.out _ _ trivial (fun hHeld => ?_)
                          clear hK K
                          refine norm_ (a' := ?_) ?_ ?_
                          rotate_left
                          ·
                           show Act.put _ (some 8) _ = _
                           simp only [Act.put, List.setIfInBounds_toArray, List.set_cons_zero, List.set_cons_succ, i64_w, i32_w]
                           rfl
                          exact norm_ (by first | (simp only [putAll, Act.put, List.setIfInBounds_toArray, List.set_cons_zero, List.set_cons_succ]; done) | (simp only [putAll, Act.put, List.setIfInBounds_toArray, List.set_cons_zero, List.set_cons_succ]; rfl)) (hJ5_34 (gb150) _ ⟨(by (with_reducible repeat (first | refine blk_drewN ?_ _ | refine blk_drew ?_ | refine blk_alloc ?_ _)); exact BK144.out), (by (with_reducible repeat (first | refine blk_drewN ?_ _ | refine blk_drew ?_ | refine blk_alloc ?_ _)); exact BK150.out), GW150.out, GE150.out, NB144_150.out, NB150_144.out, (by repeat (first | (with_reducible first | exact HB.out | apply below_alloc | apply pw_below_drewN | apply below_drew1 | refine below_set ?_ GE144.out | refine below_set ?_ GE150.out) | exact HB.out))⟩)
                       ·
                        skip
                        rintro gb150 w33 ⟨h0_, h1_, h2_, h3_, h4_, h5_, h6_⟩
                        have n0_ : Aside0 (w33.heap[gb144]? = some (.cells #[.int .i64 0, .int .i64 0, .bool false, .bool false, .int .i64 0, .int .i64 0, .int .i64 0, .int .u32 0, .int .u32 0, .string (⟨#[]⟩ : ByteArray)] 24 (0, 0))) := ⟨h0_⟩
                        have n1_ : Aside0 (w33.heap[gb150]? = some (.cells #[.int .i64 0, .int .i64 0, .bool false, .bool false, .int .i64 0, .int .i64 0, .int .i64 0, .int .u32 0, .int .u32 0, .string (⟨#[]⟩ : ByteArray)] 24 (0, 0))) := ⟨h1_⟩
                        have n2_ : Aside0 (w.heap.size ≤ gb150) := ⟨h2_⟩
                        have n3_ : Aside0 (w.heap.size ≤ gb150) := ⟨h3_⟩
                        have n4_ : Aside0 (gb144 ≠ gb150) := ⟨h4_⟩
                        have n5_ : Aside0 (gb150 ≠ gb144) := ⟨h5_⟩
                        have n6_ : Aside0 (Below w.heap.size w w33) := ⟨h6_⟩
                        clear BK144
                        clear HB
                        clear h0_ h1_ h2_ h3_ h4_ h5_ h6_
                        have BK144 := n0_
                        have BK150 := n1_
                        have GW150 := n2_
                        have GE150 := n3_
                        have NB144_150 := n4_
                        have NB150_144 := n5_
                        have HB := n6_
                        clear n0_ n1_ n2_ n3_ n4_ n5_ n6_
                        have hHeld := trivial
                        refine norm_ (a' := ?_) ?_ ?_
                        rotate_left
                        ·
                         simp only [putAll, Act.put, List.setIfInBounds_toArray, List.set_cons_zero, List.set_cons_succ]
                         rfl
                        refine one_ (i := 23) (N := some 49) #[true, true, true, true, true, true, true, true, true, true, true, true, true, true, true, true, true, true, true, true, true, true, true, true, false, true, true, false, false, true, true, false, false, false, true, false] rfl rfl (one_of HT_.out (by kernel_rfl)) (by decide) (fun K hK => ?_)
                        refine goes_ Try.func48 (by kernel_rfl) rfl #[.string (a0.extract 12 16)] (by rfl) rfl rfl (by (try simp only [List.map_toArray, List.map_cons, List.map_nil]); first | done | rfl | (simp only [List.length_drop, List.length_take]; rfl)) ?_
                        with_reducible refine (sum_Num.calls (a0.extract 12 16) t147 _ A16.out).mono ?_
                        rintro e w34 ⟨rfl, hb⟩
                        refine ⟨_, rfl, ?_⟩
                        have n0_ := Aside0.mk (blk_below (g := gb144) (o := .cells #[.int .i64 0, .int .i64 0, .bool false, .bool false, .int .i64 0, .int .i64 0, .int .i64 0, .int .u32 0, .int .u32 0, .string (⟨#[]⟩ : ByteArray)] 24 (0, 0)) (by (with_reducible repeat (first | refine blk_drewN ?_ _ | refine blk_drew ?_ | refine blk_alloc ?_ _)); exact BK144.out) hb)
                        have n1_ := Aside0.mk (blk_below (g := gb150) (o := .cells #[.int .i64 0, .int .i64 0, .bool false, .bool false, .int .i64 0, .int .i64 0, .int .i64 0, .int .u32 0, .int .u32 0, .string (⟨#[]⟩ : ByteArray)] 24 (0, 0)) (by (with_reducible repeat (first | refine blk_drewN ?_ _ | refine blk_drew ?_ | refine blk_alloc ?_ _)); exact BK150.out) hb)
                        have n2_ := Aside0.mk (below_step (by repeat (first | (with_reducible first | exact HB.out | apply below_alloc | apply pw_below_drewN | apply below_drew1 | refine below_set ?_ GE144.out | refine below_set ?_ GE150.out) | exact HB.out)) hb)
                        clear BK144
                        clear BK150
                        clear HB
                        have BK144 := n0_
                        have BK150 := n1_
                        have HB := n2_
                        clear n0_ n1_ n2_
                        (try clear hb)
                        (try clear hb2)
                        (try clear hk)
                        (try clear hi)
                        refine hK.out _ _ trivial (fun hHeld => ?_)
                        clear hK K
                        refine norm_ (a' := ?_) ?_ ?_
                        rotate_left
                        ·
                         show Act.put _ (some 49) _ = _
                         simp only [Act.put, List.setIfInBounds_toArray, List.set_cons_zero, List.set_cons_succ, i64_w, i32_w]
                         rfl
                        refine pure_ (i := 24) (N := some 50) (v := ?_) (a' := ?_) #[true, true, true, true, true, true, true, true, true, true, true, true, true, true, true, true, true, true, true, true, true, true, true, true, true, true, true, false, false, true, true, false, false, false, true, false] rfl rfl (any_of HT_.out (by kernel_rfl)) (fun _ _ _ h => h) (Or.inl ⟨by rfl, ?_⟩) ?_ ?_
                        rotate_left
                        ·
                         intro w'
                         go_simp
                         with_reducible rfl
                        rotate_left
                        ·
                         simp only [Act.put, List.setIfInBounds_toArray, List.set_cons_zero, List.set_cons_succ, i64_w, i32_w]
                         rfl
                        exact norm_ (by first | (simp only [putAll, Act.put, List.setIfInBounds_toArray, List.set_cons_zero, List.set_cons_succ]; done) | (simp only [putAll, Act.put, List.setIfInBounds_toArray, List.set_cons_zero, List.set_cons_succ]; rfl)) (hJ5_23_34 (gb150) _ ⟨(by (with_reducible repeat (first | refine blk_drewN ?_ _ | refine blk_drew ?_ | refine blk_alloc ?_ _)); exact BK144.out), (by (with_reducible repeat (first | refine blk_drewN ?_ _ | refine blk_drew ?_ | refine blk_alloc ?_ _)); exact BK150.out), GW150.out, GE150.out, NB144_150.out, NB150_144.out, (by repeat (first | (with_reducible first | exact HB.out | apply below_alloc | apply pw_below_drewN | apply below_drew1 | refine below_set ?_ GE144.out | refine below_set ?_ GE150.out) | exact HB.out))⟩)
                      ·
                       skip
                       rintro _ w33 ⟨h0_, h1_⟩
                       have n0_ : Aside0 (w33.heap[gb144]? = some (.cells #[.int .i64 0, .int .i64 0, .bool false, .bool false, .int .i64 0, .int .i64 0, .int .i64 0, .int .u32 0, .int .u32 0, .string (⟨#[]⟩ : ByteArray)] 24 (0, 0))) := ⟨h0_⟩
                       have n1_ : Aside0 (Below w.heap.size w w33) := ⟨h1_⟩
                       clear BK144
                       clear HB
                       clear h0_ h1_
                       have BK144 := n0_
                       have HB := n1_
                       clear n0_ n1_
                       have hHeld := trivial
                       refine norm_ (a' := ?_) ?_ ?_
                       rotate_left
                       ·
                        simp only [putAll, Act.put, List.setIfInBounds_toArray, List.set_cons_zero, List.set_cons_succ]
                        rfl
                       refine two_ (i := 27) (j := 34) (Ni := some 53) (Nj := some 8) #[true, true, true, true, true, true, true, true, true, true, true, true, true, true, true, true, true, true, true, true, true, true, true, true, true, true, true, true, false, true, true, false, false, false, false, false] #[true, true, true, true, true, true, true, true, true, true, true, true, true, true, true, true, true, true, true, true, true, true, true, true, true, true, true, false, false, true, true, false, false, false, true, false] rfl rfl rfl rfl (two_of HT_.out (by kernel_rfl)) (by decide) (by decide) (fun K hK => ?_) (fun K hK => ?_)
                       ·
                        skip
                        refine goes_ Try.func48 (by kernel_rfl) rfl #[.string (a0.extract 16 20)] (by rfl) rfl rfl (by (try simp only [List.map_toArray, List.map_cons, List.map_nil]); first | done | rfl | (simp only [List.length_drop, List.length_take]; rfl)) ?_
                        with_reducible refine (sum_Num.calls (a0.extract 16 20) t148 _ A19.out).mono ?_
                        rintro e w34 ⟨rfl, hb⟩
                        refine ⟨_, rfl, ?_⟩
                        have n0_ := Aside0.mk (blk_below (g := gb144) (o := .cells #[.int .i64 0, .int .i64 0, .bool false, .bool false, .int .i64 0, .int .i64 0, .int .i64 0, .int .u32 0, .int .u32 0, .string (⟨#[]⟩ : ByteArray)] 24 (0, 0)) (by (with_reducible repeat (first | refine blk_drewN ?_ _ | refine blk_drew ?_ | refine blk_alloc ?_ _)); exact BK144.out) hb)
                        have n1_ := Aside0.mk (below_step (by repeat (first | (with_reducible first | exact HB.out | apply below_alloc | apply pw_below_drewN | apply below_drew1 | refine below_set ?_ GE144.out) | exact HB.out)) hb)
                        clear BK144
                        clear HB
                        have BK144 := n0_
                        have HB := n1_
                        clear n0_ n1_
                        (try clear hb)
                        (try clear hb2)
                        (try clear hk)
                        (try clear hi)
                        refine hK.out _ _ trivial (fun hHeld => ?_)
                        clear hK K
                        refine norm_ (a' := ?_) ?_ ?_
                        rotate_left
                        ·
                         show Act.put _ (some 53) _ = _
                         simp only [Act.put, List.setIfInBounds_toArray, List.set_cons_zero, List.set_cons_succ, i64_w, i32_w]
                         rfl
                        refine pure_ (i := 28) (N := some 54) (v := ?_) (a' := ?_) #[true, true, true, true, true, true, true, true, true, true, true, true, true, true, true, true, true, true, true, true, true, true, true, true, true, true, true, true, true, true, true, false, false, false, false, false] rfl rfl (any_of HT_.out (by kernel_rfl)) (fun _ _ _ h => h) (Or.inl ⟨by rfl, ?_⟩) ?_ ?_
                        rotate_left
                        ·
                         intro w'
                         go_simp
                         with_reducible rfl
                        rotate_left
                        ·
                         simp only [Act.put, List.setIfInBounds_toArray, List.set_cons_zero, List.set_cons_succ, i64_w, i32_w]
                         rfl
                        exact norm_ (by first | (simp only [putAll, Act.put, List.setIfInBounds_toArray, List.set_cons_zero, List.set_cons_succ]; done) | (simp only [putAll, Act.put, List.setIfInBounds_toArray, List.set_cons_zero, List.set_cons_succ]; rfl)) (hJ5_23_27 () _ ⟨(by (with_reducible repeat (first | refine blk_drewN ?_ _ | refine blk_drew ?_ | refine blk_alloc ?_ _)); exact BK144.out), (by repeat (first | (with_reducible first | exact HB.out | apply below_alloc | apply pw_below_drewN | apply below_drew1 | refine below_set ?_ GE144.out) | exact HB.out))⟩)
                       ·
                        skip
                        refine box_step ?hg (N := 8) ?hd (cs := #[.int .i64 0, .int .i64 0, .bool false, .bool false, .int .i64 0, .int .i64 0, .int .i64 0, .int .u32 0, .int .u32 0, .string (⟨#[]⟩ : ByteArray)]) (t := 24) ?hr ?_; (case hd => rfl); (case hg => rfl); (case hr => first | (go_simp; done) | (go_simp; rfl))
                        intro gb150 hg w34 hbox hb
                        have n0_ := Aside0.mk (blk_below (g := gb144) (o := .cells #[.int .i64 0, .int .i64 0, .bool false, .bool false, .int .i64 0, .int .i64 0, .int .i64 0, .int .u32 0, .int .u32 0, .string (⟨#[]⟩ : ByteArray)] 24 (0, 0)) (by (with_reducible repeat (first | refine blk_drewN ?_ _ | refine blk_drew ?_ | refine blk_alloc ?_ _)); exact BK144.out) hb)
                        have n1_ := Aside0.mk (below_step (by repeat (first | (with_reducible first | exact HB.out | apply below_alloc | apply pw_below_drewN | apply below_drew1 | refine below_set ?_ GE144.out) | exact HB.out)) hb)
                        have n2_ := Aside0.mk (hbox)
                        have n3_ := Aside0.mk ((by rw [hg]; exact (below_size (by repeat (first | (with_reducible first | exact HB.out | apply below_alloc | apply pw_below_drewN | apply below_drew1 | refine below_set ?_ GE144.out) | exact HB.out))) : w.heap.size ≤ gb150))
                        have n4_ := Aside0.mk ((by rw [hg]; exact (below_size (by repeat (first | (with_reducible first | exact HB.out | apply below_alloc | apply pw_below_drewN | apply below_drew1 | refine below_set ?_ GE144.out) | exact HB.out))) : w.heap.size ≤ gb150))
                        have n5_ := Aside0.mk ((by rw [hg]; exact Nat.ne_of_lt (blk_lt (g := gb144) (o := .cells #[.int .i64 0, .int .i64 0, .bool false, .bool false, .int .i64 0, .int .i64 0, .int .i64 0, .int .u32 0, .int .u32 0, .string (⟨#[]⟩ : ByteArray)] 24 (0, 0)) (by (with_reducible repeat (first | refine blk_drewN ?_ _ | refine blk_drew ?_ | refine blk_alloc ?_ _)); exact BK144.out)) : gb144 ≠ gb150))
                        have n6_ := Aside0.mk ((by rw [hg]; exact Nat.ne_of_gt (blk_lt (g := gb144) (o := .cells #[.int .i64 0, .int .i64 0, .bool false, .bool false, .int .i64 0, .int .i64 0, .int .i64 0, .int .u32 0, .int .u32 0, .string (⟨#[]⟩ : ByteArray)] 24 (0, 0)) (by (with_reducible repeat (first | refine blk_drewN ?_ _ | refine blk_drew ?_ | refine blk_alloc ?_ _)); exact BK144.out)) : gb150 ≠ gb144))
                        clear BK144
                        clear HB
                        have BK144 := n0_
                        have HB := n1_
                        have BK150 := n2_
                        have GW150 := n3_
                        have GE150 := n4_
                        have NB144_150 := n5_
                        have NB150_144 := n6_
                        clear n0_ n1_ n2_ n3_ n4_ n5_ n6_
                        clear hb hbox hg
                        refine hK.out _ _ trivial (fun hHeld => ?_)
                        clear hK K
                        refine norm_ (a' := ?_) ?_ ?_
                        rotate_left
                        ·
                         show Act.put _ (some 8) _ = _
                         simp only [Act.put, List.setIfInBounds_toArray, List.set_cons_zero, List.set_cons_succ, i64_w, i32_w]
                         rfl
                        exact norm_ (by first | (simp only [putAll, Act.put, List.setIfInBounds_toArray, List.set_cons_zero, List.set_cons_succ]; done) | (simp only [putAll, Act.put, List.setIfInBounds_toArray, List.set_cons_zero, List.set_cons_succ]; rfl)) (hJ5_23_34 (gb150) _ ⟨(by (with_reducible repeat (first | refine blk_drewN ?_ _ | refine blk_drew ?_ | refine blk_alloc ?_ _)); exact BK144.out), (by (with_reducible repeat (first | refine blk_drewN ?_ _ | refine blk_drew ?_ | refine blk_alloc ?_ _)); exact BK150.out), GW150.out, GE150.out, NB144_150.out, NB150_144.out, (by repeat (first | (with_reducible first | exact HB.out | apply below_alloc | apply pw_below_drewN | apply below_drew1 | refine below_set ?_ GE144.out | refine below_set ?_ GE150.out) | exact HB.out))⟩)
                     ·
                      skip
                      rintro gb150 w34 ⟨h0_, h1_, h2_, h3_, h4_, h5_, h6_⟩
                      have n0_ : Aside0 (w34.heap[gb144]? = some (.cells #[.int .i64 0, .int .i64 0, .bool false, .bool false, .int .i64 0, .int .i64 0, .int .i64 0, .int .u32 0, .int .u32 0, .string (⟨#[]⟩ : ByteArray)] 24 (0, 0))) := ⟨h0_⟩
                      have n1_ : Aside0 (w34.heap[gb150]? = some (.cells #[.int .i64 0, .int .i64 0, .bool false, .bool false, .int .i64 0, .int .i64 0, .int .i64 0, .int .u32 0, .int .u32 0, .string (⟨#[]⟩ : ByteArray)] 24 (0, 0))) := ⟨h1_⟩
                      have n2_ : Aside0 (w.heap.size ≤ gb150) := ⟨h2_⟩
                      have n3_ : Aside0 (w.heap.size ≤ gb150) := ⟨h3_⟩
                      have n4_ : Aside0 (gb144 ≠ gb150) := ⟨h4_⟩
                      have n5_ : Aside0 (gb150 ≠ gb144) := ⟨h5_⟩
                      have n6_ : Aside0 (Below w.heap.size w w34) := ⟨h6_⟩
                      clear BK144
                      clear HB
                      clear h0_ h1_ h2_ h3_ h4_ h5_ h6_
                      have BK144 := n0_
                      have BK150 := n1_
                      have GW150 := n2_
                      have GE150 := n3_
                      have NB144_150 := n4_
                      have NB150_144 := n5_
                      have HB := n6_
                      clear n0_ n1_ n2_ n3_ n4_ n5_ n6_
                      have hHeld := trivial
                      refine norm_ (a' := ?_) ?_ ?_
                      rotate_left
                      ·
                       simp only [putAll, Act.put, List.setIfInBounds_toArray, List.set_cons_zero, List.set_cons_succ]
                       rfl
                      refine one_ (i := 27) (N := some 53) #[true, true, true, true, true, true, true, true, true, true, true, true, true, true, true, true, true, true, true, true, true, true, true, true, true, true, true, true, false, true, true, false, false, false, true, false] rfl rfl (one_of HT_.out (by kernel_rfl)) (by decide) (fun K hK => ?_)
                      refine goes_ Try.func48 (by kernel_rfl) rfl #[.string (a0.extract 16 20)] (by rfl) rfl rfl (by (try simp only [List.map_toArray, List.map_cons, List.map_nil]); first | done | rfl | (simp only [List.length_drop, List.length_take]; rfl)) ?_
                      with_reducible refine (sum_Num.calls (a0.extract 16 20) t148 _ A19.out).mono ?_
                      rintro e w35 ⟨rfl, hb⟩
                      refine ⟨_, rfl, ?_⟩
                      have n0_ := Aside0.mk (blk_below (g := gb144) (o := .cells #[.int .i64 0, .int .i64 0, .bool false, .bool false, .int .i64 0, .int .i64 0, .int .i64 0, .int .u32 0, .int .u32 0, .string (⟨#[]⟩ : ByteArray)] 24 (0, 0)) (by (with_reducible repeat (first | refine blk_drewN ?_ _ | refine blk_drew ?_ | refine blk_alloc ?_ _)); exact BK144.out) hb)
                      have n1_ := Aside0.mk (blk_below (g := gb150) (o := .cells #[.int .i64 0, .int .i64 0, .bool false, .bool false, .int .i64 0, .int .i64 0, .int .i64 0, .int .u32 0, .int .u32 0, .string (⟨#[]⟩ : ByteArray)] 24 (0, 0)) (by (with_reducible repeat (first | refine blk_drewN ?_ _ | refine blk_drew ?_ | refine blk_alloc ?_ _)); exact BK150.out) hb)
                      have n2_ := Aside0.mk (below_step (by repeat (first | (with_reducible first | exact HB.out | apply below_alloc | apply pw_below_drewN | apply below_drew1 | refine below_set ?_ GE144.out | refine below_set ?_ GE150.out) | exact HB.out)) hb)
                      clear BK144
                      clear BK150
                      clear HB
                      have BK144 := n0_
                      have BK150 := n1_
                      have HB := n2_
                      clear n0_ n1_ n2_
                      (try clear hb)
                      (try clear hb2)
                      (try clear hk)
                      (try clear hi)
                      refine hK.out _ _ trivial (fun hHeld => ?_)
                      clear hK K
                      refine norm_ (a' := ?_) ?_ ?_
                      rotate_left
                      ·
                       show Act.put _ (some 53) _ = _
                       simp only [Act.put, List.setIfInBounds_toArray, List.set_cons_zero, List.set_cons_succ, i64_w, i32_w]
                       rfl
                      refine pure_ (i := 28) (N := some 54) (v := ?_) (a' := ?_) #[true, true, true, true, true, true, true, true, true, true, true, true, true, true, true, true, true, true, true, true, true, true, true, true, true, true, true, true, true, true, true, false, false, false, true, false] rfl rfl (any_of HT_.out (by kernel_rfl)) (fun _ _ _ h => h) (Or.inl ⟨by rfl, ?_⟩) ?_ ?_
                      rotate_left
                      ·
                       intro w'
                       go_simp
                       with_reducible rfl
                      rotate_left
                      ·
                       simp only [Act.put, List.setIfInBounds_toArray, List.set_cons_zero, List.set_cons_succ, i64_w, i32_w]
                       rfl
                      exact norm_ (by first | (simp only [putAll, Act.put, List.setIfInBounds_toArray, List.set_cons_zero, List.set_cons_succ]; done) | (simp only [putAll, Act.put, List.setIfInBounds_toArray, List.set_cons_zero, List.set_cons_succ]; rfl)) (hJ5_23_27_34 (gb150) _ ⟨(by (with_reducible repeat (first | refine blk_drewN ?_ _ | refine blk_drew ?_ | refine blk_alloc ?_ _)); exact BK144.out), (by (with_reducible repeat (first | refine blk_drewN ?_ _ | refine blk_drew ?_ | refine blk_alloc ?_ _)); exact BK150.out), GW150.out, GE150.out, NB144_150.out, NB150_144.out, (by repeat (first | (with_reducible first | exact HB.out | apply below_alloc | apply pw_below_drewN | apply below_drew1 | refine below_set ?_ GE144.out | refine below_set ?_ GE150.out) | exact HB.out))⟩)
                    ·
                     skip
                     rintro _ w34 ⟨h0_, h1_⟩
                     have n0_ : Aside0 (w34.heap[gb144]? = some (.cells #[.int .i64 0, .int .i64 0, .bool false, .bool false, .int .i64 0, .int .i64 0, .int .i64 0, .int .u32 0, .int .u32 0, .string (⟨#[]⟩ : ByteArray)] 24 (0, 0))) := ⟨h0_⟩
                     have n1_ : Aside0 (Below w.heap.size w w34) := ⟨h1_⟩
                     clear BK144
                     clear HB
                     clear h0_ h1_
                     have BK144 := n0_
                     have HB := n1_
                     clear n0_ n1_
                     have hHeld := trivial
                     refine norm_ (a' := ?_) ?_ ?_
                     rotate_left
                     ·
                      simp only [putAll, Act.put, List.setIfInBounds_toArray, List.set_cons_zero, List.set_cons_succ]
                      rfl
                     refine two_ (i := 31) (j := 34) (Ni := some 57) (Nj := some 8) #[true, true, true, true, true, true, true, true, true, true, true, true, true, true, true, true, true, true, true, true, true, true, true, true, true, true, true, true, true, true, true, true, false, false, false, false] #[true, true, true, true, true, true, true, true, true, true, true, true, true, true, true, true, true, true, true, true, true, true, true, true, true, true, true, true, true, true, true, false, false, false, true, false] rfl rfl rfl rfl (two_of HT_.out (by kernel_rfl)) (by decide) (by decide) (fun K hK => ?_) (fun K hK => ?_)
                     ·
                      skip
                      refine goes_ Try.func49 (by kernel_rfl) rfl #[.string a0] (by rfl) rfl rfl (by (try simp only [List.map_toArray, List.map_cons, List.map_nil]); first | done | rfl | (simp only [List.length_drop, List.length_take]; rfl)) ?_
                      with_reducible refine (ipv4_size.calls a0 t149 _ A20.out).mono ?_
                      rintro e w' ⟨rfl, ⟨nd, rfl⟩⟩
                      refine ⟨_, rfl, ?_⟩
                      refine hK.out _ _ trivial (fun hHeld => ?_)
                      clear hK K
                      refine norm_ (a' := ?_) ?_ ?_
                      rotate_left
                      ·
                       show Act.put _ (some 57) _ = _
                       simp only [Act.put, List.setIfInBounds_toArray, List.set_cons_zero, List.set_cons_succ, i64_w, i32_w]
                       rfl
                      refine pure_ (i := 32) (N := some 58) (v := ?_) (a' := ?_) #[true, true, true, true, true, true, true, true, true, true, true, true, true, true, true, true, true, true, true, true, true, true, true, true, true, true, true, true, true, true, true, true, true, false, false, false] rfl rfl (any_of HT_.out (by kernel_rfl)) (fun _ _ _ h => h) (Or.inl ⟨by rfl, ?_⟩) ?_ ?_
                      rotate_left
                      ·
                       intro w'
                       go_simp
                       with_reducible rfl
                      rotate_left
                      ·
                       simp only [Act.put, List.setIfInBounds_toArray, List.set_cons_zero, List.set_cons_succ, i64_w, i32_w]
                       rfl
                      refine pure_ (i := 33) (N := some 59) (v := ?_) (a' := ?_) #[true, true, true, true, true, true, true, true, true, true, true, true, true, true, true, true, true, true, true, true, true, true, true, true, true, true, true, true, true, true, true, true, true, true, false, false] rfl rfl (any_of HT_.out (by kernel_rfl)) (fun _ _ _ h => h) (Or.inl ⟨by rfl, ?_⟩) ?_ ?_
                      rotate_left
                      ·
                       intro w'
                       go_simp
                       with_reducible rfl
                      rotate_left
                      ·
                       simp only [Act.put, List.setIfInBounds_toArray, List.set_cons_zero, List.set_cons_succ, i64_w, i32_w]
                       rfl
                      exact norm_ (by first | (simp only [putAll, Act.put, List.setIfInBounds_toArray, List.set_cons_zero, List.set_cons_succ]; done) | (simp only [putAll, Act.put, List.setIfInBounds_toArray, List.set_cons_zero, List.set_cons_succ]; rfl)) (hJ5_23_27_31 () _ ⟨(by (with_reducible repeat (first | refine blk_drewN ?_ _ | refine blk_drew ?_ | refine blk_alloc ?_ _)); exact BK144.out), (by repeat (first | (with_reducible first | exact HB.out | apply below_alloc | apply pw_below_drewN | apply below_drew1 | refine below_set ?_ GE144.out) | exact HB.out))⟩)
                     ·
                      skip
                      refine box_step ?hg (N := 8) ?hd (cs := #[.int .i64 0, .int .i64 0, .bool false, .bool false, .int .i64 0, .int .i64 0, .int .i64 0, .int .u32 0, .int .u32 0, .string (⟨#[]⟩ : ByteArray)]) (t := 24) ?hr ?_; (case hd => rfl); (case hg => rfl); (case hr => first | (go_simp; done) | (go_simp; rfl))
                      intro gb150 hg w35 hbox hb
                      have n0_ := Aside0.mk (blk_below (g := gb144) (o := .cells #[.int .i64 0, .int .i64 0, .bool false, .bool false, .int .i64 0, .int .i64 0, .int .i64 0, .int .u32 0, .int .u32 0, .string (⟨#[]⟩ : ByteArray)] 24 (0, 0)) (by (with_reducible repeat (first | refine blk_drewN ?_ _ | refine blk_drew ?_ | refine blk_alloc ?_ _)); exact BK144.out) hb)
                      have n1_ := Aside0.mk (below_step (by repeat (first | (with_reducible first | exact HB.out | apply below_alloc | apply pw_below_drewN | apply below_drew1 | refine below_set ?_ GE144.out) | exact HB.out)) hb)
                      have n2_ := Aside0.mk (hbox)
                      have n3_ := Aside0.mk ((by rw [hg]; exact (below_size (by repeat (first | (with_reducible first | exact HB.out | apply below_alloc | apply pw_below_drewN | apply below_drew1 | refine below_set ?_ GE144.out) | exact HB.out))) : w.heap.size ≤ gb150))
                      have n4_ := Aside0.mk ((by rw [hg]; exact (below_size (by repeat (first | (with_reducible first | exact HB.out | apply below_alloc | apply pw_below_drewN | apply below_drew1 | refine below_set ?_ GE144.out) | exact HB.out))) : w.heap.size ≤ gb150))
                      have n5_ := Aside0.mk ((by rw [hg]; exact Nat.ne_of_lt (blk_lt (g := gb144) (o := .cells #[.int .i64 0, .int .i64 0, .bool false, .bool false, .int .i64 0, .int .i64 0, .int .i64 0, .int .u32 0, .int .u32 0, .string (⟨#[]⟩ : ByteArray)] 24 (0, 0)) (by (with_reducible repeat (first | refine blk_drewN ?_ _ | refine blk_drew ?_ | refine blk_alloc ?_ _)); exact BK144.out)) : gb144 ≠ gb150))
                      have n6_ := Aside0.mk ((by rw [hg]; exact Nat.ne_of_gt (blk_lt (g := gb144) (o := .cells #[.int .i64 0, .int .i64 0, .bool false, .bool false, .int .i64 0, .int .i64 0, .int .i64 0, .int .u32 0, .int .u32 0, .string (⟨#[]⟩ : ByteArray)] 24 (0, 0)) (by (with_reducible repeat (first | refine blk_drewN ?_ _ | refine blk_drew ?_ | refine blk_alloc ?_ _)); exact BK144.out)) : gb150 ≠ gb144))
                      clear BK144
                      clear HB
                      have BK144 := n0_
                      have HB := n1_
                      have BK150 := n2_
                      have GW150 := n3_
                      have GE150 := n4_
                      have NB144_150 := n5_
                      have NB150_144 := n6_
                      clear n0_ n1_ n2_ n3_ n4_ n5_ n6_
                      clear hb hbox hg
                      refine hK.out _ _ trivial (fun hHeld => ?_)
                      clear hK K
                      refine norm_ (a' := ?_) ?_ ?_
                      rotate_left
                      ·
                       show Act.put _ (some 8) _ = _
                       simp only [Act.put, List.setIfInBounds_toArray, List.set_cons_zero, List.set_cons_succ, i64_w, i32_w]
                       rfl
                      exact norm_ (by first | (simp only [putAll, Act.put, List.setIfInBounds_toArray, List.set_cons_zero, List.set_cons_succ]; done) | (simp only [putAll, Act.put, List.setIfInBounds_toArray, List.set_cons_zero, List.set_cons_succ]; rfl)) (hJ5_23_27_34 (gb150) _ ⟨(by (with_reducible repeat (first | refine blk_drewN ?_ _ | refine blk_drew ?_ | refine blk_alloc ?_ _)); exact BK144.out), (by (with_reducible repeat (first | refine blk_drewN ?_ _ | refine blk_drew ?_ | refine blk_alloc ?_ _)); exact BK150.out), GW150.out, GE150.out, NB144_150.out, NB150_144.out, (by repeat (first | (with_reducible first | exact HB.out | apply below_alloc | apply pw_below_drewN | apply below_drew1 | refine below_set ?_ GE144.out | refine below_set ?_ GE150.out) | exact HB.out))⟩)
                   ·
                    skip
                    rintro gb150 w35 ⟨h0_, h1_, h2_, h3_, h4_, h5_, h6_⟩
                    have n0_ : Aside0 (w35.heap[gb144]? = some (.cells #[.int .i64 0, .int .i64 0, .bool false, .bool false, .int .i64 0, .int .i64 0, .int .i64 0, .int .u32 0, .int .u32 0, .string (⟨#[]⟩ : ByteArray)] 24 (0, 0))) := ⟨h0_⟩
                    have n1_ : Aside0 (w35.heap[gb150]? = some (.cells #[.int .i64 0, .int .i64 0, .bool false, .bool false, .int .i64 0, .int .i64 0, .int .i64 0, .int .u32 0, .int .u32 0, .string (⟨#[]⟩ : ByteArray)] 24 (0, 0))) := ⟨h1_⟩
                    have n2_ : Aside0 (w.heap.size ≤ gb150) := ⟨h2_⟩
                    have n3_ : Aside0 (w.heap.size ≤ gb150) := ⟨h3_⟩
                    have n4_ : Aside0 (gb144 ≠ gb150) := ⟨h4_⟩
                    have n5_ : Aside0 (gb150 ≠ gb144) := ⟨h5_⟩
                    have n6_ : Aside0 (Below w.heap.size w w35) := ⟨h6_⟩
                    clear BK144
                    clear HB
                    clear h0_ h1_ h2_ h3_ h4_ h5_ h6_
                    have BK144 := n0_
                    have BK150 := n1_
                    have GW150 := n2_
                    have GE150 := n3_
                    have NB144_150 := n4_
                    have NB150_144 := n5_
                    have HB := n6_
                    clear n0_ n1_ n2_ n3_ n4_ n5_ n6_
                    have hHeld := trivial
                    refine norm_ (a' := ?_) ?_ ?_
                    rotate_left
                    ·
                     simp only [putAll, Act.put, List.setIfInBounds_toArray, List.set_cons_zero, List.set_cons_succ]
                     rfl
                    refine one_ (i := 31) (N := some 57) #[true, true, true, true, true, true, true, true, true, true, true, true, true, true, true, true, true, true, true, true, true, true, true, true, true, true, true, true, true, true, true, true, false, false, true, false] rfl rfl (one_of HT_.out (by kernel_rfl)) (by decide) (fun K hK => ?_)
                    refine goes_ Try.func49 (by kernel_rfl) rfl #[.string a0] (by rfl) rfl rfl (by (try simp only [List.map_toArray, List.map_cons, List.map_nil]); first | done | rfl | (simp only [List.length_drop, List.length_take]; rfl)) ?_
                    with_reducible refine (ipv4_size.calls a0 t149 _ A20.out).mono ?_
                    rintro e w' ⟨rfl, ⟨nd, rfl⟩⟩
                    refine ⟨_, rfl, ?_⟩
                    refine hK.out _ _ trivial (fun hHeld => ?_)
                    clear hK K
                    refine norm_ (a' := ?_) ?_ ?_
                    rotate_left
                    ·
                     show Act.put _ (some 57) _ = _
                     simp only [Act.put, List.setIfInBounds_toArray, List.set_cons_zero, List.set_cons_succ, i64_w, i32_w]
                     rfl
                    refine pure_ (i := 32) (N := some 58) (v := ?_) (a' := ?_) #[true, true, true, true, true, true, true, true, true, true, true, true, true, true, true, true, true, true, true, true, true, true, true, true, true, true, true, true, true, true, true, true, true, false, true, false] rfl rfl (any_of HT_.out (by kernel_rfl)) (fun _ _ _ h => h) (Or.inl ⟨by rfl, ?_⟩) ?_ ?_
                    rotate_left
                    ·
                     intro w'
                     go_simp
                     with_reducible rfl
                    rotate_left
                    ·
                     simp only [Act.put, List.setIfInBounds_toArray, List.set_cons_zero, List.set_cons_succ, i64_w, i32_w]
                     rfl
                    refine pure_ (i := 33) (N := some 59) (v := ?_) (a' := ?_) #[true, true, true, true, true, true, true, true, true, true, true, true, true, true, true, true, true, true, true, true, true, true, true, true, true, true, true, true, true, true, true, true, true, true, true, false] rfl rfl (any_of HT_.out (by kernel_rfl)) (fun _ _ _ h => h) (Or.inl ⟨by rfl, ?_⟩) ?_ ?_
                    rotate_left
                    ·
                     intro w'
                     go_simp
                     with_reducible rfl
                    rotate_left
                    ·
                     simp only [Act.put, List.setIfInBounds_toArray, List.set_cons_zero, List.set_cons_succ, i64_w, i32_w]
                     rfl
                    exact norm_ (by first | (simp only [putAll, Act.put, List.setIfInBounds_toArray, List.set_cons_zero, List.set_cons_succ]; done) | (simp only [putAll, Act.put, List.setIfInBounds_toArray, List.set_cons_zero, List.set_cons_succ]; rfl)) (hJ5_23_27_31_34 (gb150) _ ⟨(by (with_reducible repeat (first | refine blk_drewN ?_ _ | refine blk_drew ?_ | refine blk_alloc ?_ _)); exact BK144.out), (by (with_reducible repeat (first | refine blk_drewN ?_ _ | refine blk_drew ?_ | refine blk_alloc ?_ _)); exact BK150.out), GW150.out, GE150.out, NB144_150.out, NB150_144.out, (by repeat (first | (with_reducible first | exact HB.out | apply below_alloc | apply pw_below_drewN | apply below_drew1 | refine below_set ?_ GE144.out | refine below_set ?_ GE150.out) | exact HB.out))⟩)
                  ·
                   skip
                   rintro _ w34 ⟨h0_, h1_⟩
                   have n0_ : Aside0 (w34.heap[gb144]? = some (.cells #[.int .i64 0, .int .i64 0, .bool false, .bool false, .int .i64 0, .int .i64 0, .int .i64 0, .int .u32 0, .int .u32 0, .string (⟨#[]⟩ : ByteArray)] 24 (0, 0))) := ⟨h0_⟩
                   have n1_ : Aside0 (Below w.heap.size w w34) := ⟨h1_⟩
                   clear BK144
                   clear HB
                   clear h0_ h1_
                   have BK144 := n0_
                   have HB := n1_
                   clear n0_ n1_
                   have hHeld := trivial
                   refine norm_ (a' := ?_) ?_ ?_
                   rotate_left
                   ·
                    simp only [putAll, Act.put, List.setIfInBounds_toArray, List.set_cons_zero, List.set_cons_succ]
                    rfl
                   refine one_ (i := 34) (N := some 8) #[true, true, true, true, true, true, true, true, true, true, true, true, true, true, true, true, true, true, true, true, true, true, true, true, true, true, true, true, true, true, true, true, true, true, true, false] rfl rfl (one_of HT_.out (by kernel_rfl)) (by decide) (fun K hK => ?_)
                   refine box_step ?hg (N := 8) ?hd (cs := #[.int .i64 0, .int .i64 0, .bool false, .bool false, .int .i64 0, .int .i64 0, .int .i64 0, .int .u32 0, .int .u32 0, .string (⟨#[]⟩ : ByteArray)]) (t := 24) ?hr ?_; (case hd => rfl); (case hg => rfl); (case hr => first | (go_simp; done) | (go_simp; rfl))
                   intro gb150 hg w35 hbox hb
                   have n0_ := Aside0.mk (blk_below (g := gb144) (o := .cells #[.int .i64 0, .int .i64 0, .bool false, .bool false, .int .i64 0, .int .i64 0, .int .i64 0, .int .u32 0, .int .u32 0, .string (⟨#[]⟩ : ByteArray)] 24 (0, 0)) (by (with_reducible repeat (first | refine blk_drewN ?_ _ | refine blk_drew ?_ | refine blk_alloc ?_ _)); exact BK144.out) hb)
                   have n1_ := Aside0.mk (below_step (by repeat (first | (with_reducible first | exact HB.out | apply below_alloc | apply pw_below_drewN | apply below_drew1 | refine below_set ?_ GE144.out) | exact HB.out)) hb)
                   have n2_ := Aside0.mk (hbox)
                   have n3_ := Aside0.mk ((by rw [hg]; exact (below_size (by repeat (first | (with_reducible first | exact HB.out | apply below_alloc | apply pw_below_drewN | apply below_drew1 | refine below_set ?_ GE144.out) | exact HB.out))) : w.heap.size ≤ gb150))
                   have n4_ := Aside0.mk ((by rw [hg]; exact (below_size (by repeat (first | (with_reducible first | exact HB.out | apply below_alloc | apply pw_below_drewN | apply below_drew1 | refine below_set ?_ GE144.out) | exact HB.out))) : w.heap.size ≤ gb150))
                   have n5_ := Aside0.mk ((by rw [hg]; exact Nat.ne_of_lt (blk_lt (g := gb144) (o := .cells #[.int .i64 0, .int .i64 0, .bool false, .bool false, .int .i64 0, .int .i64 0, .int .i64 0, .int .u32 0, .int .u32 0, .string (⟨#[]⟩ : ByteArray)] 24 (0, 0)) (by (with_reducible repeat (first | refine blk_drewN ?_ _ | refine blk_drew ?_ | refine blk_alloc ?_ _)); exact BK144.out)) : gb144 ≠ gb150))
                   have n6_ := Aside0.mk ((by rw [hg]; exact Nat.ne_of_gt (blk_lt (g := gb144) (o := .cells #[.int .i64 0, .int .i64 0, .bool false, .bool false, .int .i64 0, .int .i64 0, .int .i64 0, .int .u32 0, .int .u32 0, .string (⟨#[]⟩ : ByteArray)] 24 (0, 0)) (by (with_reducible repeat (first | refine blk_drewN ?_ _ | refine blk_drew ?_ | refine blk_alloc ?_ _)); exact BK144.out)) : gb150 ≠ gb144))
                   clear BK144
                   clear HB
                   have BK144 := n0_
                   have HB := n1_
                   have BK150 := n2_
                   have GW150 := n3_
                   have GE150 := n4_
                   have NB144_150 := n5_
                   have NB150_144 := n6_
                   clear n0_ n1_ n2_ n3_ n4_ n5_ n6_
                   clear hb hbox hg
                   refine hK.out _ _ trivial (fun hHeld => ?_)
                   clear hK K
                   refine norm_ (a' := ?_) ?_ ?_
                   rotate_left
                   ·
                    show Act.put _ (some 8) _ = _
                    simp only [Act.put, List.setIfInBounds_toArray, List.set_cons_zero, List.set_cons_succ, i64_w, i32_w]
                    rfl
                   exact norm_ (by first | (simp only [putAll, Act.put, List.setIfInBounds_toArray, List.set_cons_zero, List.set_cons_succ]; done) | (simp only [putAll, Act.put, List.setIfInBounds_toArray, List.set_cons_zero, List.set_cons_succ]; rfl)) (hJ5_23_27_31_34 (gb150) _ ⟨(by (with_reducible repeat (first | refine blk_drewN ?_ _ | refine blk_drew ?_ | refine blk_alloc ?_ _)); exact BK144.out), (by (with_reducible repeat (first | refine blk_drewN ?_ _ | refine blk_drew ?_ | refine blk_alloc ?_ _)); exact BK150.out), GW150.out, GE150.out, NB144_150.out, NB150_144.out, (by repeat (first | (with_reducible first | exact HB.out | apply below_alloc | apply pw_below_drewN | apply below_drew1 | refine below_set ?_ GE144.out | refine below_set ?_ GE150.out) | exact HB.out))⟩)
                 rintro gb150 w35 ⟨h0_, h1_, h2_, h3_, h4_, h5_, h6_⟩
                 have n0_ : Aside0 (w35.heap[gb144]? = some (.cells #[.int .i64 0, .int .i64 0, .bool false, .bool false, .int .i64 0, .int .i64 0, .int .i64 0, .int .u32 0, .int .u32 0, .string (⟨#[]⟩ : ByteArray)] 24 (0, 0))) := ⟨h0_⟩
                 have n1_ : Aside0 (w35.heap[gb150]? = some (.cells #[.int .i64 0, .int .i64 0, .bool false, .bool false, .int .i64 0, .int .i64 0, .int .i64 0, .int .u32 0, .int .u32 0, .string (⟨#[]⟩ : ByteArray)] 24 (0, 0))) := ⟨h1_⟩
                 have n2_ : Aside0 (w.heap.size ≤ gb150) := ⟨h2_⟩
                 have n3_ : Aside0 (w.heap.size ≤ gb150) := ⟨h3_⟩
                 have n4_ : Aside0 (gb144 ≠ gb150) := ⟨h4_⟩
                 have n5_ : Aside0 (gb150 ≠ gb144) := ⟨h5_⟩
                 have n6_ : Aside0 (Below w.heap.size w w35) := ⟨h6_⟩
                 clear BK144
                 clear HB
                 clear h0_ h1_ h2_ h3_ h4_ h5_ h6_
                 have BK144 := n0_
                 have BK150 := n1_
                 have GW150 := n2_
                 have GE150 := n3_
                 have NB144_150 := n4_
                 have NB150_144 := n5_
                 have HB := n6_
                 clear n0_ n1_ n2_ n3_ n4_ n5_ n6_
                 have hHeld := trivial
                 refine norm_ (a' := ?_) ?_ ?_
                 rotate_left
                 ·
                  simp only [putAll, Act.put, List.setIfInBounds_toArray, List.set_cons_zero, List.set_cons_succ]
                  rfl
                 refine one_ (i := 35) (N := none) #[true, true, true, true, true, true, true, true, true, true, true, true, true, true, true, true, true, true, true, true, true, true, true, true, true, true, true, true, true, true, true, true, true, true, true, true] rfl rfl (one_of HT_.out (by kernel_rfl)) (by decide) (fun K hK => ?_)
                 have hs36 : w35.cell? ⟨gb150, 0, none⟩ = some (.int .i64 0) := (blk_cell BK150.out 0).trans rfl
                 have hfs36 := blk_frozen BK150.out 0
                 have hns36_0 := NB144_150.out
                 have hms36_0 := NB150_144.out
                 have hs37 : w35.cell? ⟨gb150, 1, none⟩ = some (.int .i64 0) := (blk_cell BK150.out 1).trans rfl
                 have hfs37 := blk_frozen BK150.out 1
                 have hns37_0 := NB144_150.out
                 have hms37_0 := NB150_144.out
                 have hs38 : w35.cell? ⟨gb150, 2, none⟩ = some (.bool false) := (blk_cell BK150.out 2).trans rfl
                 have hfs38 := blk_frozen BK150.out 2
                 have hns38_0 := NB144_150.out
                 have hms38_0 := NB150_144.out
                 have hs39 : w35.cell? ⟨gb150, 3, none⟩ = some (.bool false) := (blk_cell BK150.out 3).trans rfl
                 have hfs39 := blk_frozen BK150.out 3
                 have hns39_0 := NB144_150.out
                 have hms39_0 := NB150_144.out
                 have hs40 : w35.cell? ⟨gb150, 4, none⟩ = some (.int .i64 0) := (blk_cell BK150.out 4).trans rfl
                 have hfs40 := blk_frozen BK150.out 4
                 have hns40_0 := NB144_150.out
                 have hms40_0 := NB150_144.out
                 have hs41 : w35.cell? ⟨gb150, 5, none⟩ = some (.int .i64 0) := (blk_cell BK150.out 5).trans rfl
                 have hfs41 := blk_frozen BK150.out 5
                 have hns41_0 := NB144_150.out
                 have hms41_0 := NB150_144.out
                 have hs42 : w35.cell? ⟨gb150, 6, none⟩ = some (.int .i64 0) := (blk_cell BK150.out 6).trans rfl
                 have hfs42 := blk_frozen BK150.out 6
                 have hns42_0 := NB144_150.out
                 have hms42_0 := NB150_144.out
                 have hs43 : w35.cell? ⟨gb150, 7, none⟩ = some (.int .u32 0) := (blk_cell BK150.out 7).trans rfl
                 have hfs43 := blk_frozen BK150.out 7
                 have hns43_0 := NB144_150.out
                 have hms43_0 := NB150_144.out
                 have hs44 : w35.cell? ⟨gb150, 8, none⟩ = some (.int .u32 0) := (blk_cell BK150.out 8).trans rfl
                 have hfs44 := blk_frozen BK150.out 8
                 have hns44_0 := NB144_150.out
                 have hms44_0 := NB150_144.out
                 have hs45 : w35.cell? ⟨gb150, 9, none⟩ = some (.string (⟨#[]⟩ : ByteArray)) := (blk_cell BK150.out 9).trans rfl
                 have hfs45 := blk_frozen BK150.out 9
                 have hns45_0 := NB144_150.out
                 have hms45_0 := NB150_144.out
                 refine skip_ (w1 := ?_) (by rfl) rfl ?_ ?_
                 rotate_left
                 ·
                  go_simp
                  rfl
                 refine hK.out _ _ trivial (fun hHeld => ?_)
                 clear hK K
                 refine done_ (done_of HT_.out (by kernel_rfl)) ?_
                 try go_wp2
                 have n0_ : Aside0 (((((((((((w35.setCell ⟨gb150, 0, none⟩ (.int .i64 (wrap64 (bt a0 1)))).setCell ⟨gb150, 1, none⟩ (.int .i64 t146)).setCell ⟨gb150, 2, none⟩ (.bool ((Go.bits .and .i64 t145 8192) != 0))).setCell ⟨gb150, 3, none⟩ (.bool ((Go.bits .and .i64 t145 16384) != 0))).setCell ⟨gb150, 4, none⟩ (.int .i64 (wrap64 ((Go.bits .and .i64 t145 8191) * 8)))).setCell ⟨gb150, 5, none⟩ (.int .i64 (wrap64 (bt a0 8)))).setCell ⟨gb150, 6, none⟩ (.int .i64 (wrap64 (bt a0 9)))).setCell ⟨gb150, 7, none⟩ (.int .u32 ((t147) % 4294967296))).setCell ⟨gb150, 8, none⟩ (.int .u32 ((t148) % 4294967296))).setCell ⟨gb150, 9, none⟩ (.string (a0.extract 20 (t149 : Int).toNat))).heap[gb144]? = some (.cells #[.int .i64 0, .int .i64 0, .bool false, .bool false, .int .i64 0, .int .i64 0, .int .i64 0, .int .u32 0, .int .u32 0, .string (⟨#[]⟩ : ByteArray)] 24 (0, 0))) := ⟨by (with_reducible repeat (first | refine blk_drewN ?_ _ | refine blk_drew ?_ | refine blk_alloc ?_ _)); refine blk_far ?_ NB144_150.out _; (with_reducible repeat (first | refine blk_drewN ?_ _ | refine blk_drew ?_ | refine blk_alloc ?_ _)); refine blk_far ?_ NB144_150.out _; (with_reducible repeat (first | refine blk_drewN ?_ _ | refine blk_drew ?_ | refine blk_alloc ?_ _)); refine blk_far ?_ NB144_150.out _; (with_reducible repeat (first | refine blk_drewN ?_ _ | refine blk_drew ?_ | refine blk_alloc ?_ _)); refine blk_far ?_ NB144_150.out _; (with_reducible repeat (first | refine blk_drewN ?_ _ | refine blk_drew ?_ | refine blk_alloc ?_ _)); refine blk_far ?_ NB144_150.out _; (with_reducible repeat (first | refine blk_drewN ?_ _ | refine blk_drew ?_ | refine blk_alloc ?_ _)); refine blk_far ?_ NB144_150.out _; (with_reducible repeat (first | refine blk_drewN ?_ _ | refine blk_drew ?_ | refine blk_alloc ?_ _)); refine blk_far ?_ NB144_150.out _; (with_reducible repeat (first | refine blk_drewN ?_ _ | refine blk_drew ?_ | refine blk_alloc ?_ _)); refine blk_far ?_ NB144_150.out _; (with_reducible repeat (first | refine blk_drewN ?_ _ | refine blk_drew ?_ | refine blk_alloc ?_ _)); refine blk_far ?_ NB144_150.out _; (with_reducible repeat (first | refine blk_drewN ?_ _ | refine blk_drew ?_ | refine blk_alloc ?_ _)); refine blk_far ?_ NB144_150.out _; (with_reducible repeat (first | refine blk_drewN ?_ _ | refine blk_drew ?_ | refine blk_alloc ?_ _)); exact BK144.out⟩
                 have n1_ : Aside0 (((((((((((w35.setCell ⟨gb150, 0, none⟩ (.int .i64 (wrap64 (bt a0 1)))).setCell ⟨gb150, 1, none⟩ (.int .i64 t146)).setCell ⟨gb150, 2, none⟩ (.bool ((Go.bits .and .i64 t145 8192) != 0))).setCell ⟨gb150, 3, none⟩ (.bool ((Go.bits .and .i64 t145 16384) != 0))).setCell ⟨gb150, 4, none⟩ (.int .i64 (wrap64 ((Go.bits .and .i64 t145 8191) * 8)))).setCell ⟨gb150, 5, none⟩ (.int .i64 (wrap64 (bt a0 8)))).setCell ⟨gb150, 6, none⟩ (.int .i64 (wrap64 (bt a0 9)))).setCell ⟨gb150, 7, none⟩ (.int .u32 ((t147) % 4294967296))).setCell ⟨gb150, 8, none⟩ (.int .u32 ((t148) % 4294967296))).setCell ⟨gb150, 9, none⟩ (.string (a0.extract 20 (t149 : Int).toNat))).heap[gb150]? = some (.cells #[.int .i64 (wrap64 (bt a0 1)), .int .i64 t146, .bool ((Go.bits .and .i64 t145 8192) != 0), .bool ((Go.bits .and .i64 t145 16384) != 0), .int .i64 (wrap64 ((Go.bits .and .i64 t145 8191) * 8)), .int .i64 (wrap64 (bt a0 8)), .int .i64 (wrap64 (bt a0 9)), .int .u32 ((t147) % 4294967296), .int .u32 ((t148) % 4294967296), .string (a0.extract 20 (t149 : Int).toNat)] 24 (0, 0))) := ⟨by (with_reducible repeat (first | refine blk_drewN ?_ _ | refine blk_drew ?_ | refine blk_alloc ?_ _)); refine blk_put (cs := #[.int .i64 (wrap64 (bt a0 1)), .int .i64 t146, .bool ((Go.bits .and .i64 t145 8192) != 0), .bool ((Go.bits .and .i64 t145 16384) != 0), .int .i64 (wrap64 ((Go.bits .and .i64 t145 8191) * 8)), .int .i64 (wrap64 (bt a0 8)), .int .i64 (wrap64 (bt a0 9)), .int .u32 ((t147) % 4294967296), .int .u32 ((t148) % 4294967296), .string (⟨#[]⟩ : ByteArray)]) ?_ 9 _ rfl; (with_reducible repeat (first | refine blk_drewN ?_ _ | refine blk_drew ?_ | refine blk_alloc ?_ _)); refine blk_put (cs := #[.int .i64 (wrap64 (bt a0 1)), .int .i64 t146, .bool ((Go.bits .and .i64 t145 8192) != 0), .bool ((Go.bits .and .i64 t145 16384) != 0), .int .i64 (wrap64 ((Go.bits .and .i64 t145 8191) * 8)), .int .i64 (wrap64 (bt a0 8)), .int .i64 (wrap64 (bt a0 9)), .int .u32 ((t147) % 4294967296), .int .u32 0, .string (⟨#[]⟩ : ByteArray)]) ?_ 8 _ rfl; (with_reducible repeat (first | refine blk_drewN ?_ _ | refine blk_drew ?_ | refine blk_alloc ?_ _)); refine blk_put (cs := #[.int .i64 (wrap64 (bt a0 1)), .int .i64 t146, .bool ((Go.bits .and .i64 t145 8192) != 0), .bool ((Go.bits .and .i64 t145 16384) != 0), .int .i64 (wrap64 ((Go.bits .and .i64 t145 8191) * 8)), .int .i64 (wrap64 (bt a0 8)), .int .i64 (wrap64 (bt a0 9)), .int .u32 0, .int .u32 0, .string (⟨#[]⟩ : ByteArray)]) ?_ 7 _ rfl; (with_reducible repeat (first | refine blk_drewN ?_ _ | refine blk_drew ?_ | refine blk_alloc ?_ _)); refine blk_put (cs := #[.int .i64 (wrap64 (bt a0 1)), .int .i64 t146, .bool ((Go.bits .and .i64 t145 8192) != 0), .bool ((Go.bits .and .i64 t145 16384) != 0), .int .i64 (wrap64 ((Go.bits .and .i64 t145 8191) * 8)), .int .i64 (wrap64 (bt a0 8)), .int .i64 0, .int .u32 0, .int .u32 0, .string (⟨#[]⟩ : ByteArray)]) ?_ 6 _ rfl; (with_reducible repeat (first | refine blk_drewN ?_ _ | refine blk_drew ?_ | refine blk_alloc ?_ _)); refine blk_put (cs := #[.int .i64 (wrap64 (bt a0 1)), .int .i64 t146, .bool ((Go.bits .and .i64 t145 8192) != 0), .bool ((Go.bits .and .i64 t145 16384) != 0), .int .i64 (wrap64 ((Go.bits .and .i64 t145 8191) * 8)), .int .i64 0, .int .i64 0, .int .u32 0, .int .u32 0, .string (⟨#[]⟩ : ByteArray)]) ?_ 5 _ rfl; (with_reducible repeat (first | refine blk_drewN ?_ _ | refine blk_drew ?_ | refine blk_alloc ?_ _)); refine blk_put (cs := #[.int .i64 (wrap64 (bt a0 1)), .int .i64 t146, .bool ((Go.bits .and .i64 t145 8192) != 0), .bool ((Go.bits .and .i64 t145 16384) != 0), .int .i64 0, .int .i64 0, .int .i64 0, .int .u32 0, .int .u32 0, .string (⟨#[]⟩ : ByteArray)]) ?_ 4 _ rfl; (with_reducible repeat (first | refine blk_drewN ?_ _ | refine blk_drew ?_ | refine blk_alloc ?_ _)); refine blk_put (cs := #[.int .i64 (wrap64 (bt a0 1)), .int .i64 t146, .bool ((Go.bits .and .i64 t145 8192) != 0), .bool false, .int .i64 0, .int .i64 0, .int .i64 0, .int .u32 0, .int .u32 0, .string (⟨#[]⟩ : ByteArray)]) ?_ 3 _ rfl; (with_reducible repeat (first | refine blk_drewN ?_ _ | refine blk_drew ?_ | refine blk_alloc ?_ _)); refine blk_put (cs := #[.int .i64 (wrap64 (bt a0 1)), .int .i64 t146, .bool false, .bool false, .int .i64 0, .int .i64 0, .int .i64 0, .int .u32 0, .int .u32 0, .string (⟨#[]⟩ : ByteArray)]) ?_ 2 _ rfl; (with_reducible repeat (first | refine blk_drewN ?_ _ | refine blk_drew ?_ | refine blk_alloc ?_ _)); refine blk_put (cs := #[.int .i64 (wrap64 (bt a0 1)), .int .i64 0, .bool false, .bool false, .int .i64 0, .int .i64 0, .int .i64 0, .int .u32 0, .int .u32 0, .string (⟨#[]⟩ : ByteArray)]) ?_ 1 _ rfl; (with_reducible repeat (first | refine blk_drewN ?_ _ | refine blk_drew ?_ | refine blk_alloc ?_ _)); refine blk_put (cs := #[.int .i64 0, .int .i64 0, .bool false, .bool false, .int .i64 0, .int .i64 0, .int .i64 0, .int .u32 0, .int .u32 0, .string (⟨#[]⟩ : ByteArray)]) ?_ 0 _ rfl; (with_reducible repeat (first | refine blk_drewN ?_ _ | refine blk_drew ?_ | refine blk_alloc ?_ _)); exact BK150.out⟩
                 have n2_ : Aside0 (Below w.heap.size w ((((((((((w35.setCell ⟨gb150, 0, none⟩ (.int .i64 (wrap64 (bt a0 1)))).setCell ⟨gb150, 1, none⟩ (.int .i64 t146)).setCell ⟨gb150, 2, none⟩ (.bool ((Go.bits .and .i64 t145 8192) != 0))).setCell ⟨gb150, 3, none⟩ (.bool ((Go.bits .and .i64 t145 16384) != 0))).setCell ⟨gb150, 4, none⟩ (.int .i64 (wrap64 ((Go.bits .and .i64 t145 8191) * 8)))).setCell ⟨gb150, 5, none⟩ (.int .i64 (wrap64 (bt a0 8)))).setCell ⟨gb150, 6, none⟩ (.int .i64 (wrap64 (bt a0 9)))).setCell ⟨gb150, 7, none⟩ (.int .u32 ((t147) % 4294967296))).setCell ⟨gb150, 8, none⟩ (.int .u32 ((t148) % 4294967296))).setCell ⟨gb150, 9, none⟩ (.string (a0.extract 20 (t149 : Int).toNat)))) := ⟨by repeat (first | (with_reducible first | exact HB.out | apply below_alloc | apply pw_below_drewN | apply below_drew1 | refine below_set ?_ GE144.out | refine below_set ?_ GE150.out) | exact HB.out)⟩
                 (try clear BK144)
                 (try clear BK150)
                 (try clear HB)
                 generalize ((((((((((w35.setCell ⟨gb150, 0, none⟩ (.int .i64 (wrap64 (bt a0 1)))).setCell ⟨gb150, 1, none⟩ (.int .i64 t146)).setCell ⟨gb150, 2, none⟩ (.bool ((Go.bits .and .i64 t145 8192) != 0))).setCell ⟨gb150, 3, none⟩ (.bool ((Go.bits .and .i64 t145 16384) != 0))).setCell ⟨gb150, 4, none⟩ (.int .i64 (wrap64 ((Go.bits .and .i64 t145 8191) * 8)))).setCell ⟨gb150, 5, none⟩ (.int .i64 (wrap64 (bt a0 8)))).setCell ⟨gb150, 6, none⟩ (.int .i64 (wrap64 (bt a0 9)))).setCell ⟨gb150, 7, none⟩ (.int .u32 ((t147) % 4294967296))).setCell ⟨gb150, 8, none⟩ (.int .u32 ((t148) % 4294967296))).setCell ⟨gb150, 9, none⟩ (.string (a0.extract 20 (t149 : Int).toNat))) = w46 at n0_ n1_ n2_ ⊢
                 have BK144 := n0_
                 have BK150 := n1_
                 have HB := n2_
                 clear n0_ n1_ n2_
                 have n0_ := Aside0.mk (blk_drew BK144.out)
                 have n1_ := Aside0.mk (blk_drew BK150.out)
                 have n2_ := Aside0.mk (below_drew1 HB.out)
                 clear BK144
                 clear BK150
                 clear HB
                 have BK144 := n0_
                 have BK150 := n1_
                 have HB := n2_
                 clear n0_ n1_ n2_
                 refine start_ (n := 10) (S := fun w' => w'.cell? ⟨gb150, 0, none⟩ = some (.int .i64 (wrap64 (bt a0 1))) ∧ w'.cell? ⟨gb150, 1, none⟩ = some (.int .i64 t146) ∧ w'.cell? ⟨gb150, 2, none⟩ = some (.bool ((Go.bits .and .i64 t145 8192) != 0)) ∧ w'.cell? ⟨gb150, 3, none⟩ = some (.bool ((Go.bits .and .i64 t145 16384) != 0)) ∧ w'.cell? ⟨gb150, 4, none⟩ = some (.int .i64 (wrap64 ((Go.bits .and .i64 t145 8191) * 8))) ∧ w'.cell? ⟨gb150, 5, none⟩ = some (.int .i64 (wrap64 (bt a0 8))) ∧ w'.cell? ⟨gb150, 6, none⟩ = some (.int .i64 (wrap64 (bt a0 9))) ∧ w'.cell? ⟨gb150, 7, none⟩ = some (.int .u32 ((t147) % 4294967296)) ∧ w'.cell? ⟨gb150, 8, none⟩ = some (.int .u32 ((t148) % 4294967296)) ∧ w'.cell? ⟨gb150, 9, none⟩ = some (.string (a0.extract 20 (t149 : Int).toNat))) (ds := []) #[false, false, false, false, false, false, false, false, false, false] (by kernel_rfl) rfl rfl ⟨(blk_cell BK150.out 0).trans rfl, (blk_cell BK150.out 1).trans rfl, (blk_cell BK150.out 2).trans rfl, (blk_cell BK150.out 3).trans rfl, (blk_cell BK150.out 4).trans rfl, (blk_cell BK150.out 5).trans rfl, (blk_cell BK150.out 6).trans rfl, (blk_cell BK150.out 7).trans rfl, (blk_cell BK150.out 8).trans rfl, (blk_cell BK150.out 9).trans rfl⟩ (fun hHeld => ?_); refine with_tabW ipv4_Tail.tab9 ipv4_Tail.bits9 (fun HT_ HW_ => ?_)
                 generalize w46.drew = w47 at BK144 BK150 HB hHeld ⊢
                 refine pure_ (i := 1) (N := some 61) (v := ?_) (a' := ?_) #[false, true, false, false, false, false, false, false, false, false] rfl rfl (any_of HT_.out (by kernel_rfl)) (fun _ _ _ h => h) (Or.inl ⟨by rfl, ?_⟩) ?_ ?_
                 rotate_left
                 ·
                  intro w'
                  go_simp
                  with_reducible rfl
                 rotate_left
                 ·
                  simp only [Act.put, List.setIfInBounds_toArray, List.set_cons_zero, List.set_cons_succ, i64_w, i32_w]
                  rfl
                 refine pure_ (i := 2) (N := some 62) (v := ?_) (a' := ?_) #[false, true, true, false, false, false, false, false, false, false] rfl rfl (any_of HT_.out (by kernel_rfl)) (fun _ _ _ h => h) (Or.inl ⟨by rfl, ?_⟩) ?_ ?_
                 rotate_left
                 ·
                  intro w'
                  go_simp
                  with_reducible rfl
                 rotate_left
                 ·
                  simp only [Act.put, List.setIfInBounds_toArray, List.set_cons_zero, List.set_cons_succ, i64_w, i32_w]
                  rfl
                 refine pure_ (i := 4) (N := some 64) (v := ?_) (a' := ?_) #[false, true, true, false, true, false, false, false, false, false] rfl rfl (any_of HT_.out (by kernel_rfl)) (fun _ _ _ h => h) (Or.inl ⟨by rfl, ?_⟩) ?_ ?_
                 rotate_left
                 ·
                  intro w'
                  go_simp
                  with_reducible rfl
                 rotate_left
                 ·
                  simp only [Act.put, List.setIfInBounds_toArray, List.set_cons_zero, List.set_cons_succ, i64_w, i32_w]
                  rfl
                 refine take_ (i := 0) (N := some 60) (v := ?_) (a' := ?_) #[true, true, true, false, true, false, false, false, false, false] rfl rfl (take_ofW HT_.out HW_.out (by kernel_rfl)) (fun _ _ _ h => h) (Or.inl ⟨by rfl, ?_⟩) hHeld ?_ ?_
                 rotate_left
                 ·
                  rintro w' ⟨s0, s1, s2, s3, s4, s5, s6, s7, s8, s9⟩
                  go_simp
                  with_reducible rfl
                 rotate_left
                 ·
                  simp only [Act.put, List.setIfInBounds_toArray, List.set_cons_zero, List.set_cons_succ, i64_w, i32_w]
                  rfl
                 refine one_ (i := 3) (N := some 63) #[true, true, true, true, true, false, false, false, false, false] rfl rfl (one_of HT_.out (by kernel_rfl)) (by decide) (fun K hK => ?_)
                 refine goes_ Try.func49 (by kernel_rfl) rfl #[.string a0] (by rfl) rfl rfl (by (try simp only [List.map_toArray, List.map_cons, List.map_nil]); first | done | rfl | (simp only [List.length_drop, List.length_take]; rfl)) ?_
                 with_reducible refine (ipv4_size.calls a0 t151 _ A23.out).mono ?_
                 rintro e w' ⟨rfl, ⟨nd, rfl⟩⟩
                 refine ⟨_, rfl, ?_⟩
                 refine hK.out _ _ ⟨(blk_cell (blk_drewN BK150.out nd) 0).trans rfl, (blk_cell (blk_drewN BK150.out nd) 1).trans rfl, (blk_cell (blk_drewN BK150.out nd) 2).trans rfl, (blk_cell (blk_drewN BK150.out nd) 3).trans rfl, (blk_cell (blk_drewN BK150.out nd) 4).trans rfl, (blk_cell (blk_drewN BK150.out nd) 5).trans rfl, (blk_cell (blk_drewN BK150.out nd) 6).trans rfl, (blk_cell (blk_drewN BK150.out nd) 7).trans rfl, (blk_cell (blk_drewN BK150.out nd) 8).trans rfl, (blk_cell (blk_drewN BK150.out nd) 9).trans rfl⟩ (fun hHeld => ?_)
                 clear hK K
                 refine norm_ (a' := ?_) ?_ ?_
                 rotate_left
                 ·
                  show Act.put _ (some 63) _ = _
                  simp only [Act.put, List.setIfInBounds_toArray, List.set_cons_zero, List.set_cons_succ, i64_w, i32_w]
                  rfl
                 refine one_ (i := 5) (N := some 65) #[true, true, true, true, true, true, false, false, false, false] rfl rfl (one_of HT_.out (by kernel_rfl)) (by decide) (fun K hK => ?_)
                 refine goes_ Try.func50 (by kernel_rfl) rfl #[.string a0] (by rfl) rfl rfl (by (try simp only [List.map_toArray, List.map_cons, List.map_nil]); first | done | rfl | (simp only [List.length_drop, List.length_take]; rfl)) ?_
                 with_reducible refine (ipv4_all.calls a0 t152 _ A24.out).mono ?_
                 rintro e w48 ⟨rfl, hb⟩
                 refine ⟨_, rfl, ?_⟩
                 have n0_ := Aside0.mk (blk_below (g := gb144) (o := .cells #[.int .i64 0, .int .i64 0, .bool false, .bool false, .int .i64 0, .int .i64 0, .int .i64 0, .int .u32 0, .int .u32 0, .string (⟨#[]⟩ : ByteArray)] 24 (0, 0)) (by (with_reducible repeat (first | refine blk_drewN ?_ _ | refine blk_drew ?_ | refine blk_alloc ?_ _)); exact BK144.out) hb)
                 have n1_ := Aside0.mk (blk_below (g := gb150) (o := .cells #[.int .i64 (wrap64 (bt a0 1)), .int .i64 t146, .bool ((Go.bits .and .i64 t145 8192) != 0), .bool ((Go.bits .and .i64 t145 16384) != 0), .int .i64 (wrap64 ((Go.bits .and .i64 t145 8191) * 8)), .int .i64 (wrap64 (bt a0 8)), .int .i64 (wrap64 (bt a0 9)), .int .u32 ((t147) % 4294967296), .int .u32 ((t148) % 4294967296), .string (a0.extract 20 (t149 : Int).toNat)] 24 (0, 0)) (by (with_reducible repeat (first | refine blk_drewN ?_ _ | refine blk_drew ?_ | refine blk_alloc ?_ _)); exact BK150.out) hb)
                 have n2_ := Aside0.mk (below_step (by repeat (first | (with_reducible first | exact HB.out | apply below_alloc | apply pw_below_drewN | apply below_drew1 | refine below_set ?_ GE144.out | refine below_set ?_ GE150.out) | exact HB.out)) hb)
                 clear BK144
                 clear BK150
                 clear HB
                 have BK144 := n0_
                 have BK150 := n1_
                 have HB := n2_
                 clear n0_ n1_ n2_
                 (try clear hb)
                 (try clear hb2)
                 (try clear hk)
                 (try clear hi)
                 refine hK.out _ _ ⟨(blk_cell BK150.out 0).trans rfl, (blk_cell BK150.out 1).trans rfl, (blk_cell BK150.out 2).trans rfl, (blk_cell BK150.out 3).trans rfl, (blk_cell BK150.out 4).trans rfl, (blk_cell BK150.out 5).trans rfl, (blk_cell BK150.out 6).trans rfl, (blk_cell BK150.out 7).trans rfl, (blk_cell BK150.out 8).trans rfl, (blk_cell BK150.out 9).trans rfl⟩ (fun hHeld => ?_)
                 clear hK K
                 refine norm_ (a' := ?_) ?_ ?_
                 rotate_left
                 ·
                  show Act.put _ (some 65) _ = _
                  simp only [Act.put, List.setIfInBounds_toArray, List.set_cons_zero, List.set_cons_succ, i64_w, i32_w]
                  rfl
                 refine pure_ (i := 6) (N := some 66) (v := ?_) (a' := ?_) #[true, true, true, true, true, true, true, false, false, false] rfl rfl (any_of HT_.out (by kernel_rfl)) (fun _ _ _ h => h) (Or.inl ⟨by rfl, ?_⟩) ?_ ?_
                 rotate_left
                 ·
                  intro w'
                  go_simp
                  with_reducible rfl
                 rotate_left
                 ·
                  simp only [Act.put, List.setIfInBounds_toArray, List.set_cons_zero, List.set_cons_succ, i64_w, i32_w]
                  rfl
                 refine one_ (i := 7) (N := none) #[true, true, true, true, true, true, true, true, false, false] rfl rfl (one_of HT_.out (by kernel_rfl)) (by decide) (fun K hK => ?_)
                 have hs49 : w48.cell? ⟨gb144, 0, none⟩ = some (.int .i64 0) := (blk_cell BK144.out 0).trans rfl
                 have hfs49 := blk_frozen BK144.out 0
                 have hns49_1 := NB150_144.out
                 have hms49_1 := NB144_150.out
                 have hs50 : w48.cell? ⟨gb144, 1, none⟩ = some (.int .i64 0) := (blk_cell BK144.out 1).trans rfl
                 have hfs50 := blk_frozen BK144.out 1
                 have hns50_1 := NB150_144.out
                 have hms50_1 := NB144_150.out
                 have hs51 : w48.cell? ⟨gb144, 2, none⟩ = some (.bool false) := (blk_cell BK144.out 2).trans rfl
                 have hfs51 := blk_frozen BK144.out 2
                 have hns51_1 := NB150_144.out
                 have hms51_1 := NB144_150.out
                 have hs52 : w48.cell? ⟨gb144, 3, none⟩ = some (.bool false) := (blk_cell BK144.out 3).trans rfl
                 have hfs52 := blk_frozen BK144.out 3
                 have hns52_1 := NB150_144.out
                 have hms52_1 := NB144_150.out
                 have hs53 : w48.cell? ⟨gb144, 4, none⟩ = some (.int .i64 0) := (blk_cell BK144.out 4).trans rfl
                 have hfs53 := blk_frozen BK144.out 4
                 have hns53_1 := NB150_144.out
                 have hms53_1 := NB144_150.out
                 have hs54 : w48.cell? ⟨gb144, 5, none⟩ = some (.int .i64 0) := (blk_cell BK144.out 5).trans rfl
                 have hfs54 := blk_frozen BK144.out 5
                 have hns54_1 := NB150_144.out
                 have hms54_1 := NB144_150.out
                 have hs55 : w48.cell? ⟨gb144, 6, none⟩ = some (.int .i64 0) := (blk_cell BK144.out 6).trans rfl
                 have hfs55 := blk_frozen BK144.out 6
                 have hns55_1 := NB150_144.out
                 have hms55_1 := NB144_150.out
                 have hs56 : w48.cell? ⟨gb144, 7, none⟩ = some (.int .u32 0) := (blk_cell BK144.out 7).trans rfl
                 have hfs56 := blk_frozen BK144.out 7
                 have hns56_1 := NB150_144.out
                 have hms56_1 := NB144_150.out
                 have hs57 : w48.cell? ⟨gb144, 8, none⟩ = some (.int .u32 0) := (blk_cell BK144.out 8).trans rfl
                 have hfs57 := blk_frozen BK144.out 8
                 have hns57_1 := NB150_144.out
                 have hms57_1 := NB144_150.out
                 have hs58 : w48.cell? ⟨gb144, 9, none⟩ = some (.string (⟨#[]⟩ : ByteArray)) := (blk_cell BK144.out 9).trans rfl
                 have hfs58 := blk_frozen BK144.out 9
                 have hns58_1 := NB150_144.out
                 have hms58_1 := NB144_150.out
                 refine skip_ (w1 := ?_) (by rfl) rfl ?_ ?_
                 rotate_left
                 ·
                  go_simp
                  rfl
                 refine hK.out _ _ ⟨((cell_far (p := ⟨gb144, _, none⟩) NB150_144.out _).trans (((cell_far (p := ⟨gb144, _, none⟩) NB150_144.out _).trans (((cell_far (p := ⟨gb144, _, none⟩) NB150_144.out _).trans (((cell_far (p := ⟨gb144, _, none⟩) NB150_144.out _).trans (((cell_far (p := ⟨gb144, _, none⟩) NB150_144.out _).trans (((cell_far (p := ⟨gb144, _, none⟩) NB150_144.out _).trans (((cell_far (p := ⟨gb144, _, none⟩) NB150_144.out _).trans (((cell_far (p := ⟨gb144, _, none⟩) NB150_144.out _).trans (((cell_far (p := ⟨gb144, _, none⟩) NB150_144.out _).trans (((cell_far (p := ⟨gb144, _, none⟩) NB150_144.out _).trans (hHeld.1)))))))))))))))))))), ((cell_far (p := ⟨gb144, _, none⟩) NB150_144.out _).trans (((cell_far (p := ⟨gb144, _, none⟩) NB150_144.out _).trans (((cell_far (p := ⟨gb144, _, none⟩) NB150_144.out _).trans (((cell_far (p := ⟨gb144, _, none⟩) NB150_144.out _).trans (((cell_far (p := ⟨gb144, _, none⟩) NB150_144.out _).trans (((cell_far (p := ⟨gb144, _, none⟩) NB150_144.out _).trans (((cell_far (p := ⟨gb144, _, none⟩) NB150_144.out _).trans (((cell_far (p := ⟨gb144, _, none⟩) NB150_144.out _).trans (((cell_far (p := ⟨gb144, _, none⟩) NB150_144.out _).trans (((cell_far (p := ⟨gb144, _, none⟩) NB150_144.out _).trans (hHeld.2.1)))))))))))))))))))), ((cell_far (p := ⟨gb144, _, none⟩) NB150_144.out _).trans (((cell_far (p := ⟨gb144, _, none⟩) NB150_144.out _).trans (((cell_far (p := ⟨gb144, _, none⟩) NB150_144.out _).trans (((cell_far (p := ⟨gb144, _, none⟩) NB150_144.out _).trans (((cell_far (p := ⟨gb144, _, none⟩) NB150_144.out _).trans (((cell_far (p := ⟨gb144, _, none⟩) NB150_144.out _).trans (((cell_far (p := ⟨gb144, _, none⟩) NB150_144.out _).trans (((cell_far (p := ⟨gb144, _, none⟩) NB150_144.out _).trans (((cell_far (p := ⟨gb144, _, none⟩) NB150_144.out _).trans (((cell_far (p := ⟨gb144, _, none⟩) NB150_144.out _).trans (hHeld.2.2.1)))))))))))))))))))), ((cell_far (p := ⟨gb144, _, none⟩) NB150_144.out _).trans (((cell_far (p := ⟨gb144, _, none⟩) NB150_144.out _).trans (((cell_far (p := ⟨gb144, _, none⟩) NB150_144.out _).trans (((cell_far (p := ⟨gb144, _, none⟩) NB150_144.out _).trans (((cell_far (p := ⟨gb144, _, none⟩) NB150_144.out _).trans (((cell_far (p := ⟨gb144, _, none⟩) NB150_144.out _).trans (((cell_far (p := ⟨gb144, _, none⟩) NB150_144.out _).trans (((cell_far (p := ⟨gb144, _, none⟩) NB150_144.out _).trans (((cell_far (p := ⟨gb144, _, none⟩) NB150_144.out _).trans (((cell_far (p := ⟨gb144, _, none⟩) NB150_144.out _).trans (hHeld.2.2.2.1)))))))))))))))))))), ((cell_far (p := ⟨gb144, _, none⟩) NB150_144.out _).trans (((cell_far (p := ⟨gb144, _, none⟩) NB150_144.out _).trans (((cell_far (p := ⟨gb144, _, none⟩) NB150_144.out _).trans (((cell_far (p := ⟨gb144, _, none⟩) NB150_144.out _).trans (((cell_far (p := ⟨gb144, _, none⟩) NB150_144.out _).trans (((cell_far (p := ⟨gb144, _, none⟩) NB150_144.out _).trans (((cell_far (p := ⟨gb144, _, none⟩) NB150_144.out _).trans (((cell_far (p := ⟨gb144, _, none⟩) NB150_144.out _).trans (((cell_far (p := ⟨gb144, _, none⟩) NB150_144.out _).trans (((cell_far (p := ⟨gb144, _, none⟩) NB150_144.out _).trans (hHeld.2.2.2.2.1)))))))))))))))))))), ((cell_far (p := ⟨gb144, _, none⟩) NB150_144.out _).trans (((cell_far (p := ⟨gb144, _, none⟩) NB150_144.out _).trans (((cell_far (p := ⟨gb144, _, none⟩) NB150_144.out _).trans (((cell_far (p := ⟨gb144, _, none⟩) NB150_144.out _).trans (((cell_far (p := ⟨gb144, _, none⟩) NB150_144.out _).trans (((cell_far (p := ⟨gb144, _, none⟩) NB150_144.out _).trans (((cell_far (p := ⟨gb144, _, none⟩) NB150_144.out _).trans (((cell_far (p := ⟨gb144, _, none⟩) NB150_144.out _).trans (((cell_far (p := ⟨gb144, _, none⟩) NB150_144.out _).trans (((cell_far (p := ⟨gb144, _, none⟩) NB150_144.out _).trans (hHeld.2.2.2.2.2.1)))))))))))))))))))), ((cell_far (p := ⟨gb144, _, none⟩) NB150_144.out _).trans (((cell_far (p := ⟨gb144, _, none⟩) NB150_144.out _).trans (((cell_far (p := ⟨gb144, _, none⟩) NB150_144.out _).trans (((cell_far (p := ⟨gb144, _, none⟩) NB150_144.out _).trans (((cell_far (p := ⟨gb144, _, none⟩) NB150_144.out _).trans (((cell_far (p := ⟨gb144, _, none⟩) NB150_144.out _).trans (((cell_far (p := ⟨gb144, _, none⟩) NB150_144.out _).trans (((cell_far (p := ⟨gb144, _, none⟩) NB150_144.out _).trans (((cell_far (p := ⟨gb144, _, none⟩) NB150_144.out _).trans (((cell_far (p := ⟨gb144, _, none⟩) NB150_144.out _).trans (hHeld.2.2.2.2.2.2.1)))))))))))))))))))), ((cell_far (p := ⟨gb144, _, none⟩) NB150_144.out _).trans (((cell_far (p := ⟨gb144, _, none⟩) NB150_144.out _).trans (((cell_far (p := ⟨gb144, _, none⟩) NB150_144.out _).trans (((cell_far (p := ⟨gb144, _, none⟩) NB150_144.out _).trans (((cell_far (p := ⟨gb144, _, none⟩) NB150_144.out _).trans (((cell_far (p := ⟨gb144, _, none⟩) NB150_144.out _).trans (((cell_far (p := ⟨gb144, _, none⟩) NB150_144.out _).trans (((cell_far (p := ⟨gb144, _, none⟩) NB150_144.out _).trans (((cell_far (p := ⟨gb144, _, none⟩) NB150_144.out _).trans (((cell_far (p := ⟨gb144, _, none⟩) NB150_144.out _).trans (hHeld.2.2.2.2.2.2.2.1)))))))))))))))))))), ((cell_far (p := ⟨gb144, _, none⟩) NB150_144.out _).trans (((cell_far (p := ⟨gb144, _, none⟩) NB150_144.out _).trans (((cell_far (p := ⟨gb144, _, none⟩) NB150_144.out _).trans (((cell_far (p := ⟨gb144, _, none⟩) NB150_144.out _).trans (((cell_far (p := ⟨gb144, _, none⟩) NB150_144.out _).trans (((cell_far (p := ⟨gb144, _, none⟩) NB150_144.out _).trans (((cell_far (p := ⟨gb144, _, none⟩) NB150_144.out _).trans (((cell_far (p := ⟨gb144, _, none⟩) NB150_144.out _).trans (((cell_far (p := ⟨gb144, _, none⟩) NB150_144.out _).trans (((cell_far (p := ⟨gb144, _, none⟩) NB150_144.out _).trans (hHeld.2.2.2.2.2.2.2.2.1)))))))))))))))))))), ((cell_far (p := ⟨gb144, _, none⟩) NB150_144.out _).trans (((cell_far (p := ⟨gb144, _, none⟩) NB150_144.out _).trans (((cell_far (p := ⟨gb144, _, none⟩) NB150_144.out _).trans (((cell_far (p := ⟨gb144, _, none⟩) NB150_144.out _).trans (((cell_far (p := ⟨gb144, _, none⟩) NB150_144.out _).trans (((cell_far (p := ⟨gb144, _, none⟩) NB150_144.out _).trans (((cell_far (p := ⟨gb144, _, none⟩) NB150_144.out _).trans (((cell_far (p := ⟨gb144, _, none⟩) NB150_144.out _).trans (((cell_far (p := ⟨gb144, _, none⟩) NB150_144.out _).trans (((cell_far (p := ⟨gb144, _, none⟩) NB150_144.out _).trans (hHeld.2.2.2.2.2.2.2.2.2))))))))))))))))))))⟩ (fun hHeld => ?_)
                 clear hK K
                 refine pure_ (i := 8) (N := some 3) (v := ?_) (a' := ?_) #[true, true, true, true, true, true, true, true, true, false] rfl rfl (any_of HT_.out (by kernel_rfl)) (fun _ _ _ h => h) (Or.inl ⟨by rfl, ?_⟩) ?_ ?_
                 rotate_left
                 ·
                  intro w'
                  go_simp
                  with_reducible rfl
                 rotate_left
                 ·
                  simp only [Act.put, List.setIfInBounds_toArray, List.set_cons_zero, List.set_cons_succ, i64_w, i32_w]
                  rfl
                 refine pure_ (i := 9) (N := some 4) (v := ?_) (a' := ?_) #[true, true, true, true, true, true, true, true, true, true] rfl rfl (any_of HT_.out (by kernel_rfl)) (fun _ _ _ h => h) (Or.inl ⟨by rfl, ?_⟩) ?_ ?_
                 rotate_left
                 ·
                  intro w'
                  go_simp
                  with_reducible rfl
                 rotate_left
                 ·
                  simp only [Act.put, List.setIfInBounds_toArray, List.set_cons_zero, List.set_cons_succ, i64_w, i32_w]
                  rfl
                 refine done_ (done_of HT_.out (by kernel_rfl)) ?_
                 try go_wp2
                 refine bodyPost_ret (results_ctt rfl _ _ gb144 24 #[.int .i64 (wrap64 (bt a0 1)), .int .i64 t146, .bool ((Go.bits .and .i64 t145 8192) != 0), .bool ((Go.bits .and .i64 t145 16384) != 0), .int .i64 (wrap64 ((Go.bits .and .i64 t145 8191) * 8)), .int .i64 (wrap64 (bt a0 8)), .int .i64 (wrap64 (bt a0 9)), .int .u32 ((t147) % 4294967296), .int .u32 ((t148) % 4294967296), .string (a0.extract 20 (t149 : Int).toNat)] (0, 0) _ rfl (by (with_reducible repeat (first | refine blk_drewN ?_ _ | refine blk_drew ?_ | refine blk_alloc ?_ _)); refine blk_put (cs := #[.int .i64 (wrap64 (bt a0 1)), .int .i64 t146, .bool ((Go.bits .and .i64 t145 8192) != 0), .bool ((Go.bits .and .i64 t145 16384) != 0), .int .i64 (wrap64 ((Go.bits .and .i64 t145 8191) * 8)), .int .i64 (wrap64 (bt a0 8)), .int .i64 (wrap64 (bt a0 9)), .int .u32 ((t147) % 4294967296), .int .u32 ((t148) % 4294967296), .string (⟨#[]⟩ : ByteArray)]) ?_ 9 _ rfl; (with_reducible repeat (first | refine blk_drewN ?_ _ | refine blk_drew ?_ | refine blk_alloc ?_ _)); refine blk_put (cs := #[.int .i64 (wrap64 (bt a0 1)), .int .i64 t146, .bool ((Go.bits .and .i64 t145 8192) != 0), .bool ((Go.bits .and .i64 t145 16384) != 0), .int .i64 (wrap64 ((Go.bits .and .i64 t145 8191) * 8)), .int .i64 (wrap64 (bt a0 8)), .int .i64 (wrap64 (bt a0 9)), .int .u32 ((t147) % 4294967296), .int .u32 0, .string (⟨#[]⟩ : ByteArray)]) ?_ 8 _ rfl; (with_reducible repeat (first | refine blk_drewN ?_ _ | refine blk_drew ?_ | refine blk_alloc ?_ _)); refine blk_put (cs := #[.int .i64 (wrap64 (bt a0 1)), .int .i64 t146, .bool ((Go.bits .and .i64 t145 8192) != 0), .bool ((Go.bits .and .i64 t145 16384) != 0), .int .i64 (wrap64 ((Go.bits .and .i64 t145 8191) * 8)), .int .i64 (wrap64 (bt a0 8)), .int .i64 (wrap64 (bt a0 9)), .int .u32 0, .int .u32 0, .string (⟨#[]⟩ : ByteArray)]) ?_ 7 _ rfl; (with_reducible repeat (first | refine blk_drewN ?_ _ | refine blk_drew ?_ | refine blk_alloc ?_ _)); refine blk_put (cs := #[.int .i64 (wrap64 (bt a0 1)), .int .i64 t146, .bool ((Go.bits .and .i64 t145 8192) != 0), .bool ((Go.bits .and .i64 t145 16384) != 0), .int .i64 (wrap64 ((Go.bits .and .i64 t145 8191) * 8)), .int .i64 (wrap64 (bt a0 8)), .int .i64 0, .int .u32 0, .int .u32 0, .string (⟨#[]⟩ : ByteArray)]) ?_ 6 _ rfl; (with_reducible repeat (first | refine blk_drewN ?_ _ | refine blk_drew ?_ | refine blk_alloc ?_ _)); refine blk_put (cs := #[.int .i64 (wrap64 (bt a0 1)), .int .i64 t146, .bool ((Go.bits .and .i64 t145 8192) != 0), .bool ((Go.bits .and .i64 t145 16384) != 0), .int .i64 (wrap64 ((Go.bits .and .i64 t145 8191) * 8)), .int .i64 0, .int .i64 0, .int .u32 0, .int .u32 0, .string (⟨#[]⟩ : ByteArray)]) ?_ 5 _ rfl; (with_reducible repeat (first | refine blk_drewN ?_ _ | refine blk_drew ?_ | refine blk_alloc ?_ _)); refine blk_put (cs := #[.int .i64 (wrap64 (bt a0 1)), .int .i64 t146, .bool ((Go.bits .and .i64 t145 8192) != 0), .bool ((Go.bits .and .i64 t145 16384) != 0), .int .i64 0, .int .i64 0, .int .i64 0, .int .u32 0, .int .u32 0, .string (⟨#[]⟩ : ByteArray)]) ?_ 4 _ rfl; (with_reducible repeat (first | refine blk_drewN ?_ _ | refine blk_drew ?_ | refine blk_alloc ?_ _)); refine blk_put (cs := #[.int .i64 (wrap64 (bt a0 1)), .int .i64 t146, .bool ((Go.bits .and .i64 t145 8192) != 0), .bool false, .int .i64 0, .int .i64 0, .int .i64 0, .int .u32 0, .int .u32 0, .string (⟨#[]⟩ : ByteArray)]) ?_ 3 _ rfl; (with_reducible repeat (first | refine blk_drewN ?_ _ | refine blk_drew ?_ | refine blk_alloc ?_ _)); refine blk_put (cs := #[.int .i64 (wrap64 (bt a0 1)), .int .i64 t146, .bool false, .bool false, .int .i64 0, .int .i64 0, .int .i64 0, .int .u32 0, .int .u32 0, .string (⟨#[]⟩ : ByteArray)]) ?_ 2 _ rfl; (with_reducible repeat (first | refine blk_drewN ?_ _ | refine blk_drew ?_ | refine blk_alloc ?_ _)); refine blk_put (cs := #[.int .i64 (wrap64 (bt a0 1)), .int .i64 0, .bool false, .bool false, .int .i64 0, .int .i64 0, .int .i64 0, .int .u32 0, .int .u32 0, .string (⟨#[]⟩ : ByteArray)]) ?_ 1 _ rfl; (with_reducible repeat (first | refine blk_drewN ?_ _ | refine blk_drew ?_ | refine blk_alloc ?_ _)); refine blk_put (cs := #[.int .i64 0, .int .i64 0, .bool false, .bool false, .int .i64 0, .int .i64 0, .int .i64 0, .int .u32 0, .int .u32 0, .string (⟨#[]⟩ : ByteArray)]) ?_ 0 _ rfl; (with_reducible repeat (first | refine blk_drewN ?_ _ | refine blk_drew ?_ | refine blk_alloc ?_ _)); exact BK144.out) Try.underlying24 rfl (by kernel_rfl)) rfl ?_
                 exact ⟨by first | rfl | (simp [errW_none, errW_some] <;> rfl) | (simp [*, errW_none, errW_some] <;> rfl), by repeat (first | (with_reducible first | exact HB.out | apply below_alloc | apply pw_below_drewN | apply below_drew1 | refine below_set ?_ GE144.out | refine below_set ?_ GE150.out) | exact HB.out)⟩
                ·
                 rw [if_neg c27] at H
                 exact absurd H (by simp)
               ·
                rw [if_neg c26] at H
                exact absurd H (by simp)
              ·
               rw [if_neg c25] at H
               exact absurd H (by simp)
             ·
              rw [if_neg c22] at H
              exact absurd H (by simp)
            ·
             rw [if_neg c21] at H
             exact absurd H (by simp)
           ·
            rw [if_neg c18] at H
            exact absurd H (by simp)
          ·
           rw [if_neg c17] at H
           exact absurd H (by simp)
         ·
          rw [if_neg c15] at H
          exact absurd H (by simp)
        ·
         rw [if_neg c14] at H
         exact absurd H (by simp)
       ·
        rw [if_neg c12] at H
        exact absurd H (by simp)
      ·
       rw [if_neg c10] at H
       exact absurd H (by simp)
     ·
      rw [if_neg c8] at H
      exact absurd H (by simp)
    ·
     rw [if_neg c7] at H
     exact absurd H (by simp)
   ·
    rw [if_neg c5] at H
    exact absurd H (by simp)
  ·
   rw [if_neg c3] at H
   exact absurd H (by simp)
 ·
  rw [if_neg c2] at H
  exact absurd H (by simp)
def ipv4_Get.f (k : Nat) (a0 : ByteArray) : Option (Int × Int × Bool × Bool × Int × Int × Int × Int × Int × ByteArray × ByteArray × Int) := (GetR k a0 8).bind fun e => if e = 0 then ipv4_Tail.f a0 else some (0, 0, false, false, 0, 0, 0, 0, 0, (⟨#[]⟩ : ByteArray), (⟨#[]⟩ : ByteArray), e)
theorem GetR.mono (k : Nat) (s : ByteArray) : LeO (GetR k s 8) (GetR (k + 1) s 8) := by
 have h0 : LeO (GetR k s 0) (GetR (k + 1) s 0) := LeO.refl _
 have h1 : LeO (GetR k s 1) (GetR (k + 1) s 1) := LeO.bind (ipv4_checks_8.mono _ _) (fun _ => LeO.ite (LeO.refl _) h0)
 have h2 : LeO (GetR k s 2) (GetR (k + 1) s 2) := LeO.bind (LeO.refl _) (fun _ => LeO.ite (LeO.refl _) h1)
 have h3 : LeO (GetR k s 3) (GetR (k + 1) s 3) := LeO.bind (LeO.refl _) (fun _ => LeO.ite (LeO.refl _) h2)
 have h4 : LeO (GetR k s 4) (GetR (k + 1) s 4) := LeO.bind (LeO.refl _) (fun _ => LeO.ite (LeO.refl _) h3)
 have h5 : LeO (GetR k s 5) (GetR (k + 1) s 5) := LeO.bind (LeO.refl _) (fun _ => LeO.ite (LeO.refl _) h4)
 have h6 : LeO (GetR k s 6) (GetR (k + 1) s 6) := LeO.bind (LeO.refl _) (fun _ => LeO.ite (LeO.refl _) h5)
 have h7 : LeO (GetR k s 7) (GetR (k + 1) s 7) := LeO.bind (LeO.refl _) (fun _ => LeO.ite (LeO.refl _) h6)
 have h8 : LeO (GetR k s 8) (GetR (k + 1) s 8) := LeO.bind (LeO.refl _) (fun _ => LeO.ite (LeO.refl _) h7)
 exact h8
theorem ipv4_Get.mono : ∀ a0 k, LeO (ipv4_Get.f k a0) (ipv4_Get.f (k + 1) a0) := fun a0 k => LeO.bind (GetR.mono k a0) (fun _ => LeO.refl _)
theorem ipv4_Get.calls (k : Nat) (a0 : ByteArray) (r1 : Int) (r2 : Int) (r3 : Bool) (r4 : Bool) (r5 : Int) (r6 : Int) (r7 : Int) (r8 : Int) (r9 : Int) (r10 : ByteArray) (r11 : ByteArray) (r12 : Int) (w : World) (h : ipv4_Get.f k a0 = some (r1, r2, r3, r4, r5, r6, r7, r8, r9, r10, r11, r12)) :
 Calls Try.prog 18 #[.string a0] w fun e w' => e = .returned (.tuple #[.agg #[.int .i64 r1, .int .i64 r2, .bool r3, .bool r4, .int .i64 r5, .int .i64 r6, .int .i64 r7, .int .u32 r8, .int .u32 r9, .string r10], .string r11, .int .i64 r12]) ∧ Below w.heap.size w w' := by
 obtain ⟨e, hR, h⟩ := Option.bind_eq_some_iff.mp h
 refine ipv4_Get.walk k a0 e w _ hR (fun he w' hB => ?_) (fun he => ?_)
 ·
  rw [if_neg he] at h
  simp only [Option.some.injEq, Prod.mk.injEq] at h
  obtain ⟨rfl, rfl, rfl, rfl, rfl, rfl, rfl, rfl, rfl, rfl, rfl, rfl⟩ := h
  exact ⟨rfl, hB⟩
 ·
  rw [if_pos he] at h
  intro u3 u4 u6 u9 u10 u11 u12 u13 u14 u15 u16 u17 u18 u19 u20 u21 u22 W gb GB BK HB
  exact ipv4_Tail.wp a0 r1 r2 r3 r4 r5 r6 r7 r8 r9 r10 r11 r12 w u3 u4 u6 u9 u10 u11 u12 u13 u14 u15 u16 u17 u18 u19 u20 u21 u22 W gb GB BK HB h


end Go.Proofs.Ytgolimfljndnmaa.HV
