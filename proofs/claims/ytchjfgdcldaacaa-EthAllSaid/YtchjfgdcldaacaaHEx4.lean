/- What is proved: each Go function of this text answers as the plain Lean function beside it (a law: its given row, out of the plain statement). Conditions: those that stand in each theorem. Written by my drive.py, which calls the printer of the kit for what that covers. -/
import Derived.Test.YtchjfgdcldaacaaHEx0
namespace Go.Proofs.Ytchjfgdcldaacaa.HE
open Go.RowKit Go.Proofs.YtchjfgdcldaacaaW.PrintWords Go.Proofs.YtchjfgdcldaacaaW.PrintLast Go.Proofs.YtchjfgdcldaacaaW.PrintMore
attribute [local go_sem] max2_int min2_int max_two min_two max_three min_three max_four min_four   -- for this text's walks alone
set_option linter.unusedVariables false
set_option linter.unusedSimpArgs false

/-! ### rampartref02_six: function 29 -/
def rampartref02_six.f (a0 : ByteArray) : Option (Int × Int × Int × Int × Int × Int) := if 6 ≤ a0.size then some (bt a0 0, bt a0 1, bt a0 2, bt a0 3, bt a0 4, bt a0 5) else none
def sixc (a0 : ByteArray) (k : Nat) : Array Value := #[.int .u8 (if 0 < k then bt a0 0 else 0), .int .u8 (if 1 < k then bt a0 1 else 0), .int .u8 (if 2 < k then bt a0 2 else 0), .int .u8 (if 3 < k then bt a0 3 else 0), .int .u8 (if 4 < k then bt a0 4 else 0), .int .u8 (if 5 < k then bt a0 5 else 0)]
set_option maxHeartbeats 4000000 in
set_option maxRecDepth 100000 in
theorem rampartref02_six.calls (a0 : ByteArray) (r1 r2 r3 r4 r5 r6 : Int) (w : World) (h : rampartref02_six.f a0 = some (r1, r2, r3, r4, r5, r6)) :
  Calls Try.prog 29 #[.string a0] w fun e w' => e = .returned (.agg #[.int .u8 r1, .int .u8 r2, .int .u8 r3, .int .u8 r4, .int .u8 r5, .int .u8 r6]) ∧ Below w.heap.size w w' := by
 have hu24 := Try.underlying24
 have HB := Aside0.mk (Below.refl w.heap.size w)
 unfold rampartref02_six.f at h
 by_cases hs : 6 ≤ a0.size
 case neg => rw [if_neg hs] at h; cases h
 rw [if_pos hs] at h
 simp only [Option.some.injEq, Prod.mk.injEq] at h
 obtain ⟨rfl, rfl, rfl, rfl, rfl, rfl⟩ := h
 go_enter Try.func29, Try.ntmps29
 go_wp2_with (first | ((with_reducible refine gate_dst (N := 2) rfl ?_); refine box_event ?hg (N := 2) ?hd (cs := #[.int .u8 0, .int .u8 0, .int .u8 0, .int .u8 0, .int .u8 0, .int .u8 0]) (t := 24) ?hr ?_; (case hd => rfl); (case hg => rfl); (case hr => first | (go_simp; done) | (go_simp; rfl)); intro g2 hg w2 hbox hb; have n0_ := Aside0.mk (below_step HB.out hb); have BK2 := Aside0.mk hbox; have GE2 : Aside0 (w.heap.size ≤ g2) := ⟨(by rw [hg]; exact below_size HB.out)⟩; clear HB; have HB := n0_; clear n0_ hb hbox hg) | ((with_reducible refine gate_dst (N := 3) rfl ?_); refine box_event ?hg (N := 3) ?hd (cs := #[.int .u8 0, .int .u8 0, .int .u8 0, .int .u8 0, .int .u8 0, .int .u8 0]) (t := 24) ?hr ?_; (case hd => rfl); (case hg => rfl); (case hr => first | (go_simp; done) | (go_simp; rfl)); intro g3 hg w3 hbox hb; have n0_ := Aside0.mk (below_step HB.out hb); have NE : Aside0 (g2 ≠ g3) := ⟨(by rw [hg]; exact Nat.ne_of_lt (blk_lt BK2.out))⟩; have n1_ := Aside0.mk (blk_below BK2.out hb); have BK3 := Aside0.mk hbox; have GE3 : Aside0 (w.heap.size ≤ g3) := ⟨(by rw [hg]; exact below_size HB.out)⟩; clear HB BK2; have HB := n0_; have BK2 := n1_; clear n0_ n1_ hb hbox hg))
 have HS := Aside0.mk hs
 clear hs
 go_loopg [4] 7 (fun kq v4 w' => ∃ j : Nat, v4 = .int .i64 j ∧ Aside0 (kq + j = 7 ∧ j ≤ 6) ∧ Aside0 (w'.heap[g3]? = some (.cells (sixc a0 j) 24 (0, 0))) ∧ Aside0 (w'.heap[g2]? = some (.cells #[.int .u8 0, .int .u8 0, .int .u8 0, .int .u8 0, .int .u8 0, .int .u8 0] 24 (0, 0))) ∧ Aside0 (Below w.heap.size w w'))
 case atStart => exact ⟨0, rfl, ⟨rfl, by decide⟩, BK3, BK2, HB⟩
 case round =>
  clear BK2 BK3 HB
  obtain ⟨j, rfl, HK, BK3, BK2, HB⟩ := hrel
  cases gk with
  | zero => exact absurd HK.out (by omega)
  | succ k1 =>
   have hj : j = 0 ∨ j = 1 ∨ j = 2 ∨ j = 3 ∨ j = 4 ∨ j = 5 ∨ j = 6 := by have := HK.out; omega
   rcases hj with rfl | rfl | rfl | rfl | rfl | rfl | rfl
   ·
    have hs := HS.out
    have q_ : 0 < a0.size := by omega
    have hx_ : ∀ h : 0 < a0.size, ((a0[0]'h).toNat : Int) = bt a0 0 := bt_at a0 0
    have qi_ : ((0 : Int) < (a0.size : Int)) = True := eq_true (by omega)
    replace q_ := eq_true q_
    clear hs
    have hcz := (blk_cell BK3.out 0).trans rfl
    have hfz := blk_frozen BK3.out 0
    go_wp2
    go_roundg k1
    case measure => omega
    case rel => exact ⟨1, (by first | rfl | simp | (simp; rfl)), ⟨by have := HK.out; omega⟩, ⟨blk_put BK3.out 0 _ rfl⟩, ⟨blk_far BK2.out NE.out _⟩, ⟨below_set HB.out GE3.out⟩⟩
   ·
    have hs := HS.out
    have q_ : 1 < a0.size := by omega
    have hx_ : ∀ h : 1 < a0.size, ((a0[1]'h).toNat : Int) = bt a0 1 := bt_at a0 1
    have qi_ : ((1 : Int) < (a0.size : Int)) = True := eq_true (by omega)
    replace q_ := eq_true q_
    clear hs
    have hcz := (blk_cell BK3.out 1).trans rfl
    have hfz := blk_frozen BK3.out 1
    go_wp2
    go_roundg k1
    case measure => omega
    case rel => exact ⟨2, (by first | rfl | simp | (simp; rfl)), ⟨by have := HK.out; omega⟩, ⟨blk_put BK3.out 1 _ rfl⟩, ⟨blk_far BK2.out NE.out _⟩, ⟨below_set HB.out GE3.out⟩⟩
   ·
    have hs := HS.out
    have q_ : 2 < a0.size := by omega
    have hx_ : ∀ h : 2 < a0.size, ((a0[2]'h).toNat : Int) = bt a0 2 := bt_at a0 2
    have qi_ : ((2 : Int) < (a0.size : Int)) = True := eq_true (by omega)
    replace q_ := eq_true q_
    clear hs
    have hcz := (blk_cell BK3.out 2).trans rfl
    have hfz := blk_frozen BK3.out 2
    go_wp2
    go_roundg k1
    case measure => omega
    case rel => exact ⟨3, (by first | rfl | simp | (simp; rfl)), ⟨by have := HK.out; omega⟩, ⟨blk_put BK3.out 2 _ rfl⟩, ⟨blk_far BK2.out NE.out _⟩, ⟨below_set HB.out GE3.out⟩⟩
   ·
    have hs := HS.out
    have q_ : 3 < a0.size := by omega
    have hx_ : ∀ h : 3 < a0.size, ((a0[3]'h).toNat : Int) = bt a0 3 := bt_at a0 3
    have qi_ : ((3 : Int) < (a0.size : Int)) = True := eq_true (by omega)
    replace q_ := eq_true q_
    clear hs
    have hcz := (blk_cell BK3.out 3).trans rfl
    have hfz := blk_frozen BK3.out 3
    go_wp2
    go_roundg k1
    case measure => omega
    case rel => exact ⟨4, (by first | rfl | simp | (simp; rfl)), ⟨by have := HK.out; omega⟩, ⟨blk_put BK3.out 3 _ rfl⟩, ⟨blk_far BK2.out NE.out _⟩, ⟨below_set HB.out GE3.out⟩⟩
   ·
    have hs := HS.out
    have q_ : 4 < a0.size := by omega
    have hx_ : ∀ h : 4 < a0.size, ((a0[4]'h).toNat : Int) = bt a0 4 := bt_at a0 4
    have qi_ : ((4 : Int) < (a0.size : Int)) = True := eq_true (by omega)
    replace q_ := eq_true q_
    clear hs
    have hcz := (blk_cell BK3.out 4).trans rfl
    have hfz := blk_frozen BK3.out 4
    go_wp2
    go_roundg k1
    case measure => omega
    case rel => exact ⟨5, (by first | rfl | simp | (simp; rfl)), ⟨by have := HK.out; omega⟩, ⟨blk_put BK3.out 4 _ rfl⟩, ⟨blk_far BK2.out NE.out _⟩, ⟨below_set HB.out GE3.out⟩⟩
   ·
    have hs := HS.out
    have q_ : 5 < a0.size := by omega
    have hx_ : ∀ h : 5 < a0.size, ((a0[5]'h).toNat : Int) = bt a0 5 := bt_at a0 5
    have qi_ : ((5 : Int) < (a0.size : Int)) = True := eq_true (by omega)
    replace q_ := eq_true q_
    clear hs
    have hcz := (blk_cell BK3.out 5).trans rfl
    have hfz := blk_frozen BK3.out 5
    go_wp2
    go_roundg k1
    case measure => omega
    case rel => exact ⟨6, (by first | rfl | simp | (simp; rfl)), ⟨by have := HK.out; omega⟩, ⟨blk_put BK3.out 5 _ rfl⟩, ⟨blk_far BK2.out NE.out _⟩, ⟨below_set HB.out GE3.out⟩⟩
   ·
    have BK3 := Aside0.mk (show _ = some (Obj.cells #[.int .u8 (bt a0 0), .int .u8 (bt a0 1), .int .u8 (bt a0 2), .int .u8 (bt a0 3), .int .u8 (bt a0 4), .int .u8 (bt a0 5)] 24 (0, 0)) from BK3.out)
    have hcz0 := (blk_cell BK3.out 0).trans rfl
    have hcy0 := (blk_cell BK2.out 0).trans rfl
    have hfy0 := blk_frozen BK2.out 0
    have hcz1 := (blk_cell BK3.out 1).trans rfl
    have hcy1 := (blk_cell BK2.out 1).trans rfl
    have hfy1 := blk_frozen BK2.out 1
    have hcz2 := (blk_cell BK3.out 2).trans rfl
    have hcy2 := (blk_cell BK2.out 2).trans rfl
    have hfy2 := blk_frozen BK2.out 2
    have hcz3 := (blk_cell BK3.out 3).trans rfl
    have hcy3 := (blk_cell BK2.out 3).trans rfl
    have hfy3 := blk_frozen BK2.out 3
    have hcz4 := (blk_cell BK3.out 4).trans rfl
    have hcy4 := (blk_cell BK2.out 4).trans rfl
    have hfy4 := blk_frozen BK2.out 4
    have hcz5 := (blk_cell BK3.out 5).trans rfl
    have hcy5 := (blk_cell BK2.out 5).trans rfl
    have hfy5 := blk_frozen BK2.out 5
    have hn1 := NE.out
    have hn2 := NE.out.symm
    go_wp2
    refine bodyPost_ret (results_cell_row rfl _ _ g2 24 #[.int .u8 (bt a0 0), .int .u8 (bt a0 1), .int .u8 (bt a0 2), .int .u8 (bt a0 3), .int .u8 (bt a0 4), .int .u8 (bt a0 5)] (0, 0) _ rfl ?_ Try.underlying24 rfl (by kernel_rfl)) rfl ?_
    ·
     refine blk_put (cs := #[.int .u8 (bt a0 0), .int .u8 (bt a0 1), .int .u8 (bt a0 2), .int .u8 (bt a0 3), .int .u8 (bt a0 4), .int .u8 0]) ?_ 5 _ rfl; refine blk_put (cs := #[.int .u8 (bt a0 0), .int .u8 (bt a0 1), .int .u8 (bt a0 2), .int .u8 (bt a0 3), .int .u8 0, .int .u8 0]) ?_ 4 _ rfl; refine blk_put (cs := #[.int .u8 (bt a0 0), .int .u8 (bt a0 1), .int .u8 (bt a0 2), .int .u8 0, .int .u8 0, .int .u8 0]) ?_ 3 _ rfl; refine blk_put (cs := #[.int .u8 (bt a0 0), .int .u8 (bt a0 1), .int .u8 0, .int .u8 0, .int .u8 0, .int .u8 0]) ?_ 2 _ rfl; refine blk_put (cs := #[.int .u8 (bt a0 0), .int .u8 0, .int .u8 0, .int .u8 0, .int .u8 0, .int .u8 0]) ?_ 1 _ rfl; refine blk_put (cs := #[.int .u8 0, .int .u8 0, .int .u8 0, .int .u8 0, .int .u8 0, .int .u8 0]) ?_ 0 _ rfl; exact BK2.out
    ·
     exact ⟨rfl, by repeat (first | exact HB.out | refine below_set ?_ GE2.out)⟩

end Go.Proofs.Ytchjfgdcldaacaa.HE
