/- What is proved: each Go function of this text answers as the plain Lean function beside it (a law: its given row, out of the plain statement). Conditions: those that stand in each theorem. Written by my drive.py, which calls the printer of the kit for what that covers. -/
import Derived.Test.YtgolimfljndnmaaHCx0
import Derived.Test.YtgolimfljndnmaaHCx1
import Derived.Test.YtgolimfljndnmaaHCx4
import Derived.Test.YtgolimfljndnmaaHCx7
import Derived.Test.YtgolimfljndnmaaHCx8
namespace Go.Proofs.Ytgolimfljndnmaa.HC
open Go.RowKit Go.Proofs.YtgolimfljndnmaaW.PrintWords Go.Proofs.YtgolimfljndnmaaW.PrintLast Go.Proofs.YtgolimfljndnmaaW.PrintMore
attribute [local go_sem] max2_int min2_int max_two min_two max_three min_three max_four min_four   -- for this text's walks alone
set_option linter.unusedVariables false
set_option linter.unusedSimpArgs false

/-! ### rampartlaw04_TcpBack: function 8 -/
theorem bset_size (s : ByteArray) (i : Nat) (v : Int) : (bset s i v).size = s.size := by
 show (s.data.toList.set i _).toArray.size = _
 simp
def cells8 (s : ByteArray) (pad : Nat) : Array Value := (s.data.map fun b => Value.int .u8 b.toNat) ++ Array.replicate pad (.int .u8 0)
/-- Block g holds the bytes s, then zeros; its mark lies behind its last cell. -/
def Row8 (w : World) (g : Nat) (s : ByteArray) : Prop := ∃ pad : Nat, w.heap[g]? = some (.cells (cells8 s pad) 5 ((cells8 s pad).size, (cells8 s pad).size + 1))
theorem cells8_size (s : ByteArray) (pad : Nat) : (cells8 s pad).size = s.size + pad := by simp [cells8]
theorem row8_new (w : World) (s : ByteArray) : Row8 (Lib.bytesWorld w 5 s) w.heap.size s := ⟨_, Lib.bytesWorld_at_new w 5 s⟩
theorem row8_move {w w' : World} {g : Nat} {s : ByteArray} (h : Row8 w g s) (hm : w'.heap[g]? = w.heap[g]?) : Row8 w' g s := by
 obtain ⟨p, hp⟩ := h
 exact ⟨p, hm.trans hp⟩
theorem row8_lt {w : World} {g : Nat} {s : ByteArray} (h : Row8 w g s) : g < w.heap.size := by
 obtain ⟨p, hp⟩ := h
 exact (Array.getElem?_eq_some_iff.1 hp).1
theorem row8_below {w w' : World} {g : Nat} {s : ByteArray} (h : Row8 w g s) (hb : Below w.heap.size w w') : Row8 w' g s := row8_move h (hb.block g (row8_lt h))
theorem row8_drewN {w : World} {g : Nat} {s : ByteArray} (h : Row8 w g s) (n : Nat) : Row8 (w.drewN n) g s := row8_below h (pw_below_drewN (Below.refl _ _) n)
theorem row8_cell {w : World} {g : Nat} {s : ByteArray} (h : Row8 w g s) {i : Int} (h0 : 0 ≤ i) (h1 : i < (s.size : Int)) : w.cell? ⟨g, i.toNat, none⟩ = some (.int .u8 (bt s i)) := by
 obtain ⟨p, hp⟩ := h
 have hi : i.toNat < s.size := by omega
 have hb := bt_at s i
 have e : w.cell? ⟨g, i.toNat, none⟩ = (cells8 s p)[i.toNat]? := by simp [World.cell?, hp]
 rw [e, cells8, Array.getElem?_append_left (by simpa using hi)]
 rw [Array.getElem?_map, Array.getElem?_eq_getElem (show i.toNat < s.data.size from hi)]
 show some (Value.int .u8 ((s.data[i.toNat]).toNat : Int)) = _
 rw [← hb hi]
 rfl
theorem row8_frozen {w : World} {g : Nat} {s : ByteArray} (h : Row8 w g s) {i : Int} (h0 : 0 ≤ i) (h1 : i < (s.size : Int)) : w.frozen? ⟨g, i.toNat, none⟩ = false := by
 obtain ⟨p, hp⟩ := h
 have hz := cells8_size s p
 simp only [World.frozen?, hp]
 rw [hz]
 simp
 omega
theorem row8_set {w : World} {g : Nat} {s : ByteArray} (h : Row8 w g s) {i : Int} (h0 : 0 ≤ i) (h1 : i < (s.size : Int)) {v : Int} (hv0 : 0 ≤ v) (hv1 : v < 256) : Row8 (w.setCell ⟨g, i.toNat, none⟩ (.int .u8 v)) g (bset s i.toNat v) := by
 obtain ⟨p, hp⟩ := h
 have hi : i.toNat < s.size := by omega
 have hz := cells8_size s p
 have hz2 : (cells8 (bset s i.toNat v) p).size = (cells8 s p).size := by rw [cells8_size, cells8_size, bset_size]
 have hc : (cells8 s p).setIfInBounds i.toNat (.int .u8 v) = cells8 (bset s i.toNat v) p := by
  have hvn : ((UInt8.ofNat v.toNat).toNat : Int) = v := by
   rw [UInt8.toNat_ofNat', Nat.mod_eq_of_lt (by omega)]
   omega
  apply Array.ext_getElem?
  intro j
  rw [Array.getElem?_setIfInBounds]
  have hs : s.data.size = s.size := rfl
  have hb : (bset s i.toNat v).data = s.data.set i.toNat (UInt8.ofNat v.toNat) hi := by
   apply Array.ext'
   simp [bset]
  by_cases hj : i.toNat = j
  ·
   subst hj
   rw [if_pos rfl, if_pos (by rw [hz]; omega), cells8, hb, Array.getElem?_append_left (by simpa using hi)]
   simp
   omega
  ·
   rw [if_neg hj]
   unfold cells8
   rw [hb]
   by_cases hjs : j < s.size
   ·
    rw [Array.getElem?_append_left (by simpa using hjs), Array.getElem?_append_left (by simpa using hjs)]
    simp [hj]
   ·
    rw [Array.getElem?_append_right (by simpa using Nat.le_of_not_lt hjs), Array.getElem?_append_right (by simpa using Nat.le_of_not_lt hjs)]
    simp
 refine ⟨p, ?_⟩
 rw [hz2, ← hc]
 simp [World.setCell, Array.getElem?_modify, hp]
theorem row8_back {P : Program} {w : World} {g : Nat} {s : ByteArray} (h : Row8 w g s) (n cap : Nat) (hn : n = s.size) (hs : P.underlying 34 = some (.slice 5)) (he : P.underlying 5 = some (.int .u8)) (hd : P.underlying 9 = some .string) :
  (convert 34 9 (.slice (some ⟨g, 0, none⟩) n cap)).run P w = .ok (.string s) w := by
 subst hn
 have := run_convert_bytes_back (P := P) w 34 9 5 ⟨g, 0, none⟩ cap s.data.toList hs he hd (fun j hj => by
  have hj' : j < s.size := by simpa using hj
  have hc := row8_cell h (i := (j : Int)) (by omega) (by omega)
  have hb := bt_at s (j : Int)
  rw [Int.toNat_natCast] at hc hb
  have e : (⟨g, 0, none⟩ : Addr).add j = ⟨g, j, none⟩ := by simp [Addr.add]; omega
  rw [e, hc, ← hb hj']
  rfl)
 have hl : s.data.toList.length = s.size := by simp
 rw [hl] at this
 rw [this]
theorem conv_event {P : Program} {ops : Array Oper} {Q : Exit → Act → World → Prop} {rest : List Oper} {o : Oper} {a : Act} {W : World} (hgd : o.guard = none) {N : Tmp} (_hd : o.dst = some N) {s : ByteArray}
  (hrun : (execOp a.eval o).run P W = .ok (.value (.slice (some ⟨W.heap.size, 0, none⟩) s.size (grownCap W s.size 0 5))) (Lib.bytesWorld W 5 s))
  (h : ∀ g, g = W.heap.size → ∀ c w1, Row8 w1 g s → Below W.heap.size W w1 → wpList P ops Q rest (a.put o.dst (.slice (some ⟨g, 0, none⟩) s.size c)) w1) : wpList P ops Q (o :: rest) a W :=
 Kd.event_run hgd hrun (h _ rfl _ _ (row8_new W s) (by
  refine ⟨rfl, rfl, rfl, ?_, fun i hi => Lib.bytesWorld_at_old W 5 s i hi⟩
  rw [Lib.bytesWorld_size]; omega))
theorem back_event {P : Program} {ops : Array Oper} {Q : Exit → Act → World → Prop} {rest : List Oper} {o : Oper} {a : Act} {W : World} (hgd : o.guard = none) {N : Tmp} (_hd : o.dst = some N) {s : ByteArray}
  (hrun : (execOp a.eval o).run P W = .ok (.value (.string s)) W) (h : ∀ w1, w1 = W → wpList P ops Q rest (a.put o.dst (.string s)) w1) : wpList P ops Q (o :: rest) a W :=
 Kd.event_run hgd hrun (h W rfl)
theorem set_eq {s t : ByteArray} {i v : Int} (h : gosem_cut_init.f s i v = some t) : t = bset s i.toNat v := by
 unfold gosem_cut_init.f at h
 split at h
 ·
  exact (Option.some.inj h).symm
 ·
  cases h
theorem bits8_range (op : BinOp) (x y : Int) : 0 ≤ Go.bits op .u8 x y ∧ Go.bits op .u8 x y < 256 := by
 unfold Go.bits
 split <;> (try rw [IntKind.wrap_u8]) <;> omega
/-! ### rampartlaw04_TcpBack: function 8 -/
mutual
def rampartlaw04_TcpBack.j0 : Nat → Int → Int → ByteArray → Int → Bool → Int → Int → Int → Int → Int → Int → ByteArray → Option (Bool)
 | 0, _, _, _, _, _, _, _, _, _, _, _, _ => none
 | k + 1, x0, x1, x3, x4, x35, x166000, x166001, x166002, x166003, x166004, x166005, x166006 => if x35 = true then ((rampartlaw04_awake.f k).bind fun t166 => (some t166)) else ((tcp_Put.f k x0 x1 x166000 x166001 x166002 x166003 x166004 x166005 x166006 x3).bind fun bt167 => (if bt167.2 = 0 then ((tcp_Get.f k x0 x1 bt167.1).bind fun bt171 => ((tcp_Get.f k x1 x0 bt167.1).bind fun bt181 => (if bt171.2.2.2.2.2.2.2.2 = 0 then ((rampartref04_Same.f bt171.1 bt171.2.1 bt171.2.2.1 bt171.2.2.2.1 bt171.2.2.2.2.1 bt171.2.2.2.2.2.1 bt171.2.2.2.2.2.2.1 x166000 x166001 x166002 x166003 x166004 x166005 x166006).bind fun t191 => (if t191 = true then (if bt171.2.2.2.2.2.2.2.1.toList = x3.toList then (if bt181.2.2.2.2.2.2.2.2 = 0 then ((rampartref04_Same.f bt181.1 bt181.2.1 bt181.2.2.1 bt181.2.2.2.1 bt181.2.2.2.2.1 bt181.2.2.2.2.2.1 bt181.2.2.2.2.2.2.1 x166000 x166001 x166002 x166003 x166004 x166005 x166006).bind fun t192 => (if t192 = true then (rampartlaw04_TcpBack.j1 k x0 x1 x3 x4 bt167.1 (bt181.2.2.2.2.2.2.2.1.toList != x3.toList) x166000 x166001 x166002 x166003 x166004 x166005 x166006) else (rampartlaw04_TcpBack.j1 k x0 x1 x3 x4 bt167.1 true x166000 x166001 x166002 x166003 x166004 x166005 x166006))) else (rampartlaw04_TcpBack.j1 k x0 x1 x3 x4 bt167.1 true x166000 x166001 x166002 x166003 x166004 x166005 x166006)) else (rampartlaw04_TcpBack.j1 k x0 x1 x3 x4 bt167.1 true x166000 x166001 x166002 x166003 x166004 x166005 x166006)) else (rampartlaw04_TcpBack.j1 k x0 x1 x3 x4 bt167.1 true x166000 x166001 x166002 x166003 x166004 x166005 x166006))) else (rampartlaw04_TcpBack.j1 k x0 x1 x3 x4 bt167.1 true x166000 x166001 x166002 x166003 x166004 x166005 x166006)))) else (if bt167.1.toList = ([] : List UInt8) then ((tcp_Check.f x166000 x166001 x166002 x166003 x166004 x166005 x166006).bind fun t169 => (if ((bt167.2 == 1) == (!t169)) = true then ((rampartlaw04_awake.f k).bind fun t170 => (some t170)) else (some false))) else (some false))))
def rampartlaw04_TcpBack.j1 : Nat → Int → Int → ByteArray → Int → ByteArray → Bool → Int → Int → Int → Int → Int → Int → ByteArray → Option (Bool)
 | 0, _, _, _, _, _, _, _, _, _, _, _, _, _ => none
 | k + 1, x0, x1, x3, x4, x11, x103, x166000, x166001, x166002, x166003, x166004, x166005, x166006 => if x103 = true then (some false) else (if (x11.size : Int) = (wrap64 ((wrap64 (20 + (x166006.size : Int))) + (x3.size : Int))) then ((rampartlaw00_Place.f x4 (wrap64 (8 * (x11.size : Int)))).bind fun t193 => (if 0 ≤ (wrap64 (Int.tdiv t193 8)) then (if (wrap64 (Int.tdiv t193 8)) < (x11.size : Int) then (if 0 ≤ (IntKind.u64.wrap (Int.tmod t193 8)) then ((gosem_cut_init.f x11 (wrap64 (Int.tdiv t193 8)) (Go.bits .xor .u8 (bt x11 (wrap64 (Int.tdiv t193 8))) (shl .u8 1 (IntKind.u64.wrap (Int.tmod t193 8))))).bind fun t194 => ((tcp_Get.f k x0 x1 t194).bind fun bt195 => ((tcp_Get.f k (Go.bits .xor .u32 x0 1) x1 x11).bind fun bt205 => (if bt195.2.2.2.2.2.2.2.2 = 0 then (some false) else (if bt205.2.2.2.2.2.2.2.2 = 4 then ((rampartlaw04_awake.f k).bind fun t215 => (some t215)) else (some false)))))) else (none)) else (none)) else (none))) else (some false))
end
def rampartlaw04_TcpBack.f (k : Nat) (a0 : Int) (a1 : Int) (a2_0 : Int) (a2_1 : Int) (a2_2 : Int) (a2_3 : Int) (a2_4 : Int) (a2_5 : Int) (a2_6 : ByteArray) (a3 : ByteArray) (a4 : Int) : Option (Bool) := if (a2_6.size : Int) > 100 then (rampartlaw04_TcpBack.j0 k a0 a1 a3 a4 true a2_0 a2_1 a2_2 a2_3 a2_4 a2_5 a2_6) else (rampartlaw04_TcpBack.j0 k a0 a1 a3 a4 (decide ((a3.size : Int) > 2500)) a2_0 a2_1 a2_2 a2_3 a2_4 a2_5 a2_6)
theorem rampartlaw04_TcpBack.mono_l : ∀ k, (∀ y0 y1 y2 y3 y4 y5 y6 y7 y8 y9 y10 y11, LeO (rampartlaw04_TcpBack.j0 k y0 y1 y2 y3 y4 y5 y6 y7 y8 y9 y10 y11) (rampartlaw04_TcpBack.j0 (k + 1) y0 y1 y2 y3 y4 y5 y6 y7 y8 y9 y10 y11)) ∧ (∀ y0 y1 y2 y3 y4 y5 y6 y7 y8 y9 y10 y11 y12, LeO (rampartlaw04_TcpBack.j1 k y0 y1 y2 y3 y4 y5 y6 y7 y8 y9 y10 y11 y12) (rampartlaw04_TcpBack.j1 (k + 1) y0 y1 y2 y3 y4 y5 y6 y7 y8 y9 y10 y11 y12))
 | 0 => ⟨fun _ _ _ _ _ _ _ _ _ _ _ _ r h => by simp [rampartlaw04_TcpBack.j0] at h, fun _ _ _ _ _ _ _ _ _ _ _ _ _ r h => by simp [rampartlaw04_TcpBack.j1] at h⟩
 | k + 1 => by
  obtain ⟨ih0, ih1⟩ := rampartlaw04_TcpBack.mono_l k
  refine ⟨?_, ?_⟩
  ·
   intro y0 y1 y2 y3 y4 y5 y6 y7 y8 y9 y10 y11
   unfold rampartlaw04_TcpBack.j0
   repeat' first
   | (with_reducible exact ih0 _ _ _ _ _ _ _ _ _ _ _ _)
   | (with_reducible exact ih1 _ _ _ _ _ _ _ _ _ _ _ _ _)
   | (with_reducible exact rampartlaw04_awake.mono _)
   | (with_reducible exact tcp_Get.mono _ _ _ _)
   | (with_reducible exact tcp_Put.mono _ _ _ _ _ _ _ _ _ _ _)
   | (with_reducible exact LeO.refl _)
   | (with_reducible exact LeO.none _)
   | (with_reducible refine LeO.ite ?_ ?_)
   | (with_reducible refine LeO.bind ?_ (fun _ => ?_))
   | exact ih0 _ _ _ _ _ _ _ _ _ _ _ _
   | exact ih1 _ _ _ _ _ _ _ _ _ _ _ _ _
   | exact rampartlaw04_awake.mono _
   | exact tcp_Get.mono _ _ _ _
   | exact tcp_Put.mono _ _ _ _ _ _ _ _ _ _ _
   | exact LeO.none _
   | refine LeO.ite ?_ ?_
   | refine LeO.bind ?_ (fun _ => ?_)
  ·
   intro y0 y1 y2 y3 y4 y5 y6 y7 y8 y9 y10 y11 y12
   unfold rampartlaw04_TcpBack.j1
   repeat' first
   | (with_reducible exact ih0 _ _ _ _ _ _ _ _ _ _ _ _)
   | (with_reducible exact ih1 _ _ _ _ _ _ _ _ _ _ _ _ _)
   | (with_reducible exact rampartlaw04_awake.mono _)
   | (with_reducible exact tcp_Get.mono _ _ _ _)
   | (with_reducible exact tcp_Put.mono _ _ _ _ _ _ _ _ _ _ _)
   | (with_reducible exact LeO.refl _)
   | (with_reducible exact LeO.none _)
   | (with_reducible refine LeO.ite ?_ ?_)
   | (with_reducible refine LeO.bind ?_ (fun _ => ?_))
   | exact ih0 _ _ _ _ _ _ _ _ _ _ _ _
   | exact ih1 _ _ _ _ _ _ _ _ _ _ _ _ _
   | exact rampartlaw04_awake.mono _
   | exact tcp_Get.mono _ _ _ _
   | exact tcp_Put.mono _ _ _ _ _ _ _ _ _ _ _
   | exact LeO.none _
   | refine LeO.ite ?_ ?_
   | refine LeO.bind ?_ (fun _ => ?_)
theorem rampartlaw04_TcpBack.mono : ∀ a0 a1 a2 a3 a4 a5 a6 a7 a8 a9 a10 k, LeO (rampartlaw04_TcpBack.f k a0 a1 a2 a3 a4 a5 a6 a7 a8 a9 a10) (rampartlaw04_TcpBack.f (k + 1) a0 a1 a2 a3 a4 a5 a6 a7 a8 a9 a10) := by
 intro a0 a1 a2 a3 a4 a5 a6 a7 a8 a9 a10 k
 obtain ⟨ih0, ih1⟩ := rampartlaw04_TcpBack.mono_l k
 unfold rampartlaw04_TcpBack.f
 repeat' first
   | (with_reducible exact ih0 _ _ _ _ _ _ _ _ _ _ _ _)
   | (with_reducible exact ih1 _ _ _ _ _ _ _ _ _ _ _ _ _)
   | (with_reducible exact rampartlaw04_awake.mono _)
   | (with_reducible exact tcp_Get.mono _ _ _ _)
   | (with_reducible exact tcp_Put.mono _ _ _ _ _ _ _ _ _ _ _)
   | (with_reducible exact LeO.refl _)
   | (with_reducible exact LeO.none _)
   | (with_reducible refine LeO.ite ?_ ?_)
   | (with_reducible refine LeO.bind ?_ (fun _ => ?_))
   | exact ih0 _ _ _ _ _ _ _ _ _ _ _ _
   | exact ih1 _ _ _ _ _ _ _ _ _ _ _ _ _
   | exact rampartlaw04_awake.mono _
   | exact tcp_Get.mono _ _ _ _
   | exact tcp_Put.mono _ _ _ _ _ _ _ _ _ _ _
   | exact LeO.none _
   | refine LeO.ite ?_ ?_
   | refine LeO.bind ?_ (fun _ => ?_)
set_option maxHeartbeats 8000000 in
set_option maxRecDepth 100000 in
theorem rampartlaw04_TcpBack.calls (k : Nat) (a0 : Int) (a1 : Int) (a2_0 : Int) (a2_1 : Int) (a2_2 : Int) (a2_3 : Int) (a2_4 : Int) (a2_5 : Int) (a2_6 : ByteArray) (a3 : ByteArray) (a4 : Int) (r : Bool) (w : World) (h : rampartlaw04_TcpBack.f k a0 a1 a2_0 a2_1 a2_2 a2_3 a2_4 a2_5 a2_6 a3 a4 = some r) (HR0 : r = true) :
  Calls Try.prog 8 #[.int .u32 a0, .int .u32 a1, .agg #[.int .i64 a2_0, .int .i64 a2_1, .int .u32 a2_2, .int .u32 a2_3, .int .i64 a2_4, .int .i64 a2_5, .string a2_6], .string a3, .int .i64 a4] w fun e w' => e = .returned (.bool r) ∧ Below w.heap.size w w' := by
 have HR := Aside0.mk HR0
 clear HR0
 have hu42 := Try.underlying42
 have HB := Aside0.mk (Below.refl w.heap.size w)
 have H : (if (a2_6.size : Int) > 100 then (rampartlaw04_TcpBack.j0 k a0 a1 a3 a4 true a2_0 a2_1 a2_2 a2_3 a2_4 a2_5 a2_6) else (rampartlaw04_TcpBack.j0 k a0 a1 a3 a4 (decide ((a3.size : Int) > 2500)) a2_0 a2_1 a2_2 a2_3 a2_4 a2_5 a2_6)) = some r := h
 clear h
 have HC6 := Aside0.mk H
 clear H
 go_enter Try.func8, Try.ntmps8
 go_upto_region 1 with (first | ((with_reducible refine gate_dst (N := 7) rfl ?_); (try (refine gate_guard (by rfl) ?_; dsimp only)); refine box_event ?hg (N := 7) ?hd (cs := #[.int .i64 a2_0, .int .i64 a2_1, .int .u32 a2_2, .int .u32 a2_3, .int .i64 a2_4, .int .i64 a2_5, .string a2_6]) (t := 42) ?hr ?_; (case hd => rfl); (case hg => rfl); (case hr => first | (go_simp; done) | (go_simp; rfl)); intro gb165 hg w7 hbox hb; have n0_ := Aside0.mk (below_step (by repeat (first | (with_reducible first | exact HB.out | apply below_alloc | apply pw_below_drewN | apply below_drew1) | exact HB.out)) hb); have n1_ := Aside0.mk (hbox); have n2_ := Aside0.mk ((by rw [hg]; exact (below_size (by repeat (first | (with_reducible first | exact HB.out | apply below_alloc | apply pw_below_drewN | apply below_drew1) | exact HB.out))) : w.heap.size ≤ gb165)); have n3_ := Aside0.mk ((by rw [hg]; exact (below_size (by repeat (first | (with_reducible first | exact HB.out | apply below_alloc | apply pw_below_drewN | apply below_drew1) | exact HB.out))) : w.heap.size ≤ gb165)); clear HB; have HB := n0_; have BK165 := n1_; have GW165 := n2_; have GE165 := n3_; clear n0_ n1_ n2_ n3_; clear hb hbox hg))
 (try simp only [Act.put, List.setIfInBounds_toArray, List.set_cons_zero, List.set_cons_succ])
 go_cut [35] (fun v35 wc => ∃ (kq : Nat) (x35_5 : Bool), v35 = .bool x35_5 ∧ Aside0 (rampartlaw04_TcpBack.j0 kq a0 a1 a3 a4 x35_5 a2_0 a2_1 a2_2 a2_3 a2_4 a2_5 a2_6 = some r) ∧ Aside0 (kq ≤ k) ∧ Aside0 (wc.heap[gb165]? = some (.cells #[.int .i64 a2_0, .int .i64 a2_1, .int .u32 a2_2, .int .u32 a2_3, .int .i64 a2_4, .int .i64 a2_5, .string a2_6] 42 (0, 0))) ∧ Aside0 (Below w.heap.size w wc))
 case first =>
  have H := HC6.out
  clear HC6
  by_cases c8 : (a2_6.size : Int) > 100
  ·
   rw [if_pos c8] at H
   have c8b0 : decide (100 < (a2_6.size : Int)) = true := decide_eq_true c8
   have c8b1 : decide (100 < a2_6.size) = true := decide_eq_true (by omega)
   clear c8
   (first | rw [c8b0] | (simp only [i64_w, i32_w]; rw [c8b0]) | skip)
   have H' := Aside0.mk H
   clear H
   have hcz9_0 : w7.cell? ⟨gb165, 0, none⟩ = some (.int .i64 a2_0) := (blk_cell BK165.out 0).trans rfl
   have hcz9_1 : w7.cell? ⟨gb165, 1, none⟩ = some (.int .i64 a2_1) := (blk_cell BK165.out 1).trans rfl
   have hcz9_2 : w7.cell? ⟨gb165, 2, none⟩ = some (.int .u32 a2_2) := (blk_cell BK165.out 2).trans rfl
   have hcz9_3 : w7.cell? ⟨gb165, 3, none⟩ = some (.int .u32 a2_3) := (blk_cell BK165.out 3).trans rfl
   have hcz9_4 : w7.cell? ⟨gb165, 4, none⟩ = some (.int .i64 a2_4) := (blk_cell BK165.out 4).trans rfl
   have hcz9_5 : w7.cell? ⟨gb165, 5, none⟩ = some (.int .i64 a2_5) := (blk_cell BK165.out 5).trans rfl
   have hcz9_6 : w7.cell? ⟨gb165, 6, none⟩ = some (.string a2_6) := (blk_cell BK165.out 6).trans rfl
   have hfz9_0 := blk_frozen BK165.out 0
   have hfz9_1 := blk_frozen BK165.out 1
   have hfz9_2 := blk_frozen BK165.out 2
   have hfz9_3 := blk_frozen BK165.out 3
   have hfz9_4 := blk_frozen BK165.out 4
   have hfz9_5 := blk_frozen BK165.out 5
   have hfz9_6 := blk_frozen BK165.out 6
   go_wp2
   go_meet
   case rel => exact ⟨_, (true), (by first | rfl | (simp; done) | (simp [*]; done)), H', ⟨by first | omega | exact Nat.le_refl _⟩, ⟨by (with_reducible repeat (first | refine blk_drewN ?_ _ | refine blk_drew ?_ | refine blk_alloc ?_ _)); exact BK165.out⟩, ⟨by repeat (first | (with_reducible first | exact HB.out | apply below_alloc | apply pw_below_drewN | apply below_drew1 | refine below_set ?_ GE165.out) | exact HB.out)⟩⟩
  ·
   rw [if_neg c8] at H
   have c8b0 : decide (100 < (a2_6.size : Int)) = false := decide_eq_false c8
   have c8b1 : decide (100 < a2_6.size) = false := decide_eq_false (by omega)
   clear c8
   (first | rw [c8b0] | (simp only [i64_w, i32_w]; rw [c8b0]) | skip)
   have H' := Aside0.mk H
   clear H
   have hcz10_0 : w7.cell? ⟨gb165, 0, none⟩ = some (.int .i64 a2_0) := (blk_cell BK165.out 0).trans rfl
   have hcz10_1 : w7.cell? ⟨gb165, 1, none⟩ = some (.int .i64 a2_1) := (blk_cell BK165.out 1).trans rfl
   have hcz10_2 : w7.cell? ⟨gb165, 2, none⟩ = some (.int .u32 a2_2) := (blk_cell BK165.out 2).trans rfl
   have hcz10_3 : w7.cell? ⟨gb165, 3, none⟩ = some (.int .u32 a2_3) := (blk_cell BK165.out 3).trans rfl
   have hcz10_4 : w7.cell? ⟨gb165, 4, none⟩ = some (.int .i64 a2_4) := (blk_cell BK165.out 4).trans rfl
   have hcz10_5 : w7.cell? ⟨gb165, 5, none⟩ = some (.int .i64 a2_5) := (blk_cell BK165.out 5).trans rfl
   have hcz10_6 : w7.cell? ⟨gb165, 6, none⟩ = some (.string a2_6) := (blk_cell BK165.out 6).trans rfl
   have hfz10_0 := blk_frozen BK165.out 0
   have hfz10_1 := blk_frozen BK165.out 1
   have hfz10_2 := blk_frozen BK165.out 2
   have hfz10_3 := blk_frozen BK165.out 3
   have hfz10_4 := blk_frozen BK165.out 4
   have hfz10_5 := blk_frozen BK165.out 5
   have hfz10_6 := blk_frozen BK165.out 6
   go_wp2
   go_meet
   case rel => exact ⟨_, (decide ((a3.size : Int) > 2500)), (by first | rfl | (simp; done) | (simp [*]; done)), H', ⟨by first | omega | exact Nat.le_refl _⟩, ⟨by (with_reducible repeat (first | refine blk_drewN ?_ _ | refine blk_drew ?_ | refine blk_alloc ?_ _)); exact BK165.out⟩, ⟨by repeat (first | (with_reducible first | exact HB.out | apply below_alloc | apply pw_below_drewN | apply below_drew1 | refine below_set ?_ GE165.out) | exact HB.out)⟩⟩
 case rest =>
  clear HC6
  try clear p2
  try clear c8
  try clear c8b0
  try clear c8b1
  try clear hcz10_0
  try clear hcz10_1
  try clear hcz10_2
  try clear hcz10_3
  try clear hcz10_4
  try clear hcz10_5
  try clear hcz10_6
  try clear hcz9_0
  try clear hcz9_1
  try clear hcz9_2
  try clear hcz9_3
  try clear hcz9_4
  try clear hcz9_5
  try clear hcz9_6
  try clear hfz10_0
  try clear hfz10_1
  try clear hfz10_2
  try clear hfz10_3
  try clear hfz10_4
  try clear hfz10_5
  try clear hfz10_6
  try clear hfz9_0
  try clear hfz9_1
  try clear hfz9_2
  try clear hfz9_3
  try clear hfz9_4
  try clear hfz9_5
  try clear hfz9_6
  obtain ⟨kq, x35_5, rfl, HA, HJ5, BK165, HB⟩ := hcut
  cases kq with
  | zero => exact absurd HA.out (by simp [rampartlaw04_TcpBack.j0])
  | succ kj5 =>
   have H := HA.out
   clear HA
   simp only [rampartlaw04_TcpBack.j0] at H
   by_cases c11 : x35_5 = true
   ·
    subst c11
    have H1 : ((rampartlaw04_awake.f kj5).bind fun t166 => (some t166)) = some r := by rw [if_pos rfl] at H; exact H
    clear H
    have H := H1
    clear H1
    replace H := Option.bind_eq_some_iff.mp H
    obtain ⟨t166, A120, H⟩ := H
    replace H : (some t166) = some r := H
    have A12 := Aside0.mk A120
    clear A120
    obtain rfl := Option.some.inj H
    go_wp2_with (first | ((with_reducible refine gate_callee (f := 24) rfl ?_); refine goesL_ (some 36) rfl rfl Try.func24 (by kernel_rfl) rfl #[] rfl (by (try simp only [List.map_toArray, List.map_cons, List.map_nil]); first | done | rfl | (simp only [List.length_drop, List.length_take]; rfl)) ?_; (with_reducible refine (rampartlaw04_awake.calls kj5  t166 _ A12.out (by first | rfl | exact HR.out)).mono ?_); rintro e w13 ⟨rfl, hb⟩; refine ⟨_, rfl, ?_⟩; have n0_ := Aside0.mk (blk_below (g := gb165) (o := .cells #[.int .i64 a2_0, .int .i64 a2_1, .int .u32 a2_2, .int .u32 a2_3, .int .i64 a2_4, .int .i64 a2_5, .string a2_6] 42 (0, 0)) (by (with_reducible repeat (first | refine blk_drewN ?_ _ | refine blk_drew ?_ | refine blk_alloc ?_ _)); exact BK165.out) hb); have n1_ := Aside0.mk (below_step (by repeat (first | (with_reducible first | exact HB.out | apply below_alloc | apply pw_below_drewN | apply below_drew1 | refine below_set ?_ GE165.out) | exact HB.out)) hb); clear BK165; clear HB; have BK165 := n0_; have HB := n1_; clear n0_ n1_; (try clear hb); (try clear hb2); (try clear hk); (try clear hi)))
    go_ret
    exact ⟨by first | rfl | (simp [errW_none, errW_some] <;> rfl) | (simp [*, errW_none, errW_some] <;> rfl), by repeat (first | (with_reducible first | exact HB.out | apply below_alloc | apply pw_below_drewN | apply below_drew1 | refine below_set ?_ GE165.out) | exact HB.out)⟩
   ·
    replace c11 := Bool.eq_false_iff.mpr c11
    subst c11
    have H1 : ((tcp_Put.f kj5 a0 a1 a2_0 a2_1 a2_2 a2_3 a2_4 a2_5 a2_6 a3).bind fun bt167 => (if bt167.2 = 0 then ((tcp_Get.f kj5 a0 a1 bt167.1).bind fun bt171 => ((tcp_Get.f kj5 a1 a0 bt167.1).bind fun bt181 => (if bt171.2.2.2.2.2.2.2.2 = 0 then ((rampartref04_Same.f bt171.1 bt171.2.1 bt171.2.2.1 bt171.2.2.2.1 bt171.2.2.2.2.1 bt171.2.2.2.2.2.1 bt171.2.2.2.2.2.2.1 a2_0 a2_1 a2_2 a2_3 a2_4 a2_5 a2_6).bind fun t191 => (if t191 = true then (if bt171.2.2.2.2.2.2.2.1.toList = a3.toList then (if bt181.2.2.2.2.2.2.2.2 = 0 then ((rampartref04_Same.f bt181.1 bt181.2.1 bt181.2.2.1 bt181.2.2.2.1 bt181.2.2.2.2.1 bt181.2.2.2.2.2.1 bt181.2.2.2.2.2.2.1 a2_0 a2_1 a2_2 a2_3 a2_4 a2_5 a2_6).bind fun t192 => (if t192 = true then (rampartlaw04_TcpBack.j1 kj5 a0 a1 a3 a4 bt167.1 (bt181.2.2.2.2.2.2.2.1.toList != a3.toList) a2_0 a2_1 a2_2 a2_3 a2_4 a2_5 a2_6) else (rampartlaw04_TcpBack.j1 kj5 a0 a1 a3 a4 bt167.1 true a2_0 a2_1 a2_2 a2_3 a2_4 a2_5 a2_6))) else (rampartlaw04_TcpBack.j1 kj5 a0 a1 a3 a4 bt167.1 true a2_0 a2_1 a2_2 a2_3 a2_4 a2_5 a2_6)) else (rampartlaw04_TcpBack.j1 kj5 a0 a1 a3 a4 bt167.1 true a2_0 a2_1 a2_2 a2_3 a2_4 a2_5 a2_6)) else (rampartlaw04_TcpBack.j1 kj5 a0 a1 a3 a4 bt167.1 true a2_0 a2_1 a2_2 a2_3 a2_4 a2_5 a2_6))) else (rampartlaw04_TcpBack.j1 kj5 a0 a1 a3 a4 bt167.1 true a2_0 a2_1 a2_2 a2_3 a2_4 a2_5 a2_6)))) else (if bt167.1.toList = ([] : List UInt8) then ((tcp_Check.f a2_0 a2_1 a2_2 a2_3 a2_4 a2_5 a2_6).bind fun t169 => (if ((bt167.2 == 1) == (!t169)) = true then ((rampartlaw04_awake.f kj5).bind fun t170 => (some t170)) else (some false))) else (some false)))) = some r := by rw [if_neg (show ¬ (false = true) by decide)] at H; exact H
    clear H
    have H := H1
    clear H1
    replace H := Option.bind_eq_some_iff.mp H
    obtain ⟨⟨t167, t168⟩, A140, H⟩ := H
    replace H : (if t168 = 0 then ((tcp_Get.f kj5 a0 a1 t167).bind fun bt171 => ((tcp_Get.f kj5 a1 a0 t167).bind fun bt181 => (if bt171.2.2.2.2.2.2.2.2 = 0 then ((rampartref04_Same.f bt171.1 bt171.2.1 bt171.2.2.1 bt171.2.2.2.1 bt171.2.2.2.2.1 bt171.2.2.2.2.2.1 bt171.2.2.2.2.2.2.1 a2_0 a2_1 a2_2 a2_3 a2_4 a2_5 a2_6).bind fun t191 => (if t191 = true then (if bt171.2.2.2.2.2.2.2.1.toList = a3.toList then (if bt181.2.2.2.2.2.2.2.2 = 0 then ((rampartref04_Same.f bt181.1 bt181.2.1 bt181.2.2.1 bt181.2.2.2.1 bt181.2.2.2.2.1 bt181.2.2.2.2.2.1 bt181.2.2.2.2.2.2.1 a2_0 a2_1 a2_2 a2_3 a2_4 a2_5 a2_6).bind fun t192 => (if t192 = true then (rampartlaw04_TcpBack.j1 kj5 a0 a1 a3 a4 t167 (bt181.2.2.2.2.2.2.2.1.toList != a3.toList) a2_0 a2_1 a2_2 a2_3 a2_4 a2_5 a2_6) else (rampartlaw04_TcpBack.j1 kj5 a0 a1 a3 a4 t167 true a2_0 a2_1 a2_2 a2_3 a2_4 a2_5 a2_6))) else (rampartlaw04_TcpBack.j1 kj5 a0 a1 a3 a4 t167 true a2_0 a2_1 a2_2 a2_3 a2_4 a2_5 a2_6)) else (rampartlaw04_TcpBack.j1 kj5 a0 a1 a3 a4 t167 true a2_0 a2_1 a2_2 a2_3 a2_4 a2_5 a2_6)) else (rampartlaw04_TcpBack.j1 kj5 a0 a1 a3 a4 t167 true a2_0 a2_1 a2_2 a2_3 a2_4 a2_5 a2_6))) else (rampartlaw04_TcpBack.j1 kj5 a0 a1 a3 a4 t167 true a2_0 a2_1 a2_2 a2_3 a2_4 a2_5 a2_6)))) else (if t167.toList = ([] : List UInt8) then ((tcp_Check.f a2_0 a2_1 a2_2 a2_3 a2_4 a2_5 a2_6).bind fun t169 => (if ((t168 == 1) == (!t169)) = true then ((rampartlaw04_awake.f kj5).bind fun t170 => (some t170)) else (some false))) else (some false))) = some r := H
    have A14 := Aside0.mk A140
    clear A140
    by_cases c15 : t168 = 0
    ·
     rw [if_pos c15] at H
     have c15b0 : (t168 == 0) = true := beq_iff_eq.mpr c15
     have c15b1 : (t168 != 0) = false := bne_eq_false_iff_eq.mpr c15
     clear c15
     replace H := Option.bind_eq_some_iff.mp H
     obtain ⟨⟨t171, t172, t173, t174, t175, t176, t177, t178, t179⟩, A160, H⟩ := H
     replace H : ((tcp_Get.f kj5 a1 a0 t167).bind fun bt181 => (if t179 = 0 then ((rampartref04_Same.f t171 t172 t173 t174 t175 t176 t177 a2_0 a2_1 a2_2 a2_3 a2_4 a2_5 a2_6).bind fun t191 => (if t191 = true then (if t178.toList = a3.toList then (if bt181.2.2.2.2.2.2.2.2 = 0 then ((rampartref04_Same.f bt181.1 bt181.2.1 bt181.2.2.1 bt181.2.2.2.1 bt181.2.2.2.2.1 bt181.2.2.2.2.2.1 bt181.2.2.2.2.2.2.1 a2_0 a2_1 a2_2 a2_3 a2_4 a2_5 a2_6).bind fun t192 => (if t192 = true then (rampartlaw04_TcpBack.j1 kj5 a0 a1 a3 a4 t167 (bt181.2.2.2.2.2.2.2.1.toList != a3.toList) a2_0 a2_1 a2_2 a2_3 a2_4 a2_5 a2_6) else (rampartlaw04_TcpBack.j1 kj5 a0 a1 a3 a4 t167 true a2_0 a2_1 a2_2 a2_3 a2_4 a2_5 a2_6))) else (rampartlaw04_TcpBack.j1 kj5 a0 a1 a3 a4 t167 true a2_0 a2_1 a2_2 a2_3 a2_4 a2_5 a2_6)) else (rampartlaw04_TcpBack.j1 kj5 a0 a1 a3 a4 t167 true a2_0 a2_1 a2_2 a2_3 a2_4 a2_5 a2_6)) else (rampartlaw04_TcpBack.j1 kj5 a0 a1 a3 a4 t167 true a2_0 a2_1 a2_2 a2_3 a2_4 a2_5 a2_6))) else (rampartlaw04_TcpBack.j1 kj5 a0 a1 a3 a4 t167 true a2_0 a2_1 a2_2 a2_3 a2_4 a2_5 a2_6))) = some r := H
     have A16 := Aside0.mk A160
     clear A160
     replace H := Option.bind_eq_some_iff.mp H
     obtain ⟨⟨t181, t182, t183, t184, t185, t186, t187, t188, t189⟩, A170, H⟩ := H
     replace H : (if t179 = 0 then ((rampartref04_Same.f t171 t172 t173 t174 t175 t176 t177 a2_0 a2_1 a2_2 a2_3 a2_4 a2_5 a2_6).bind fun t191 => (if t191 = true then (if t178.toList = a3.toList then (if t189 = 0 then ((rampartref04_Same.f t181 t182 t183 t184 t185 t186 t187 a2_0 a2_1 a2_2 a2_3 a2_4 a2_5 a2_6).bind fun t192 => (if t192 = true then (rampartlaw04_TcpBack.j1 kj5 a0 a1 a3 a4 t167 (t188.toList != a3.toList) a2_0 a2_1 a2_2 a2_3 a2_4 a2_5 a2_6) else (rampartlaw04_TcpBack.j1 kj5 a0 a1 a3 a4 t167 true a2_0 a2_1 a2_2 a2_3 a2_4 a2_5 a2_6))) else (rampartlaw04_TcpBack.j1 kj5 a0 a1 a3 a4 t167 true a2_0 a2_1 a2_2 a2_3 a2_4 a2_5 a2_6)) else (rampartlaw04_TcpBack.j1 kj5 a0 a1 a3 a4 t167 true a2_0 a2_1 a2_2 a2_3 a2_4 a2_5 a2_6)) else (rampartlaw04_TcpBack.j1 kj5 a0 a1 a3 a4 t167 true a2_0 a2_1 a2_2 a2_3 a2_4 a2_5 a2_6))) else (rampartlaw04_TcpBack.j1 kj5 a0 a1 a3 a4 t167 true a2_0 a2_1 a2_2 a2_3 a2_4 a2_5 a2_6)) = some r := H
     have A17 := Aside0.mk A170
     clear A170
     have HC18 := Aside0.mk H
     clear H
     have hcz19_0 : wc.cell? ⟨gb165, 0, none⟩ = some (.int .i64 a2_0) := (blk_cell BK165.out 0).trans rfl
     have hcz19_1 : wc.cell? ⟨gb165, 1, none⟩ = some (.int .i64 a2_1) := (blk_cell BK165.out 1).trans rfl
     have hcz19_2 : wc.cell? ⟨gb165, 2, none⟩ = some (.int .u32 a2_2) := (blk_cell BK165.out 2).trans rfl
     have hcz19_3 : wc.cell? ⟨gb165, 3, none⟩ = some (.int .u32 a2_3) := (blk_cell BK165.out 3).trans rfl
     have hcz19_4 : wc.cell? ⟨gb165, 4, none⟩ = some (.int .i64 a2_4) := (blk_cell BK165.out 4).trans rfl
     have hcz19_5 : wc.cell? ⟨gb165, 5, none⟩ = some (.int .i64 a2_5) := (blk_cell BK165.out 5).trans rfl
     have hcz19_6 : wc.cell? ⟨gb165, 6, none⟩ = some (.string a2_6) := (blk_cell BK165.out 6).trans rfl
     have hfz19_0 := blk_frozen BK165.out 0
     have hfz19_1 := blk_frozen BK165.out 1
     have hfz19_2 := blk_frozen BK165.out 2
     have hfz19_3 := blk_frozen BK165.out 3
     have hfz19_4 := blk_frozen BK165.out 4
     have hfz19_5 := blk_frozen BK165.out 5
     have hfz19_6 := blk_frozen BK165.out 6
     go_upto_region 8 with (first | ((with_reducible refine gate_callee (f := 25) rfl ?_); refine goesL_ (some 42) rfl rfl Try.func25 (by kernel_rfl) rfl #[.int .u32 a0, .int .u32 a1, .agg #[.int .i64 a2_0, .int .i64 a2_1, .int .u32 a2_2, .int .u32 a2_3, .int .i64 a2_4, .int .i64 a2_5, .string a2_6], .string a3] rfl (by (try simp only [List.map_toArray, List.map_cons, List.map_nil]); first | done | rfl | (simp only [List.length_drop, List.length_take]; rfl)) ?_; (with_reducible refine (tcp_Put.calls kj5 a0 a1 a2_0 a2_1 a2_2 a2_3 a2_4 a2_5 a2_6 a3 t167 t168 _ A14.out).mono ?_); rintro e w20 ⟨rfl, hb⟩; refine ⟨_, rfl, ?_⟩; have n0_ := Aside0.mk (blk_below (g := gb165) (o := .cells #[.int .i64 a2_0, .int .i64 a2_1, .int .u32 a2_2, .int .u32 a2_3, .int .i64 a2_4, .int .i64 a2_5, .string a2_6] 42 (0, 0)) (by (with_reducible repeat (first | refine blk_drewN ?_ _ | refine blk_drew ?_ | refine blk_alloc ?_ _)); exact BK165.out) hb); have n1_ := Aside0.mk (below_step (by repeat (first | (with_reducible first | exact HB.out | apply below_alloc | apply pw_below_drewN | apply below_drew1 | refine below_set ?_ GE165.out) | exact HB.out)) hb); clear BK165; clear HB; have BK165 := n0_; have HB := n1_; clear n0_ n1_; (try clear hb); (try clear hb2); (try clear hk); (try clear hi)) | ((with_reducible refine gate_callee (f := 27) rfl ?_); refine goesL_ (some 64) rfl rfl Try.func27 (by kernel_rfl) rfl #[.int .u32 a0, .int .u32 a1, .string t167] rfl (by (try simp only [List.map_toArray, List.map_cons, List.map_nil]); first | done | rfl | (simp only [List.length_drop, List.length_take]; rfl)) ?_; (with_reducible refine (tcp_Get.calls kj5 a0 a1 t167 t171 t172 t173 t174 t175 t176 t177 t178 t179 _ A16.out).mono ?_); rintro e w21 ⟨rfl, hb⟩; refine ⟨_, rfl, ?_⟩; have n0_ := Aside0.mk (blk_below (g := gb165) (o := .cells #[.int .i64 a2_0, .int .i64 a2_1, .int .u32 a2_2, .int .u32 a2_3, .int .i64 a2_4, .int .i64 a2_5, .string a2_6] 42 (0, 0)) (by (with_reducible repeat (first | refine blk_drewN ?_ _ | refine blk_drew ?_ | refine blk_alloc ?_ _)); exact BK165.out) hb); have n1_ := Aside0.mk (below_step (by repeat (first | (with_reducible first | exact HB.out | apply below_alloc | apply pw_below_drewN | apply below_drew1 | refine below_set ?_ GE165.out) | exact HB.out)) hb); clear BK165; clear HB; have BK165 := n0_; have HB := n1_; clear n0_ n1_; (try clear hb); (try clear hb2); (try clear hk); (try clear hi)) | ((with_reducible refine gate_dst (N := 13) rfl ?_); (try (refine gate_guard (by rfl) ?_; dsimp only)); refine box_event ?hg (N := 13) ?hd (cs := #[.int .i64 0, .int .i64 0, .int .u32 0, .int .u32 0, .int .i64 0, .int .i64 0, .string (⟨#[]⟩ : ByteArray)]) (t := 42) ?hr ?_; (case hd => rfl); (case hg => rfl); (case hr => first | (go_simp; done) | (go_simp; rfl)); intro gb180 hg w22 hbox hb; have n0_ := Aside0.mk (blk_below (g := gb165) (o := .cells #[.int .i64 a2_0, .int .i64 a2_1, .int .u32 a2_2, .int .u32 a2_3, .int .i64 a2_4, .int .i64 a2_5, .string a2_6] 42 (0, 0)) (by (with_reducible repeat (first | refine blk_drewN ?_ _ | refine blk_drew ?_ | refine blk_alloc ?_ _)); exact BK165.out) hb); have n1_ := Aside0.mk (below_step (by repeat (first | (with_reducible first | exact HB.out | apply below_alloc | apply pw_below_drewN | apply below_drew1 | refine below_set ?_ GE165.out) | exact HB.out)) hb); have n2_ := Aside0.mk (hbox); have n3_ := Aside0.mk ((by rw [hg]; exact (below_size (by repeat (first | (with_reducible first | exact HB.out | apply below_alloc | apply pw_below_drewN | apply below_drew1 | refine below_set ?_ GE165.out) | exact HB.out))) : w.heap.size ≤ gb180)); have n4_ := Aside0.mk ((by rw [hg]; exact (below_size (by repeat (first | (with_reducible first | exact HB.out | apply below_alloc | apply pw_below_drewN | apply below_drew1 | refine below_set ?_ GE165.out) | exact HB.out))) : w.heap.size ≤ gb180)); have n5_ := Aside0.mk ((by rw [hg]; exact Nat.ne_of_lt (blk_lt (g := gb165) (o := .cells #[.int .i64 a2_0, .int .i64 a2_1, .int .u32 a2_2, .int .u32 a2_3, .int .i64 a2_4, .int .i64 a2_5, .string a2_6] 42 (0, 0)) (by (with_reducible repeat (first | refine blk_drewN ?_ _ | refine blk_drew ?_ | refine blk_alloc ?_ _)); exact BK165.out)) : gb165 ≠ gb180)); have n6_ := Aside0.mk ((by rw [hg]; exact Nat.ne_of_gt (blk_lt (g := gb165) (o := .cells #[.int .i64 a2_0, .int .i64 a2_1, .int .u32 a2_2, .int .u32 a2_3, .int .i64 a2_4, .int .i64 a2_5, .string a2_6] 42 (0, 0)) (by (with_reducible repeat (first | refine blk_drewN ?_ _ | refine blk_drew ?_ | refine blk_alloc ?_ _)); exact BK165.out)) : gb180 ≠ gb165)); clear BK165; clear HB; have BK165 := n0_; have HB := n1_; have BK180 := n2_; have GW180 := n3_; have GE180 := n4_; have NB165_180 := n5_; have NB180_165 := n6_; clear n0_ n1_ n2_ n3_ n4_ n5_ n6_; clear hb hbox hg; have hnb23 := NB180_165.out; have hnc23 := NB165_180.out; have hcz24_0 : w22.cell? ⟨gb180, 0, none⟩ = some (.int .i64 0) := (blk_cell BK180.out 0).trans rfl; have hcz24_1 : w22.cell? ⟨gb180, 1, none⟩ = some (.int .i64 0) := (blk_cell BK180.out 1).trans rfl; have hcz24_2 : w22.cell? ⟨gb180, 2, none⟩ = some (.int .u32 0) := (blk_cell BK180.out 2).trans rfl; have hcz24_3 : w22.cell? ⟨gb180, 3, none⟩ = some (.int .u32 0) := (blk_cell BK180.out 3).trans rfl; have hcz24_4 : w22.cell? ⟨gb180, 4, none⟩ = some (.int .i64 0) := (blk_cell BK180.out 4).trans rfl; have hcz24_5 : w22.cell? ⟨gb180, 5, none⟩ = some (.int .i64 0) := (blk_cell BK180.out 5).trans rfl; have hcz24_6 : w22.cell? ⟨gb180, 6, none⟩ = some (.string (⟨#[]⟩ : ByteArray)) := (blk_cell BK180.out 6).trans rfl; have hfz24_0 := blk_frozen BK180.out 0; have hfz24_1 := blk_frozen BK180.out 1; have hfz24_2 := blk_frozen BK180.out 2; have hfz24_3 := blk_frozen BK180.out 3; have hfz24_4 := blk_frozen BK180.out 4; have hfz24_5 := blk_frozen BK180.out 5; have hfz24_6 := blk_frozen BK180.out 6) | ((with_reducible refine gate_callee (f := 27) rfl ?_); refine goesL_ (some 72) rfl rfl Try.func27 (by kernel_rfl) rfl #[.int .u32 a1, .int .u32 a0, .string t167] rfl (by (try simp only [List.map_toArray, List.map_cons, List.map_nil]); first | done | rfl | (simp only [List.length_drop, List.length_take]; rfl)) ?_; (with_reducible refine (tcp_Get.calls kj5 a1 a0 t167 t181 t182 t183 t184 t185 t186 t187 t188 t189 _ A17.out).mono ?_); rintro e w25 ⟨rfl, hb⟩; refine ⟨_, rfl, ?_⟩; have n0_ := Aside0.mk (blk_below (g := gb165) (o := .cells #[.int .i64 a2_0, .int .i64 a2_1, .int .u32 a2_2, .int .u32 a2_3, .int .i64 a2_4, .int .i64 a2_5, .string a2_6] 42 (0, 0)) (by (with_reducible repeat (first | refine blk_drewN ?_ _ | refine blk_drew ?_ | refine blk_alloc ?_ _)); refine blk_far ?_ NB165_180.out _; (with_reducible repeat (first | refine blk_drewN ?_ _ | refine blk_drew ?_ | refine blk_alloc ?_ _)); refine blk_far ?_ NB165_180.out _; (with_reducible repeat (first | refine blk_drewN ?_ _ | refine blk_drew ?_ | refine blk_alloc ?_ _)); refine blk_far ?_ NB165_180.out _; (with_reducible repeat (first | refine blk_drewN ?_ _ | refine blk_drew ?_ | refine blk_alloc ?_ _)); refine blk_far ?_ NB165_180.out _; (with_reducible repeat (first | refine blk_drewN ?_ _ | refine blk_drew ?_ | refine blk_alloc ?_ _)); refine blk_far ?_ NB165_180.out _; (with_reducible repeat (first | refine blk_drewN ?_ _ | refine blk_drew ?_ | refine blk_alloc ?_ _)); refine blk_far ?_ NB165_180.out _; (with_reducible repeat (first | refine blk_drewN ?_ _ | refine blk_drew ?_ | refine blk_alloc ?_ _)); refine blk_far ?_ NB165_180.out _; (with_reducible repeat (first | refine blk_drewN ?_ _ | refine blk_drew ?_ | refine blk_alloc ?_ _)); exact BK165.out) hb); have n1_ := Aside0.mk (blk_below (g := gb180) (o := .cells #[.int .i64 t171, .int .i64 t172, .int .u32 t173, .int .u32 t174, .int .i64 t175, .int .i64 t176, .string t177] 42 (0, 0)) (by (with_reducible repeat (first | refine blk_drewN ?_ _ | refine blk_drew ?_ | refine blk_alloc ?_ _)); refine blk_put (cs := #[.int .i64 t171, .int .i64 t172, .int .u32 t173, .int .u32 t174, .int .i64 t175, .int .i64 t176, .string (⟨#[]⟩ : ByteArray)]) ?_ 6 _ rfl; (with_reducible repeat (first | refine blk_drewN ?_ _ | refine blk_drew ?_ | refine blk_alloc ?_ _)); refine blk_put (cs := #[.int .i64 t171, .int .i64 t172, .int .u32 t173, .int .u32 t174, .int .i64 t175, .int .i64 0, .string (⟨#[]⟩ : ByteArray)]) ?_ 5 _ rfl; (with_reducible repeat (first | refine blk_drewN ?_ _ | refine blk_drew ?_ | refine blk_alloc ?_ _)); refine blk_put (cs := #[.int .i64 t171, .int .i64 t172, .int .u32 t173, .int .u32 t174, .int .i64 0, .int .i64 0, .string (⟨#[]⟩ : ByteArray)]) ?_ 4 _ rfl; (with_reducible repeat (first | refine blk_drewN ?_ _ | refine blk_drew ?_ | refine blk_alloc ?_ _)); refine blk_put (cs := #[.int .i64 t171, .int .i64 t172, .int .u32 t173, .int .u32 0, .int .i64 0, .int .i64 0, .string (⟨#[]⟩ : ByteArray)]) ?_ 3 _ rfl; (with_reducible repeat (first | refine blk_drewN ?_ _ | refine blk_drew ?_ | refine blk_alloc ?_ _)); refine blk_put (cs := #[.int .i64 t171, .int .i64 t172, .int .u32 0, .int .u32 0, .int .i64 0, .int .i64 0, .string (⟨#[]⟩ : ByteArray)]) ?_ 2 _ rfl; (with_reducible repeat (first | refine blk_drewN ?_ _ | refine blk_drew ?_ | refine blk_alloc ?_ _)); refine blk_put (cs := #[.int .i64 t171, .int .i64 0, .int .u32 0, .int .u32 0, .int .i64 0, .int .i64 0, .string (⟨#[]⟩ : ByteArray)]) ?_ 1 _ rfl; (with_reducible repeat (first | refine blk_drewN ?_ _ | refine blk_drew ?_ | refine blk_alloc ?_ _)); refine blk_put (cs := #[.int .i64 0, .int .i64 0, .int .u32 0, .int .u32 0, .int .i64 0, .int .i64 0, .string (⟨#[]⟩ : ByteArray)]) ?_ 0 _ rfl; (with_reducible repeat (first | refine blk_drewN ?_ _ | refine blk_drew ?_ | refine blk_alloc ?_ _)); exact BK180.out) hb); have n2_ := Aside0.mk (below_step (by repeat (first | (with_reducible first | exact HB.out | apply below_alloc | apply pw_below_drewN | apply below_drew1 | refine below_set ?_ GE165.out | refine below_set ?_ GE180.out) | exact HB.out)) hb); clear BK165; clear BK180; clear HB; have BK165 := n0_; have BK180 := n1_; have HB := n2_; clear n0_ n1_ n2_; (try clear hb); (try clear hb2); (try clear hk); (try clear hi)) | ((with_reducible refine gate_dst (N := 16) rfl ?_); (try (refine gate_guard (by rfl) ?_; dsimp only)); refine box_event ?hg (N := 16) ?hd (cs := #[.int .i64 0, .int .i64 0, .int .u32 0, .int .u32 0, .int .i64 0, .int .i64 0, .string (⟨#[]⟩ : ByteArray)]) (t := 42) ?hr ?_; (case hd => rfl); (case hg => rfl); (case hr => first | (go_simp; done) | (go_simp; rfl)); intro gb190 hg w26 hbox hb; have n0_ := Aside0.mk (blk_below (g := gb165) (o := .cells #[.int .i64 a2_0, .int .i64 a2_1, .int .u32 a2_2, .int .u32 a2_3, .int .i64 a2_4, .int .i64 a2_5, .string a2_6] 42 (0, 0)) (by (with_reducible repeat (first | refine blk_drewN ?_ _ | refine blk_drew ?_ | refine blk_alloc ?_ _)); exact BK165.out) hb); have n1_ := Aside0.mk (blk_below (g := gb180) (o := .cells #[.int .i64 t171, .int .i64 t172, .int .u32 t173, .int .u32 t174, .int .i64 t175, .int .i64 t176, .string t177] 42 (0, 0)) (by (with_reducible repeat (first | refine blk_drewN ?_ _ | refine blk_drew ?_ | refine blk_alloc ?_ _)); exact BK180.out) hb); have n2_ := Aside0.mk (below_step (by repeat (first | (with_reducible first | exact HB.out | apply below_alloc | apply pw_below_drewN | apply below_drew1 | refine below_set ?_ GE165.out | refine below_set ?_ GE180.out) | exact HB.out)) hb); have n3_ := Aside0.mk (hbox); have n4_ := Aside0.mk ((by rw [hg]; exact (below_size (by repeat (first | (with_reducible first | exact HB.out | apply below_alloc | apply pw_below_drewN | apply below_drew1 | refine below_set ?_ GE165.out | refine below_set ?_ GE180.out) | exact HB.out))) : w.heap.size ≤ gb190)); have n5_ := Aside0.mk ((by rw [hg]; exact (below_size (by repeat (first | (with_reducible first | exact HB.out | apply below_alloc | apply pw_below_drewN | apply below_drew1 | refine below_set ?_ GE165.out | refine below_set ?_ GE180.out) | exact HB.out))) : w.heap.size ≤ gb190)); have n6_ := Aside0.mk ((by rw [hg]; exact Nat.ne_of_lt (blk_lt (g := gb165) (o := .cells #[.int .i64 a2_0, .int .i64 a2_1, .int .u32 a2_2, .int .u32 a2_3, .int .i64 a2_4, .int .i64 a2_5, .string a2_6] 42 (0, 0)) (by (with_reducible repeat (first | refine blk_drewN ?_ _ | refine blk_drew ?_ | refine blk_alloc ?_ _)); exact BK165.out)) : gb165 ≠ gb190)); have n7_ := Aside0.mk ((by rw [hg]; exact Nat.ne_of_gt (blk_lt (g := gb165) (o := .cells #[.int .i64 a2_0, .int .i64 a2_1, .int .u32 a2_2, .int .u32 a2_3, .int .i64 a2_4, .int .i64 a2_5, .string a2_6] 42 (0, 0)) (by (with_reducible repeat (first | refine blk_drewN ?_ _ | refine blk_drew ?_ | refine blk_alloc ?_ _)); exact BK165.out)) : gb190 ≠ gb165)); have n8_ := Aside0.mk ((by rw [hg]; exact Nat.ne_of_lt (blk_lt (g := gb180) (o := .cells #[.int .i64 t171, .int .i64 t172, .int .u32 t173, .int .u32 t174, .int .i64 t175, .int .i64 t176, .string t177] 42 (0, 0)) (by (with_reducible repeat (first | refine blk_drewN ?_ _ | refine blk_drew ?_ | refine blk_alloc ?_ _)); exact BK180.out)) : gb180 ≠ gb190)); have n9_ := Aside0.mk ((by rw [hg]; exact Nat.ne_of_gt (blk_lt (g := gb180) (o := .cells #[.int .i64 t171, .int .i64 t172, .int .u32 t173, .int .u32 t174, .int .i64 t175, .int .i64 t176, .string t177] 42 (0, 0)) (by (with_reducible repeat (first | refine blk_drewN ?_ _ | refine blk_drew ?_ | refine blk_alloc ?_ _)); exact BK180.out)) : gb190 ≠ gb180)); clear BK165; clear BK180; clear HB; have BK165 := n0_; have BK180 := n1_; have HB := n2_; have BK190 := n3_; have GW190 := n4_; have GE190 := n5_; have NB165_190 := n6_; have NB190_165 := n7_; have NB180_190 := n8_; have NB190_180 := n9_; clear n0_ n1_ n2_ n3_ n4_ n5_ n6_ n7_ n8_ n9_; clear hb hbox hg; have hnb27 := NB190_165.out; have hnc27 := NB165_190.out; have hnb28 := NB190_180.out; have hnc28 := NB180_190.out; have hcz29_0 : w26.cell? ⟨gb190, 0, none⟩ = some (.int .i64 0) := (blk_cell BK190.out 0).trans rfl; have hcz29_1 : w26.cell? ⟨gb190, 1, none⟩ = some (.int .i64 0) := (blk_cell BK190.out 1).trans rfl; have hcz29_2 : w26.cell? ⟨gb190, 2, none⟩ = some (.int .u32 0) := (blk_cell BK190.out 2).trans rfl; have hcz29_3 : w26.cell? ⟨gb190, 3, none⟩ = some (.int .u32 0) := (blk_cell BK190.out 3).trans rfl; have hcz29_4 : w26.cell? ⟨gb190, 4, none⟩ = some (.int .i64 0) := (blk_cell BK190.out 4).trans rfl; have hcz29_5 : w26.cell? ⟨gb190, 5, none⟩ = some (.int .i64 0) := (blk_cell BK190.out 5).trans rfl; have hcz29_6 : w26.cell? ⟨gb190, 6, none⟩ = some (.string (⟨#[]⟩ : ByteArray)) := (blk_cell BK190.out 6).trans rfl; have hfz29_0 := blk_frozen BK190.out 0; have hfz29_1 := blk_frozen BK190.out 1; have hfz29_2 := blk_frozen BK190.out 2; have hfz29_3 := blk_frozen BK190.out 3; have hfz29_4 := blk_frozen BK190.out 4; have hfz29_5 := blk_frozen BK190.out 5; have hfz29_6 := blk_frozen BK190.out 6))
     (try simp only [Act.put, List.setIfInBounds_toArray, List.set_cons_zero, List.set_cons_succ])
     go_cut [103] (fun v103 wc => ∃ (kq : Nat) (x103_17 : Bool), v103 = .bool x103_17 ∧ Aside0 (rampartlaw04_TcpBack.j1 kq a0 a1 a3 a4 t167 x103_17 a2_0 a2_1 a2_2 a2_3 a2_4 a2_5 a2_6 = some r) ∧ Aside0 (kq ≤ kj5) ∧ Aside0 (wc.heap[gb165]? = some (.cells #[.int .i64 a2_0, .int .i64 a2_1, .int .u32 a2_2, .int .u32 a2_3, .int .i64 a2_4, .int .i64 a2_5, .string a2_6] 42 (0, 0))) ∧ Aside0 (wc.heap[gb180]? = some (.cells #[.int .i64 t171, .int .i64 t172, .int .u32 t173, .int .u32 t174, .int .i64 t175, .int .i64 t176, .string t177] 42 (0, 0))) ∧ Aside0 (wc.heap[gb190]? = some (.cells #[.int .i64 t181, .int .i64 t182, .int .u32 t183, .int .u32 t184, .int .i64 t185, .int .i64 t186, .string t187] 42 (0, 0))) ∧ Aside0 (Below w.heap.size w wc))
     case first =>
      have H := HC18.out
      clear HC18
      by_cases c30 : t179 = 0
      ·
       rw [if_pos c30] at H
       have c30b0 : (t179 == 0) = true := beq_iff_eq.mpr c30
       have c30b1 : (t179 != 0) = false := bne_eq_false_iff_eq.mpr c30
       clear c30
       (first | rw [c30b0] | (simp only [i64_w, i32_w]; rw [c30b0]) | skip)
       replace H := Option.bind_eq_some_iff.mp H
       obtain ⟨t191, A310, H⟩ := H
       replace H : (if t191 = true then (if t178.toList = a3.toList then (if t189 = 0 then ((rampartref04_Same.f t181 t182 t183 t184 t185 t186 t187 a2_0 a2_1 a2_2 a2_3 a2_4 a2_5 a2_6).bind fun t192 => (if t192 = true then (rampartlaw04_TcpBack.j1 kj5 a0 a1 a3 a4 t167 (t188.toList != a3.toList) a2_0 a2_1 a2_2 a2_3 a2_4 a2_5 a2_6) else (rampartlaw04_TcpBack.j1 kj5 a0 a1 a3 a4 t167 true a2_0 a2_1 a2_2 a2_3 a2_4 a2_5 a2_6))) else (rampartlaw04_TcpBack.j1 kj5 a0 a1 a3 a4 t167 true a2_0 a2_1 a2_2 a2_3 a2_4 a2_5 a2_6)) else (rampartlaw04_TcpBack.j1 kj5 a0 a1 a3 a4 t167 true a2_0 a2_1 a2_2 a2_3 a2_4 a2_5 a2_6)) else (rampartlaw04_TcpBack.j1 kj5 a0 a1 a3 a4 t167 true a2_0 a2_1 a2_2 a2_3 a2_4 a2_5 a2_6)) = some r := H
       have A31 := Aside0.mk A310
       clear A310
       by_cases c32 : t191 = true
       ·
        subst c32
        have H1 : (if t178.toList = a3.toList then (if t189 = 0 then ((rampartref04_Same.f t181 t182 t183 t184 t185 t186 t187 a2_0 a2_1 a2_2 a2_3 a2_4 a2_5 a2_6).bind fun t192 => (if t192 = true then (rampartlaw04_TcpBack.j1 kj5 a0 a1 a3 a4 t167 (t188.toList != a3.toList) a2_0 a2_1 a2_2 a2_3 a2_4 a2_5 a2_6) else (rampartlaw04_TcpBack.j1 kj5 a0 a1 a3 a4 t167 true a2_0 a2_1 a2_2 a2_3 a2_4 a2_5 a2_6))) else (rampartlaw04_TcpBack.j1 kj5 a0 a1 a3 a4 t167 true a2_0 a2_1 a2_2 a2_3 a2_4 a2_5 a2_6)) else (rampartlaw04_TcpBack.j1 kj5 a0 a1 a3 a4 t167 true a2_0 a2_1 a2_2 a2_3 a2_4 a2_5 a2_6)) = some r := by rw [if_pos rfl] at H; exact H
        clear H
        have H := H1
        clear H1
        by_cases c33 : t178.toList = a3.toList
        ·
         rw [if_pos c33] at H
         have c33b0 : (t178.toList == a3.toList) = true := beq_iff_eq.mpr c33
         have c33b1 : (t178.toList != a3.toList) = false := bne_eq_false_iff_eq.mpr c33
         clear c33
         by_cases c34 : t189 = 0
         ·
          rw [if_pos c34] at H
          have c34b0 : (t189 == 0) = true := beq_iff_eq.mpr c34
          have c34b1 : (t189 != 0) = false := bne_eq_false_iff_eq.mpr c34
          clear c34
          replace H := Option.bind_eq_some_iff.mp H
          obtain ⟨t192, A350, H⟩ := H
          replace H : (if t192 = true then (rampartlaw04_TcpBack.j1 kj5 a0 a1 a3 a4 t167 (t188.toList != a3.toList) a2_0 a2_1 a2_2 a2_3 a2_4 a2_5 a2_6) else (rampartlaw04_TcpBack.j1 kj5 a0 a1 a3 a4 t167 true a2_0 a2_1 a2_2 a2_3 a2_4 a2_5 a2_6)) = some r := H
          have A35 := Aside0.mk A350
          clear A350
          by_cases c36 : t192 = true
          ·
           subst c36
           have H1 : (rampartlaw04_TcpBack.j1 kj5 a0 a1 a3 a4 t167 (t188.toList != a3.toList) a2_0 a2_1 a2_2 a2_3 a2_4 a2_5 a2_6) = some r := by rw [if_pos rfl] at H; exact H
           clear H
           have H := H1
           clear H1
           have H' := Aside0.mk H
           clear H
           have hnb37 := NB180_165.out
           have hnc37 := NB165_180.out
           have hnb38 := NB180_190.out
           have hnc38 := NB190_180.out
           have hcz39_0 : w26.cell? ⟨gb180, 0, none⟩ = some (.int .i64 t171) := (blk_cell BK180.out 0).trans rfl
           have hcz39_1 : w26.cell? ⟨gb180, 1, none⟩ = some (.int .i64 t172) := (blk_cell BK180.out 1).trans rfl
           have hcz39_2 : w26.cell? ⟨gb180, 2, none⟩ = some (.int .u32 t173) := (blk_cell BK180.out 2).trans rfl
           have hcz39_3 : w26.cell? ⟨gb180, 3, none⟩ = some (.int .u32 t174) := (blk_cell BK180.out 3).trans rfl
           have hcz39_4 : w26.cell? ⟨gb180, 4, none⟩ = some (.int .i64 t175) := (blk_cell BK180.out 4).trans rfl
           have hcz39_5 : w26.cell? ⟨gb180, 5, none⟩ = some (.int .i64 t176) := (blk_cell BK180.out 5).trans rfl
           have hcz39_6 : w26.cell? ⟨gb180, 6, none⟩ = some (.string t177) := (blk_cell BK180.out 6).trans rfl
           have hfz39_0 := blk_frozen BK180.out 0
           have hfz39_1 := blk_frozen BK180.out 1
           have hfz39_2 := blk_frozen BK180.out 2
           have hfz39_3 := blk_frozen BK180.out 3
           have hfz39_4 := blk_frozen BK180.out 4
           have hfz39_5 := blk_frozen BK180.out 5
           have hfz39_6 := blk_frozen BK180.out 6
           have hnb40 := NB165_190.out
           have hnc40 := NB190_165.out
           have hcz41_0 : w26.cell? ⟨gb165, 0, none⟩ = some (.int .i64 a2_0) := (blk_cell BK165.out 0).trans rfl
           have hcz41_1 : w26.cell? ⟨gb165, 1, none⟩ = some (.int .i64 a2_1) := (blk_cell BK165.out 1).trans rfl
           have hcz41_2 : w26.cell? ⟨gb165, 2, none⟩ = some (.int .u32 a2_2) := (blk_cell BK165.out 2).trans rfl
           have hcz41_3 : w26.cell? ⟨gb165, 3, none⟩ = some (.int .u32 a2_3) := (blk_cell BK165.out 3).trans rfl
           have hcz41_4 : w26.cell? ⟨gb165, 4, none⟩ = some (.int .i64 a2_4) := (blk_cell BK165.out 4).trans rfl
           have hcz41_5 : w26.cell? ⟨gb165, 5, none⟩ = some (.int .i64 a2_5) := (blk_cell BK165.out 5).trans rfl
           have hcz41_6 : w26.cell? ⟨gb165, 6, none⟩ = some (.string a2_6) := (blk_cell BK165.out 6).trans rfl
           have hfz41_0 := blk_frozen BK165.out 0
           have hfz41_1 := blk_frozen BK165.out 1
           have hfz41_2 := blk_frozen BK165.out 2
           have hfz41_3 := blk_frozen BK165.out 3
           have hfz41_4 := blk_frozen BK165.out 4
           have hfz41_5 := blk_frozen BK165.out 5
           have hfz41_6 := blk_frozen BK165.out 6
           go_wp2_with (first | (go_at_call 31; (with_reducible refine (rampartref04_Same.calls t171 t172 t173 t174 t175 t176 t177 a2_0 a2_1 a2_2 a2_3 a2_4 a2_5 a2_6 true _ A31.out).mono ?_); rintro e w42 ⟨rfl, hb⟩; have n0_ := Aside0.mk (blk_below (g := gb165) (o := .cells #[.int .i64 a2_0, .int .i64 a2_1, .int .u32 a2_2, .int .u32 a2_3, .int .i64 a2_4, .int .i64 a2_5, .string a2_6] 42 (0, 0)) (by (with_reducible repeat (first | refine blk_drewN ?_ _ | refine blk_drew ?_ | refine blk_alloc ?_ _)); refine blk_far ?_ NB165_190.out _; (with_reducible repeat (first | refine blk_drewN ?_ _ | refine blk_drew ?_ | refine blk_alloc ?_ _)); refine blk_far ?_ NB165_190.out _; (with_reducible repeat (first | refine blk_drewN ?_ _ | refine blk_drew ?_ | refine blk_alloc ?_ _)); refine blk_far ?_ NB165_190.out _; (with_reducible repeat (first | refine blk_drewN ?_ _ | refine blk_drew ?_ | refine blk_alloc ?_ _)); refine blk_far ?_ NB165_190.out _; (with_reducible repeat (first | refine blk_drewN ?_ _ | refine blk_drew ?_ | refine blk_alloc ?_ _)); refine blk_far ?_ NB165_190.out _; (with_reducible repeat (first | refine blk_drewN ?_ _ | refine blk_drew ?_ | refine blk_alloc ?_ _)); refine blk_far ?_ NB165_190.out _; (with_reducible repeat (first | refine blk_drewN ?_ _ | refine blk_drew ?_ | refine blk_alloc ?_ _)); refine blk_far ?_ NB165_190.out _; (with_reducible repeat (first | refine blk_drewN ?_ _ | refine blk_drew ?_ | refine blk_alloc ?_ _)); exact BK165.out) hb); have n1_ := Aside0.mk (blk_below (g := gb180) (o := .cells #[.int .i64 t171, .int .i64 t172, .int .u32 t173, .int .u32 t174, .int .i64 t175, .int .i64 t176, .string t177] 42 (0, 0)) (by (with_reducible repeat (first | refine blk_drewN ?_ _ | refine blk_drew ?_ | refine blk_alloc ?_ _)); refine blk_far ?_ NB180_190.out _; (with_reducible repeat (first | refine blk_drewN ?_ _ | refine blk_drew ?_ | refine blk_alloc ?_ _)); refine blk_far ?_ NB180_190.out _; (with_reducible repeat (first | refine blk_drewN ?_ _ | refine blk_drew ?_ | refine blk_alloc ?_ _)); refine blk_far ?_ NB180_190.out _; (with_reducible repeat (first | refine blk_drewN ?_ _ | refine blk_drew ?_ | refine blk_alloc ?_ _)); refine blk_far ?_ NB180_190.out _; (with_reducible repeat (first | refine blk_drewN ?_ _ | refine blk_drew ?_ | refine blk_alloc ?_ _)); refine blk_far ?_ NB180_190.out _; (with_reducible repeat (first | refine blk_drewN ?_ _ | refine blk_drew ?_ | refine blk_alloc ?_ _)); refine blk_far ?_ NB180_190.out _; (with_reducible repeat (first | refine blk_drewN ?_ _ | refine blk_drew ?_ | refine blk_alloc ?_ _)); refine blk_far ?_ NB180_190.out _; (with_reducible repeat (first | refine blk_drewN ?_ _ | refine blk_drew ?_ | refine blk_alloc ?_ _)); exact BK180.out) hb); have n2_ := Aside0.mk (blk_below (g := gb190) (o := .cells #[.int .i64 t181, .int .i64 t182, .int .u32 t183, .int .u32 t184, .int .i64 t185, .int .i64 t186, .string t187] 42 (0, 0)) (by (with_reducible repeat (first | refine blk_drewN ?_ _ | refine blk_drew ?_ | refine blk_alloc ?_ _)); refine blk_put (cs := #[.int .i64 t181, .int .i64 t182, .int .u32 t183, .int .u32 t184, .int .i64 t185, .int .i64 t186, .string (⟨#[]⟩ : ByteArray)]) ?_ 6 _ rfl; (with_reducible repeat (first | refine blk_drewN ?_ _ | refine blk_drew ?_ | refine blk_alloc ?_ _)); refine blk_put (cs := #[.int .i64 t181, .int .i64 t182, .int .u32 t183, .int .u32 t184, .int .i64 t185, .int .i64 0, .string (⟨#[]⟩ : ByteArray)]) ?_ 5 _ rfl; (with_reducible repeat (first | refine blk_drewN ?_ _ | refine blk_drew ?_ | refine blk_alloc ?_ _)); refine blk_put (cs := #[.int .i64 t181, .int .i64 t182, .int .u32 t183, .int .u32 t184, .int .i64 0, .int .i64 0, .string (⟨#[]⟩ : ByteArray)]) ?_ 4 _ rfl; (with_reducible repeat (first | refine blk_drewN ?_ _ | refine blk_drew ?_ | refine blk_alloc ?_ _)); refine blk_put (cs := #[.int .i64 t181, .int .i64 t182, .int .u32 t183, .int .u32 0, .int .i64 0, .int .i64 0, .string (⟨#[]⟩ : ByteArray)]) ?_ 3 _ rfl; (with_reducible repeat (first | refine blk_drewN ?_ _ | refine blk_drew ?_ | refine blk_alloc ?_ _)); refine blk_put (cs := #[.int .i64 t181, .int .i64 t182, .int .u32 0, .int .u32 0, .int .i64 0, .int .i64 0, .string (⟨#[]⟩ : ByteArray)]) ?_ 2 _ rfl; (with_reducible repeat (first | refine blk_drewN ?_ _ | refine blk_drew ?_ | refine blk_alloc ?_ _)); refine blk_put (cs := #[.int .i64 t181, .int .i64 0, .int .u32 0, .int .u32 0, .int .i64 0, .int .i64 0, .string (⟨#[]⟩ : ByteArray)]) ?_ 1 _ rfl; (with_reducible repeat (first | refine blk_drewN ?_ _ | refine blk_drew ?_ | refine blk_alloc ?_ _)); refine blk_put (cs := #[.int .i64 0, .int .i64 0, .int .u32 0, .int .u32 0, .int .i64 0, .int .i64 0, .string (⟨#[]⟩ : ByteArray)]) ?_ 0 _ rfl; (with_reducible repeat (first | refine blk_drewN ?_ _ | refine blk_drew ?_ | refine blk_alloc ?_ _)); exact BK190.out) hb); have n3_ := Aside0.mk (below_step (by repeat (first | (with_reducible first | exact HB.out | apply below_alloc | apply pw_below_drewN | apply below_drew1 | refine below_set ?_ GE165.out | refine below_set ?_ GE180.out | refine below_set ?_ GE190.out) | exact HB.out)) hb); clear BK165; clear BK180; clear BK190; clear HB; have BK165 := n0_; have BK180 := n1_; have BK190 := n2_; have HB := n3_; clear n0_ n1_ n2_ n3_; (try clear hb); (try clear hb2); (try clear hk); (try clear hi); have hcz43_0 : w42.cell? ⟨gb190, 0, none⟩ = some (.int .i64 t181) := (blk_cell BK190.out 0).trans rfl; have hcz43_1 : w42.cell? ⟨gb190, 1, none⟩ = some (.int .i64 t182) := (blk_cell BK190.out 1).trans rfl; have hcz43_2 : w42.cell? ⟨gb190, 2, none⟩ = some (.int .u32 t183) := (blk_cell BK190.out 2).trans rfl; have hcz43_3 : w42.cell? ⟨gb190, 3, none⟩ = some (.int .u32 t184) := (blk_cell BK190.out 3).trans rfl; have hcz43_4 : w42.cell? ⟨gb190, 4, none⟩ = some (.int .i64 t185) := (blk_cell BK190.out 4).trans rfl; have hcz43_5 : w42.cell? ⟨gb190, 5, none⟩ = some (.int .i64 t186) := (blk_cell BK190.out 5).trans rfl; have hcz43_6 : w42.cell? ⟨gb190, 6, none⟩ = some (.string t187) := (blk_cell BK190.out 6).trans rfl; have hfz43_0 := blk_frozen BK190.out 0; have hfz43_1 := blk_frozen BK190.out 1; have hfz43_2 := blk_frozen BK190.out 2; have hfz43_3 := blk_frozen BK190.out 3; have hfz43_4 := blk_frozen BK190.out 4; have hfz43_5 := blk_frozen BK190.out 5; have hfz43_6 := blk_frozen BK190.out 6; have hcz44_0 : w42.cell? ⟨gb165, 0, none⟩ = some (.int .i64 a2_0) := (blk_cell BK165.out 0).trans rfl; have hcz44_1 : w42.cell? ⟨gb165, 1, none⟩ = some (.int .i64 a2_1) := (blk_cell BK165.out 1).trans rfl; have hcz44_2 : w42.cell? ⟨gb165, 2, none⟩ = some (.int .u32 a2_2) := (blk_cell BK165.out 2).trans rfl; have hcz44_3 : w42.cell? ⟨gb165, 3, none⟩ = some (.int .u32 a2_3) := (blk_cell BK165.out 3).trans rfl; have hcz44_4 : w42.cell? ⟨gb165, 4, none⟩ = some (.int .i64 a2_4) := (blk_cell BK165.out 4).trans rfl; have hcz44_5 : w42.cell? ⟨gb165, 5, none⟩ = some (.int .i64 a2_5) := (blk_cell BK165.out 5).trans rfl; have hcz44_6 : w42.cell? ⟨gb165, 6, none⟩ = some (.string a2_6) := (blk_cell BK165.out 6).trans rfl; have hfz44_0 := blk_frozen BK165.out 0; have hfz44_1 := blk_frozen BK165.out 1; have hfz44_2 := blk_frozen BK165.out 2; have hfz44_3 := blk_frozen BK165.out 3; have hfz44_4 := blk_frozen BK165.out 4; have hfz44_5 := blk_frozen BK165.out 5; have hfz44_6 := blk_frozen BK165.out 6) | (go_at_call 31; (with_reducible refine (rampartref04_Same.calls t181 t182 t183 t184 t185 t186 t187 a2_0 a2_1 a2_2 a2_3 a2_4 a2_5 a2_6 true _ A35.out).mono ?_); rintro e w45 ⟨rfl, hb⟩; have n0_ := Aside0.mk (blk_below (g := gb165) (o := .cells #[.int .i64 a2_0, .int .i64 a2_1, .int .u32 a2_2, .int .u32 a2_3, .int .i64 a2_4, .int .i64 a2_5, .string a2_6] 42 (0, 0)) (by (with_reducible repeat (first | refine blk_drewN ?_ _ | refine blk_drew ?_ | refine blk_alloc ?_ _)); exact BK165.out) hb); have n1_ := Aside0.mk (blk_below (g := gb180) (o := .cells #[.int .i64 t171, .int .i64 t172, .int .u32 t173, .int .u32 t174, .int .i64 t175, .int .i64 t176, .string t177] 42 (0, 0)) (by (with_reducible repeat (first | refine blk_drewN ?_ _ | refine blk_drew ?_ | refine blk_alloc ?_ _)); exact BK180.out) hb); have n2_ := Aside0.mk (blk_below (g := gb190) (o := .cells #[.int .i64 t181, .int .i64 t182, .int .u32 t183, .int .u32 t184, .int .i64 t185, .int .i64 t186, .string t187] 42 (0, 0)) (by (with_reducible repeat (first | refine blk_drewN ?_ _ | refine blk_drew ?_ | refine blk_alloc ?_ _)); exact BK190.out) hb); have n3_ := Aside0.mk (below_step (by repeat (first | (with_reducible first | exact HB.out | apply below_alloc | apply pw_below_drewN | apply below_drew1 | refine below_set ?_ GE165.out | refine below_set ?_ GE180.out | refine below_set ?_ GE190.out) | exact HB.out)) hb); clear BK165; clear BK180; clear BK190; clear HB; have BK165 := n0_; have BK180 := n1_; have BK190 := n2_; have HB := n3_; clear n0_ n1_ n2_ n3_; (try clear hb); (try clear hb2); (try clear hk); (try clear hi)))
           go_meet
           case rel => exact ⟨_, ((t188.toList != a3.toList)), (by first | rfl | (simp; done) | (simp [*]; done)), H', ⟨by have := HJ5.out; first | omega | exact Nat.le_refl _⟩, ⟨by (with_reducible repeat (first | refine blk_drewN ?_ _ | refine blk_drew ?_ | refine blk_alloc ?_ _)); exact BK165.out⟩, ⟨by (with_reducible repeat (first | refine blk_drewN ?_ _ | refine blk_drew ?_ | refine blk_alloc ?_ _)); exact BK180.out⟩, ⟨by (with_reducible repeat (first | refine blk_drewN ?_ _ | refine blk_drew ?_ | refine blk_alloc ?_ _)); exact BK190.out⟩, ⟨by repeat (first | (with_reducible first | exact HB.out | apply below_alloc | apply pw_below_drewN | apply below_drew1 | refine below_set ?_ GE165.out | refine below_set ?_ GE180.out | refine below_set ?_ GE190.out) | exact HB.out)⟩⟩
          ·
           replace c36 := Bool.eq_false_iff.mpr c36
           subst c36
           have H1 : (rampartlaw04_TcpBack.j1 kj5 a0 a1 a3 a4 t167 true a2_0 a2_1 a2_2 a2_3 a2_4 a2_5 a2_6) = some r := by rw [if_neg (show ¬ (false = true) by decide)] at H; exact H
           clear H
           have H := H1
           clear H1
           have H' := Aside0.mk H
           clear H
           have hnb46 := NB180_165.out
           have hnc46 := NB165_180.out
           have hnb47 := NB180_190.out
           have hnc47 := NB190_180.out
           have hcz48_0 : w26.cell? ⟨gb180, 0, none⟩ = some (.int .i64 t171) := (blk_cell BK180.out 0).trans rfl
           have hcz48_1 : w26.cell? ⟨gb180, 1, none⟩ = some (.int .i64 t172) := (blk_cell BK180.out 1).trans rfl
           have hcz48_2 : w26.cell? ⟨gb180, 2, none⟩ = some (.int .u32 t173) := (blk_cell BK180.out 2).trans rfl
           have hcz48_3 : w26.cell? ⟨gb180, 3, none⟩ = some (.int .u32 t174) := (blk_cell BK180.out 3).trans rfl
           have hcz48_4 : w26.cell? ⟨gb180, 4, none⟩ = some (.int .i64 t175) := (blk_cell BK180.out 4).trans rfl
           have hcz48_5 : w26.cell? ⟨gb180, 5, none⟩ = some (.int .i64 t176) := (blk_cell BK180.out 5).trans rfl
           have hcz48_6 : w26.cell? ⟨gb180, 6, none⟩ = some (.string t177) := (blk_cell BK180.out 6).trans rfl
           have hfz48_0 := blk_frozen BK180.out 0
           have hfz48_1 := blk_frozen BK180.out 1
           have hfz48_2 := blk_frozen BK180.out 2
           have hfz48_3 := blk_frozen BK180.out 3
           have hfz48_4 := blk_frozen BK180.out 4
           have hfz48_5 := blk_frozen BK180.out 5
           have hfz48_6 := blk_frozen BK180.out 6
           have hnb49 := NB165_190.out
           have hnc49 := NB190_165.out
           have hcz50_0 : w26.cell? ⟨gb165, 0, none⟩ = some (.int .i64 a2_0) := (blk_cell BK165.out 0).trans rfl
           have hcz50_1 : w26.cell? ⟨gb165, 1, none⟩ = some (.int .i64 a2_1) := (blk_cell BK165.out 1).trans rfl
           have hcz50_2 : w26.cell? ⟨gb165, 2, none⟩ = some (.int .u32 a2_2) := (blk_cell BK165.out 2).trans rfl
           have hcz50_3 : w26.cell? ⟨gb165, 3, none⟩ = some (.int .u32 a2_3) := (blk_cell BK165.out 3).trans rfl
           have hcz50_4 : w26.cell? ⟨gb165, 4, none⟩ = some (.int .i64 a2_4) := (blk_cell BK165.out 4).trans rfl
           have hcz50_5 : w26.cell? ⟨gb165, 5, none⟩ = some (.int .i64 a2_5) := (blk_cell BK165.out 5).trans rfl
           have hcz50_6 : w26.cell? ⟨gb165, 6, none⟩ = some (.string a2_6) := (blk_cell BK165.out 6).trans rfl
           have hfz50_0 := blk_frozen BK165.out 0
           have hfz50_1 := blk_frozen BK165.out 1
           have hfz50_2 := blk_frozen BK165.out 2
           have hfz50_3 := blk_frozen BK165.out 3
           have hfz50_4 := blk_frozen BK165.out 4
           have hfz50_5 := blk_frozen BK165.out 5
           have hfz50_6 := blk_frozen BK165.out 6
           go_wp2_with (first | (go_at_call 31; (with_reducible refine (rampartref04_Same.calls t171 t172 t173 t174 t175 t176 t177 a2_0 a2_1 a2_2 a2_3 a2_4 a2_5 a2_6 true _ A31.out).mono ?_); rintro e w51 ⟨rfl, hb⟩; have n0_ := Aside0.mk (blk_below (g := gb165) (o := .cells #[.int .i64 a2_0, .int .i64 a2_1, .int .u32 a2_2, .int .u32 a2_3, .int .i64 a2_4, .int .i64 a2_5, .string a2_6] 42 (0, 0)) (by (with_reducible repeat (first | refine blk_drewN ?_ _ | refine blk_drew ?_ | refine blk_alloc ?_ _)); refine blk_far ?_ NB165_190.out _; (with_reducible repeat (first | refine blk_drewN ?_ _ | refine blk_drew ?_ | refine blk_alloc ?_ _)); refine blk_far ?_ NB165_190.out _; (with_reducible repeat (first | refine blk_drewN ?_ _ | refine blk_drew ?_ | refine blk_alloc ?_ _)); refine blk_far ?_ NB165_190.out _; (with_reducible repeat (first | refine blk_drewN ?_ _ | refine blk_drew ?_ | refine blk_alloc ?_ _)); refine blk_far ?_ NB165_190.out _; (with_reducible repeat (first | refine blk_drewN ?_ _ | refine blk_drew ?_ | refine blk_alloc ?_ _)); refine blk_far ?_ NB165_190.out _; (with_reducible repeat (first | refine blk_drewN ?_ _ | refine blk_drew ?_ | refine blk_alloc ?_ _)); refine blk_far ?_ NB165_190.out _; (with_reducible repeat (first | refine blk_drewN ?_ _ | refine blk_drew ?_ | refine blk_alloc ?_ _)); refine blk_far ?_ NB165_190.out _; (with_reducible repeat (first | refine blk_drewN ?_ _ | refine blk_drew ?_ | refine blk_alloc ?_ _)); exact BK165.out) hb); have n1_ := Aside0.mk (blk_below (g := gb180) (o := .cells #[.int .i64 t171, .int .i64 t172, .int .u32 t173, .int .u32 t174, .int .i64 t175, .int .i64 t176, .string t177] 42 (0, 0)) (by (with_reducible repeat (first | refine blk_drewN ?_ _ | refine blk_drew ?_ | refine blk_alloc ?_ _)); refine blk_far ?_ NB180_190.out _; (with_reducible repeat (first | refine blk_drewN ?_ _ | refine blk_drew ?_ | refine blk_alloc ?_ _)); refine blk_far ?_ NB180_190.out _; (with_reducible repeat (first | refine blk_drewN ?_ _ | refine blk_drew ?_ | refine blk_alloc ?_ _)); refine blk_far ?_ NB180_190.out _; (with_reducible repeat (first | refine blk_drewN ?_ _ | refine blk_drew ?_ | refine blk_alloc ?_ _)); refine blk_far ?_ NB180_190.out _; (with_reducible repeat (first | refine blk_drewN ?_ _ | refine blk_drew ?_ | refine blk_alloc ?_ _)); refine blk_far ?_ NB180_190.out _; (with_reducible repeat (first | refine blk_drewN ?_ _ | refine blk_drew ?_ | refine blk_alloc ?_ _)); refine blk_far ?_ NB180_190.out _; (with_reducible repeat (first | refine blk_drewN ?_ _ | refine blk_drew ?_ | refine blk_alloc ?_ _)); refine blk_far ?_ NB180_190.out _; (with_reducible repeat (first | refine blk_drewN ?_ _ | refine blk_drew ?_ | refine blk_alloc ?_ _)); exact BK180.out) hb); have n2_ := Aside0.mk (blk_below (g := gb190) (o := .cells #[.int .i64 t181, .int .i64 t182, .int .u32 t183, .int .u32 t184, .int .i64 t185, .int .i64 t186, .string t187] 42 (0, 0)) (by (with_reducible repeat (first | refine blk_drewN ?_ _ | refine blk_drew ?_ | refine blk_alloc ?_ _)); refine blk_put (cs := #[.int .i64 t181, .int .i64 t182, .int .u32 t183, .int .u32 t184, .int .i64 t185, .int .i64 t186, .string (⟨#[]⟩ : ByteArray)]) ?_ 6 _ rfl; (with_reducible repeat (first | refine blk_drewN ?_ _ | refine blk_drew ?_ | refine blk_alloc ?_ _)); refine blk_put (cs := #[.int .i64 t181, .int .i64 t182, .int .u32 t183, .int .u32 t184, .int .i64 t185, .int .i64 0, .string (⟨#[]⟩ : ByteArray)]) ?_ 5 _ rfl; (with_reducible repeat (first | refine blk_drewN ?_ _ | refine blk_drew ?_ | refine blk_alloc ?_ _)); refine blk_put (cs := #[.int .i64 t181, .int .i64 t182, .int .u32 t183, .int .u32 t184, .int .i64 0, .int .i64 0, .string (⟨#[]⟩ : ByteArray)]) ?_ 4 _ rfl; (with_reducible repeat (first | refine blk_drewN ?_ _ | refine blk_drew ?_ | refine blk_alloc ?_ _)); refine blk_put (cs := #[.int .i64 t181, .int .i64 t182, .int .u32 t183, .int .u32 0, .int .i64 0, .int .i64 0, .string (⟨#[]⟩ : ByteArray)]) ?_ 3 _ rfl; (with_reducible repeat (first | refine blk_drewN ?_ _ | refine blk_drew ?_ | refine blk_alloc ?_ _)); refine blk_put (cs := #[.int .i64 t181, .int .i64 t182, .int .u32 0, .int .u32 0, .int .i64 0, .int .i64 0, .string (⟨#[]⟩ : ByteArray)]) ?_ 2 _ rfl; (with_reducible repeat (first | refine blk_drewN ?_ _ | refine blk_drew ?_ | refine blk_alloc ?_ _)); refine blk_put (cs := #[.int .i64 t181, .int .i64 0, .int .u32 0, .int .u32 0, .int .i64 0, .int .i64 0, .string (⟨#[]⟩ : ByteArray)]) ?_ 1 _ rfl; (with_reducible repeat (first | refine blk_drewN ?_ _ | refine blk_drew ?_ | refine blk_alloc ?_ _)); refine blk_put (cs := #[.int .i64 0, .int .i64 0, .int .u32 0, .int .u32 0, .int .i64 0, .int .i64 0, .string (⟨#[]⟩ : ByteArray)]) ?_ 0 _ rfl; (with_reducible repeat (first | refine blk_drewN ?_ _ | refine blk_drew ?_ | refine blk_alloc ?_ _)); exact BK190.out) hb); have n3_ := Aside0.mk (below_step (by repeat (first | (with_reducible first | exact HB.out | apply below_alloc | apply pw_below_drewN | apply below_drew1 | refine below_set ?_ GE165.out | refine below_set ?_ GE180.out | refine below_set ?_ GE190.out) | exact HB.out)) hb); clear BK165; clear BK180; clear BK190; clear HB; have BK165 := n0_; have BK180 := n1_; have BK190 := n2_; have HB := n3_; clear n0_ n1_ n2_ n3_; (try clear hb); (try clear hb2); (try clear hk); (try clear hi); have hcz52_0 : w51.cell? ⟨gb190, 0, none⟩ = some (.int .i64 t181) := (blk_cell BK190.out 0).trans rfl; have hcz52_1 : w51.cell? ⟨gb190, 1, none⟩ = some (.int .i64 t182) := (blk_cell BK190.out 1).trans rfl; have hcz52_2 : w51.cell? ⟨gb190, 2, none⟩ = some (.int .u32 t183) := (blk_cell BK190.out 2).trans rfl; have hcz52_3 : w51.cell? ⟨gb190, 3, none⟩ = some (.int .u32 t184) := (blk_cell BK190.out 3).trans rfl; have hcz52_4 : w51.cell? ⟨gb190, 4, none⟩ = some (.int .i64 t185) := (blk_cell BK190.out 4).trans rfl; have hcz52_5 : w51.cell? ⟨gb190, 5, none⟩ = some (.int .i64 t186) := (blk_cell BK190.out 5).trans rfl; have hcz52_6 : w51.cell? ⟨gb190, 6, none⟩ = some (.string t187) := (blk_cell BK190.out 6).trans rfl; have hfz52_0 := blk_frozen BK190.out 0; have hfz52_1 := blk_frozen BK190.out 1; have hfz52_2 := blk_frozen BK190.out 2; have hfz52_3 := blk_frozen BK190.out 3; have hfz52_4 := blk_frozen BK190.out 4; have hfz52_5 := blk_frozen BK190.out 5; have hfz52_6 := blk_frozen BK190.out 6; have hcz53_0 : w51.cell? ⟨gb165, 0, none⟩ = some (.int .i64 a2_0) := (blk_cell BK165.out 0).trans rfl; have hcz53_1 : w51.cell? ⟨gb165, 1, none⟩ = some (.int .i64 a2_1) := (blk_cell BK165.out 1).trans rfl; have hcz53_2 : w51.cell? ⟨gb165, 2, none⟩ = some (.int .u32 a2_2) := (blk_cell BK165.out 2).trans rfl; have hcz53_3 : w51.cell? ⟨gb165, 3, none⟩ = some (.int .u32 a2_3) := (blk_cell BK165.out 3).trans rfl; have hcz53_4 : w51.cell? ⟨gb165, 4, none⟩ = some (.int .i64 a2_4) := (blk_cell BK165.out 4).trans rfl; have hcz53_5 : w51.cell? ⟨gb165, 5, none⟩ = some (.int .i64 a2_5) := (blk_cell BK165.out 5).trans rfl; have hcz53_6 : w51.cell? ⟨gb165, 6, none⟩ = some (.string a2_6) := (blk_cell BK165.out 6).trans rfl; have hfz53_0 := blk_frozen BK165.out 0; have hfz53_1 := blk_frozen BK165.out 1; have hfz53_2 := blk_frozen BK165.out 2; have hfz53_3 := blk_frozen BK165.out 3; have hfz53_4 := blk_frozen BK165.out 4; have hfz53_5 := blk_frozen BK165.out 5; have hfz53_6 := blk_frozen BK165.out 6) | (go_at_call 31; (with_reducible refine (rampartref04_Same.calls t181 t182 t183 t184 t185 t186 t187 a2_0 a2_1 a2_2 a2_3 a2_4 a2_5 a2_6 false _ A35.out).mono ?_); rintro e w54 ⟨rfl, hb⟩; have n0_ := Aside0.mk (blk_below (g := gb165) (o := .cells #[.int .i64 a2_0, .int .i64 a2_1, .int .u32 a2_2, .int .u32 a2_3, .int .i64 a2_4, .int .i64 a2_5, .string a2_6] 42 (0, 0)) (by (with_reducible repeat (first | refine blk_drewN ?_ _ | refine blk_drew ?_ | refine blk_alloc ?_ _)); exact BK165.out) hb); have n1_ := Aside0.mk (blk_below (g := gb180) (o := .cells #[.int .i64 t171, .int .i64 t172, .int .u32 t173, .int .u32 t174, .int .i64 t175, .int .i64 t176, .string t177] 42 (0, 0)) (by (with_reducible repeat (first | refine blk_drewN ?_ _ | refine blk_drew ?_ | refine blk_alloc ?_ _)); exact BK180.out) hb); have n2_ := Aside0.mk (blk_below (g := gb190) (o := .cells #[.int .i64 t181, .int .i64 t182, .int .u32 t183, .int .u32 t184, .int .i64 t185, .int .i64 t186, .string t187] 42 (0, 0)) (by (with_reducible repeat (first | refine blk_drewN ?_ _ | refine blk_drew ?_ | refine blk_alloc ?_ _)); exact BK190.out) hb); have n3_ := Aside0.mk (below_step (by repeat (first | (with_reducible first | exact HB.out | apply below_alloc | apply pw_below_drewN | apply below_drew1 | refine below_set ?_ GE165.out | refine below_set ?_ GE180.out | refine below_set ?_ GE190.out) | exact HB.out)) hb); clear BK165; clear BK180; clear BK190; clear HB; have BK165 := n0_; have BK180 := n1_; have BK190 := n2_; have HB := n3_; clear n0_ n1_ n2_ n3_; (try clear hb); (try clear hb2); (try clear hk); (try clear hi)))
           go_meet
           case rel => exact ⟨_, (true), (by first | rfl | (simp; done) | (simp [*]; done)), H', ⟨by have := HJ5.out; first | omega | exact Nat.le_refl _⟩, ⟨by (with_reducible repeat (first | refine blk_drewN ?_ _ | refine blk_drew ?_ | refine blk_alloc ?_ _)); exact BK165.out⟩, ⟨by (with_reducible repeat (first | refine blk_drewN ?_ _ | refine blk_drew ?_ | refine blk_alloc ?_ _)); exact BK180.out⟩, ⟨by (with_reducible repeat (first | refine blk_drewN ?_ _ | refine blk_drew ?_ | refine blk_alloc ?_ _)); exact BK190.out⟩, ⟨by repeat (first | (with_reducible first | exact HB.out | apply below_alloc | apply pw_below_drewN | apply below_drew1 | refine below_set ?_ GE165.out | refine below_set ?_ GE180.out | refine below_set ?_ GE190.out) | exact HB.out)⟩⟩
         ·
          rw [if_neg c34] at H
          have c34b0 : (t189 == 0) = false := beq_eq_false_iff_ne.mpr c34
          have c34b1 : (t189 != 0) = true := bne_iff_ne.mpr c34
          have H' := Aside0.mk H
          clear H
          have hnb55 := NB180_165.out
          have hnc55 := NB165_180.out
          have hnb56 := NB180_190.out
          have hnc56 := NB190_180.out
          have hcz57_0 : w26.cell? ⟨gb180, 0, none⟩ = some (.int .i64 t171) := (blk_cell BK180.out 0).trans rfl
          have hcz57_1 : w26.cell? ⟨gb180, 1, none⟩ = some (.int .i64 t172) := (blk_cell BK180.out 1).trans rfl
          have hcz57_2 : w26.cell? ⟨gb180, 2, none⟩ = some (.int .u32 t173) := (blk_cell BK180.out 2).trans rfl
          have hcz57_3 : w26.cell? ⟨gb180, 3, none⟩ = some (.int .u32 t174) := (blk_cell BK180.out 3).trans rfl
          have hcz57_4 : w26.cell? ⟨gb180, 4, none⟩ = some (.int .i64 t175) := (blk_cell BK180.out 4).trans rfl
          have hcz57_5 : w26.cell? ⟨gb180, 5, none⟩ = some (.int .i64 t176) := (blk_cell BK180.out 5).trans rfl
          have hcz57_6 : w26.cell? ⟨gb180, 6, none⟩ = some (.string t177) := (blk_cell BK180.out 6).trans rfl
          have hfz57_0 := blk_frozen BK180.out 0
          have hfz57_1 := blk_frozen BK180.out 1
          have hfz57_2 := blk_frozen BK180.out 2
          have hfz57_3 := blk_frozen BK180.out 3
          have hfz57_4 := blk_frozen BK180.out 4
          have hfz57_5 := blk_frozen BK180.out 5
          have hfz57_6 := blk_frozen BK180.out 6
          have hnb58 := NB165_190.out
          have hnc58 := NB190_165.out
          have hcz59_0 : w26.cell? ⟨gb165, 0, none⟩ = some (.int .i64 a2_0) := (blk_cell BK165.out 0).trans rfl
          have hcz59_1 : w26.cell? ⟨gb165, 1, none⟩ = some (.int .i64 a2_1) := (blk_cell BK165.out 1).trans rfl
          have hcz59_2 : w26.cell? ⟨gb165, 2, none⟩ = some (.int .u32 a2_2) := (blk_cell BK165.out 2).trans rfl
          have hcz59_3 : w26.cell? ⟨gb165, 3, none⟩ = some (.int .u32 a2_3) := (blk_cell BK165.out 3).trans rfl
          have hcz59_4 : w26.cell? ⟨gb165, 4, none⟩ = some (.int .i64 a2_4) := (blk_cell BK165.out 4).trans rfl
          have hcz59_5 : w26.cell? ⟨gb165, 5, none⟩ = some (.int .i64 a2_5) := (blk_cell BK165.out 5).trans rfl
          have hcz59_6 : w26.cell? ⟨gb165, 6, none⟩ = some (.string a2_6) := (blk_cell BK165.out 6).trans rfl
          have hfz59_0 := blk_frozen BK165.out 0
          have hfz59_1 := blk_frozen BK165.out 1
          have hfz59_2 := blk_frozen BK165.out 2
          have hfz59_3 := blk_frozen BK165.out 3
          have hfz59_4 := blk_frozen BK165.out 4
          have hfz59_5 := blk_frozen BK165.out 5
          have hfz59_6 := blk_frozen BK165.out 6
          go_wp2_with (first | (go_at_call 31; (with_reducible refine (rampartref04_Same.calls t171 t172 t173 t174 t175 t176 t177 a2_0 a2_1 a2_2 a2_3 a2_4 a2_5 a2_6 true _ A31.out).mono ?_); rintro e w60 ⟨rfl, hb⟩; have n0_ := Aside0.mk (blk_below (g := gb165) (o := .cells #[.int .i64 a2_0, .int .i64 a2_1, .int .u32 a2_2, .int .u32 a2_3, .int .i64 a2_4, .int .i64 a2_5, .string a2_6] 42 (0, 0)) (by (with_reducible repeat (first | refine blk_drewN ?_ _ | refine blk_drew ?_ | refine blk_alloc ?_ _)); refine blk_far ?_ NB165_190.out _; (with_reducible repeat (first | refine blk_drewN ?_ _ | refine blk_drew ?_ | refine blk_alloc ?_ _)); refine blk_far ?_ NB165_190.out _; (with_reducible repeat (first | refine blk_drewN ?_ _ | refine blk_drew ?_ | refine blk_alloc ?_ _)); refine blk_far ?_ NB165_190.out _; (with_reducible repeat (first | refine blk_drewN ?_ _ | refine blk_drew ?_ | refine blk_alloc ?_ _)); refine blk_far ?_ NB165_190.out _; (with_reducible repeat (first | refine blk_drewN ?_ _ | refine blk_drew ?_ | refine blk_alloc ?_ _)); refine blk_far ?_ NB165_190.out _; (with_reducible repeat (first | refine blk_drewN ?_ _ | refine blk_drew ?_ | refine blk_alloc ?_ _)); refine blk_far ?_ NB165_190.out _; (with_reducible repeat (first | refine blk_drewN ?_ _ | refine blk_drew ?_ | refine blk_alloc ?_ _)); refine blk_far ?_ NB165_190.out _; (with_reducible repeat (first | refine blk_drewN ?_ _ | refine blk_drew ?_ | refine blk_alloc ?_ _)); exact BK165.out) hb); have n1_ := Aside0.mk (blk_below (g := gb180) (o := .cells #[.int .i64 t171, .int .i64 t172, .int .u32 t173, .int .u32 t174, .int .i64 t175, .int .i64 t176, .string t177] 42 (0, 0)) (by (with_reducible repeat (first | refine blk_drewN ?_ _ | refine blk_drew ?_ | refine blk_alloc ?_ _)); refine blk_far ?_ NB180_190.out _; (with_reducible repeat (first | refine blk_drewN ?_ _ | refine blk_drew ?_ | refine blk_alloc ?_ _)); refine blk_far ?_ NB180_190.out _; (with_reducible repeat (first | refine blk_drewN ?_ _ | refine blk_drew ?_ | refine blk_alloc ?_ _)); refine blk_far ?_ NB180_190.out _; (with_reducible repeat (first | refine blk_drewN ?_ _ | refine blk_drew ?_ | refine blk_alloc ?_ _)); refine blk_far ?_ NB180_190.out _; (with_reducible repeat (first | refine blk_drewN ?_ _ | refine blk_drew ?_ | refine blk_alloc ?_ _)); refine blk_far ?_ NB180_190.out _; (with_reducible repeat (first | refine blk_drewN ?_ _ | refine blk_drew ?_ | refine blk_alloc ?_ _)); refine blk_far ?_ NB180_190.out _; (with_reducible repeat (first | refine blk_drewN ?_ _ | refine blk_drew ?_ | refine blk_alloc ?_ _)); refine blk_far ?_ NB180_190.out _; (with_reducible repeat (first | refine blk_drewN ?_ _ | refine blk_drew ?_ | refine blk_alloc ?_ _)); exact BK180.out) hb); have n2_ := Aside0.mk (blk_below (g := gb190) (o := .cells #[.int .i64 t181, .int .i64 t182, .int .u32 t183, .int .u32 t184, .int .i64 t185, .int .i64 t186, .string t187] 42 (0, 0)) (by (with_reducible repeat (first | refine blk_drewN ?_ _ | refine blk_drew ?_ | refine blk_alloc ?_ _)); refine blk_put (cs := #[.int .i64 t181, .int .i64 t182, .int .u32 t183, .int .u32 t184, .int .i64 t185, .int .i64 t186, .string (⟨#[]⟩ : ByteArray)]) ?_ 6 _ rfl; (with_reducible repeat (first | refine blk_drewN ?_ _ | refine blk_drew ?_ | refine blk_alloc ?_ _)); refine blk_put (cs := #[.int .i64 t181, .int .i64 t182, .int .u32 t183, .int .u32 t184, .int .i64 t185, .int .i64 0, .string (⟨#[]⟩ : ByteArray)]) ?_ 5 _ rfl; (with_reducible repeat (first | refine blk_drewN ?_ _ | refine blk_drew ?_ | refine blk_alloc ?_ _)); refine blk_put (cs := #[.int .i64 t181, .int .i64 t182, .int .u32 t183, .int .u32 t184, .int .i64 0, .int .i64 0, .string (⟨#[]⟩ : ByteArray)]) ?_ 4 _ rfl; (with_reducible repeat (first | refine blk_drewN ?_ _ | refine blk_drew ?_ | refine blk_alloc ?_ _)); refine blk_put (cs := #[.int .i64 t181, .int .i64 t182, .int .u32 t183, .int .u32 0, .int .i64 0, .int .i64 0, .string (⟨#[]⟩ : ByteArray)]) ?_ 3 _ rfl; (with_reducible repeat (first | refine blk_drewN ?_ _ | refine blk_drew ?_ | refine blk_alloc ?_ _)); refine blk_put (cs := #[.int .i64 t181, .int .i64 t182, .int .u32 0, .int .u32 0, .int .i64 0, .int .i64 0, .string (⟨#[]⟩ : ByteArray)]) ?_ 2 _ rfl; (with_reducible repeat (first | refine blk_drewN ?_ _ | refine blk_drew ?_ | refine blk_alloc ?_ _)); refine blk_put (cs := #[.int .i64 t181, .int .i64 0, .int .u32 0, .int .u32 0, .int .i64 0, .int .i64 0, .string (⟨#[]⟩ : ByteArray)]) ?_ 1 _ rfl; (with_reducible repeat (first | refine blk_drewN ?_ _ | refine blk_drew ?_ | refine blk_alloc ?_ _)); refine blk_put (cs := #[.int .i64 0, .int .i64 0, .int .u32 0, .int .u32 0, .int .i64 0, .int .i64 0, .string (⟨#[]⟩ : ByteArray)]) ?_ 0 _ rfl; (with_reducible repeat (first | refine blk_drewN ?_ _ | refine blk_drew ?_ | refine blk_alloc ?_ _)); exact BK190.out) hb); have n3_ := Aside0.mk (below_step (by repeat (first | (with_reducible first | exact HB.out | apply below_alloc | apply pw_below_drewN | apply below_drew1 | refine below_set ?_ GE165.out | refine below_set ?_ GE180.out | refine below_set ?_ GE190.out) | exact HB.out)) hb); clear BK165; clear BK180; clear BK190; clear HB; have BK165 := n0_; have BK180 := n1_; have BK190 := n2_; have HB := n3_; clear n0_ n1_ n2_ n3_; (try clear hb); (try clear hb2); (try clear hk); (try clear hi)))
          go_meet
          case rel => exact ⟨_, (true), (by first | rfl | (simp; done) | (simp [*]; done)), H', ⟨by have := HJ5.out; first | omega | exact Nat.le_refl _⟩, ⟨by (with_reducible repeat (first | refine blk_drewN ?_ _ | refine blk_drew ?_ | refine blk_alloc ?_ _)); exact BK165.out⟩, ⟨by (with_reducible repeat (first | refine blk_drewN ?_ _ | refine blk_drew ?_ | refine blk_alloc ?_ _)); exact BK180.out⟩, ⟨by (with_reducible repeat (first | refine blk_drewN ?_ _ | refine blk_drew ?_ | refine blk_alloc ?_ _)); exact BK190.out⟩, ⟨by repeat (first | (with_reducible first | exact HB.out | apply below_alloc | apply pw_below_drewN | apply below_drew1 | refine below_set ?_ GE165.out | refine below_set ?_ GE180.out | refine below_set ?_ GE190.out) | exact HB.out)⟩⟩
        ·
         rw [if_neg c33] at H
         have c33b0 : (t178.toList == a3.toList) = false := beq_eq_false_iff_ne.mpr c33
         have c33b1 : (t178.toList != a3.toList) = true := bne_iff_ne.mpr c33
         have H' := Aside0.mk H
         clear H
         have hnb61 := NB180_165.out
         have hnc61 := NB165_180.out
         have hnb62 := NB180_190.out
         have hnc62 := NB190_180.out
         have hcz63_0 : w26.cell? ⟨gb180, 0, none⟩ = some (.int .i64 t171) := (blk_cell BK180.out 0).trans rfl
         have hcz63_1 : w26.cell? ⟨gb180, 1, none⟩ = some (.int .i64 t172) := (blk_cell BK180.out 1).trans rfl
         have hcz63_2 : w26.cell? ⟨gb180, 2, none⟩ = some (.int .u32 t173) := (blk_cell BK180.out 2).trans rfl
         have hcz63_3 : w26.cell? ⟨gb180, 3, none⟩ = some (.int .u32 t174) := (blk_cell BK180.out 3).trans rfl
         have hcz63_4 : w26.cell? ⟨gb180, 4, none⟩ = some (.int .i64 t175) := (blk_cell BK180.out 4).trans rfl
         have hcz63_5 : w26.cell? ⟨gb180, 5, none⟩ = some (.int .i64 t176) := (blk_cell BK180.out 5).trans rfl
         have hcz63_6 : w26.cell? ⟨gb180, 6, none⟩ = some (.string t177) := (blk_cell BK180.out 6).trans rfl
         have hfz63_0 := blk_frozen BK180.out 0
         have hfz63_1 := blk_frozen BK180.out 1
         have hfz63_2 := blk_frozen BK180.out 2
         have hfz63_3 := blk_frozen BK180.out 3
         have hfz63_4 := blk_frozen BK180.out 4
         have hfz63_5 := blk_frozen BK180.out 5
         have hfz63_6 := blk_frozen BK180.out 6
         have hnb64 := NB165_190.out
         have hnc64 := NB190_165.out
         have hcz65_0 : w26.cell? ⟨gb165, 0, none⟩ = some (.int .i64 a2_0) := (blk_cell BK165.out 0).trans rfl
         have hcz65_1 : w26.cell? ⟨gb165, 1, none⟩ = some (.int .i64 a2_1) := (blk_cell BK165.out 1).trans rfl
         have hcz65_2 : w26.cell? ⟨gb165, 2, none⟩ = some (.int .u32 a2_2) := (blk_cell BK165.out 2).trans rfl
         have hcz65_3 : w26.cell? ⟨gb165, 3, none⟩ = some (.int .u32 a2_3) := (blk_cell BK165.out 3).trans rfl
         have hcz65_4 : w26.cell? ⟨gb165, 4, none⟩ = some (.int .i64 a2_4) := (blk_cell BK165.out 4).trans rfl
         have hcz65_5 : w26.cell? ⟨gb165, 5, none⟩ = some (.int .i64 a2_5) := (blk_cell BK165.out 5).trans rfl
         have hcz65_6 : w26.cell? ⟨gb165, 6, none⟩ = some (.string a2_6) := (blk_cell BK165.out 6).trans rfl
         have hfz65_0 := blk_frozen BK165.out 0
         have hfz65_1 := blk_frozen BK165.out 1
         have hfz65_2 := blk_frozen BK165.out 2
         have hfz65_3 := blk_frozen BK165.out 3
         have hfz65_4 := blk_frozen BK165.out 4
         have hfz65_5 := blk_frozen BK165.out 5
         have hfz65_6 := blk_frozen BK165.out 6
         go_wp2_with (first | (go_at_call 31; (with_reducible refine (rampartref04_Same.calls t171 t172 t173 t174 t175 t176 t177 a2_0 a2_1 a2_2 a2_3 a2_4 a2_5 a2_6 true _ A31.out).mono ?_); rintro e w66 ⟨rfl, hb⟩; have n0_ := Aside0.mk (blk_below (g := gb165) (o := .cells #[.int .i64 a2_0, .int .i64 a2_1, .int .u32 a2_2, .int .u32 a2_3, .int .i64 a2_4, .int .i64 a2_5, .string a2_6] 42 (0, 0)) (by (with_reducible repeat (first | refine blk_drewN ?_ _ | refine blk_drew ?_ | refine blk_alloc ?_ _)); refine blk_far ?_ NB165_190.out _; (with_reducible repeat (first | refine blk_drewN ?_ _ | refine blk_drew ?_ | refine blk_alloc ?_ _)); refine blk_far ?_ NB165_190.out _; (with_reducible repeat (first | refine blk_drewN ?_ _ | refine blk_drew ?_ | refine blk_alloc ?_ _)); refine blk_far ?_ NB165_190.out _; (with_reducible repeat (first | refine blk_drewN ?_ _ | refine blk_drew ?_ | refine blk_alloc ?_ _)); refine blk_far ?_ NB165_190.out _; (with_reducible repeat (first | refine blk_drewN ?_ _ | refine blk_drew ?_ | refine blk_alloc ?_ _)); refine blk_far ?_ NB165_190.out _; (with_reducible repeat (first | refine blk_drewN ?_ _ | refine blk_drew ?_ | refine blk_alloc ?_ _)); refine blk_far ?_ NB165_190.out _; (with_reducible repeat (first | refine blk_drewN ?_ _ | refine blk_drew ?_ | refine blk_alloc ?_ _)); refine blk_far ?_ NB165_190.out _; (with_reducible repeat (first | refine blk_drewN ?_ _ | refine blk_drew ?_ | refine blk_alloc ?_ _)); exact BK165.out) hb); have n1_ := Aside0.mk (blk_below (g := gb180) (o := .cells #[.int .i64 t171, .int .i64 t172, .int .u32 t173, .int .u32 t174, .int .i64 t175, .int .i64 t176, .string t177] 42 (0, 0)) (by (with_reducible repeat (first | refine blk_drewN ?_ _ | refine blk_drew ?_ | refine blk_alloc ?_ _)); refine blk_far ?_ NB180_190.out _; (with_reducible repeat (first | refine blk_drewN ?_ _ | refine blk_drew ?_ | refine blk_alloc ?_ _)); refine blk_far ?_ NB180_190.out _; (with_reducible repeat (first | refine blk_drewN ?_ _ | refine blk_drew ?_ | refine blk_alloc ?_ _)); refine blk_far ?_ NB180_190.out _; (with_reducible repeat (first | refine blk_drewN ?_ _ | refine blk_drew ?_ | refine blk_alloc ?_ _)); refine blk_far ?_ NB180_190.out _; (with_reducible repeat (first | refine blk_drewN ?_ _ | refine blk_drew ?_ | refine blk_alloc ?_ _)); refine blk_far ?_ NB180_190.out _; (with_reducible repeat (first | refine blk_drewN ?_ _ | refine blk_drew ?_ | refine blk_alloc ?_ _)); refine blk_far ?_ NB180_190.out _; (with_reducible repeat (first | refine blk_drewN ?_ _ | refine blk_drew ?_ | refine blk_alloc ?_ _)); refine blk_far ?_ NB180_190.out _; (with_reducible repeat (first | refine blk_drewN ?_ _ | refine blk_drew ?_ | refine blk_alloc ?_ _)); exact BK180.out) hb); have n2_ := Aside0.mk (blk_below (g := gb190) (o := .cells #[.int .i64 t181, .int .i64 t182, .int .u32 t183, .int .u32 t184, .int .i64 t185, .int .i64 t186, .string t187] 42 (0, 0)) (by (with_reducible repeat (first | refine blk_drewN ?_ _ | refine blk_drew ?_ | refine blk_alloc ?_ _)); refine blk_put (cs := #[.int .i64 t181, .int .i64 t182, .int .u32 t183, .int .u32 t184, .int .i64 t185, .int .i64 t186, .string (⟨#[]⟩ : ByteArray)]) ?_ 6 _ rfl; (with_reducible repeat (first | refine blk_drewN ?_ _ | refine blk_drew ?_ | refine blk_alloc ?_ _)); refine blk_put (cs := #[.int .i64 t181, .int .i64 t182, .int .u32 t183, .int .u32 t184, .int .i64 t185, .int .i64 0, .string (⟨#[]⟩ : ByteArray)]) ?_ 5 _ rfl; (with_reducible repeat (first | refine blk_drewN ?_ _ | refine blk_drew ?_ | refine blk_alloc ?_ _)); refine blk_put (cs := #[.int .i64 t181, .int .i64 t182, .int .u32 t183, .int .u32 t184, .int .i64 0, .int .i64 0, .string (⟨#[]⟩ : ByteArray)]) ?_ 4 _ rfl; (with_reducible repeat (first | refine blk_drewN ?_ _ | refine blk_drew ?_ | refine blk_alloc ?_ _)); refine blk_put (cs := #[.int .i64 t181, .int .i64 t182, .int .u32 t183, .int .u32 0, .int .i64 0, .int .i64 0, .string (⟨#[]⟩ : ByteArray)]) ?_ 3 _ rfl; (with_reducible repeat (first | refine blk_drewN ?_ _ | refine blk_drew ?_ | refine blk_alloc ?_ _)); refine blk_put (cs := #[.int .i64 t181, .int .i64 t182, .int .u32 0, .int .u32 0, .int .i64 0, .int .i64 0, .string (⟨#[]⟩ : ByteArray)]) ?_ 2 _ rfl; (with_reducible repeat (first | refine blk_drewN ?_ _ | refine blk_drew ?_ | refine blk_alloc ?_ _)); refine blk_put (cs := #[.int .i64 t181, .int .i64 0, .int .u32 0, .int .u32 0, .int .i64 0, .int .i64 0, .string (⟨#[]⟩ : ByteArray)]) ?_ 1 _ rfl; (with_reducible repeat (first | refine blk_drewN ?_ _ | refine blk_drew ?_ | refine blk_alloc ?_ _)); refine blk_put (cs := #[.int .i64 0, .int .i64 0, .int .u32 0, .int .u32 0, .int .i64 0, .int .i64 0, .string (⟨#[]⟩ : ByteArray)]) ?_ 0 _ rfl; (with_reducible repeat (first | refine blk_drewN ?_ _ | refine blk_drew ?_ | refine blk_alloc ?_ _)); exact BK190.out) hb); have n3_ := Aside0.mk (below_step (by repeat (first | (with_reducible first | exact HB.out | apply below_alloc | apply pw_below_drewN | apply below_drew1 | refine below_set ?_ GE165.out | refine below_set ?_ GE180.out | refine below_set ?_ GE190.out) | exact HB.out)) hb); clear BK165; clear BK180; clear BK190; clear HB; have BK165 := n0_; have BK180 := n1_; have BK190 := n2_; have HB := n3_; clear n0_ n1_ n2_ n3_; (try clear hb); (try clear hb2); (try clear hk); (try clear hi)))
         go_meet
         case rel => exact ⟨_, (true), (by first | rfl | (simp; done) | (simp [*]; done)), H', ⟨by have := HJ5.out; first | omega | exact Nat.le_refl _⟩, ⟨by (with_reducible repeat (first | refine blk_drewN ?_ _ | refine blk_drew ?_ | refine blk_alloc ?_ _)); exact BK165.out⟩, ⟨by (with_reducible repeat (first | refine blk_drewN ?_ _ | refine blk_drew ?_ | refine blk_alloc ?_ _)); exact BK180.out⟩, ⟨by (with_reducible repeat (first | refine blk_drewN ?_ _ | refine blk_drew ?_ | refine blk_alloc ?_ _)); exact BK190.out⟩, ⟨by repeat (first | (with_reducible first | exact HB.out | apply below_alloc | apply pw_below_drewN | apply below_drew1 | refine below_set ?_ GE165.out | refine below_set ?_ GE180.out | refine below_set ?_ GE190.out) | exact HB.out)⟩⟩
       ·
        replace c32 := Bool.eq_false_iff.mpr c32
        subst c32
        have H1 : (rampartlaw04_TcpBack.j1 kj5 a0 a1 a3 a4 t167 true a2_0 a2_1 a2_2 a2_3 a2_4 a2_5 a2_6) = some r := by rw [if_neg (show ¬ (false = true) by decide)] at H; exact H
        clear H
        have H := H1
        clear H1
        have H' := Aside0.mk H
        clear H
        have hnb67 := NB180_165.out
        have hnc67 := NB165_180.out
        have hnb68 := NB180_190.out
        have hnc68 := NB190_180.out
        have hcz69_0 : w26.cell? ⟨gb180, 0, none⟩ = some (.int .i64 t171) := (blk_cell BK180.out 0).trans rfl
        have hcz69_1 : w26.cell? ⟨gb180, 1, none⟩ = some (.int .i64 t172) := (blk_cell BK180.out 1).trans rfl
        have hcz69_2 : w26.cell? ⟨gb180, 2, none⟩ = some (.int .u32 t173) := (blk_cell BK180.out 2).trans rfl
        have hcz69_3 : w26.cell? ⟨gb180, 3, none⟩ = some (.int .u32 t174) := (blk_cell BK180.out 3).trans rfl
        have hcz69_4 : w26.cell? ⟨gb180, 4, none⟩ = some (.int .i64 t175) := (blk_cell BK180.out 4).trans rfl
        have hcz69_5 : w26.cell? ⟨gb180, 5, none⟩ = some (.int .i64 t176) := (blk_cell BK180.out 5).trans rfl
        have hcz69_6 : w26.cell? ⟨gb180, 6, none⟩ = some (.string t177) := (blk_cell BK180.out 6).trans rfl
        have hfz69_0 := blk_frozen BK180.out 0
        have hfz69_1 := blk_frozen BK180.out 1
        have hfz69_2 := blk_frozen BK180.out 2
        have hfz69_3 := blk_frozen BK180.out 3
        have hfz69_4 := blk_frozen BK180.out 4
        have hfz69_5 := blk_frozen BK180.out 5
        have hfz69_6 := blk_frozen BK180.out 6
        have hnb70 := NB165_190.out
        have hnc70 := NB190_165.out
        have hcz71_0 : w26.cell? ⟨gb165, 0, none⟩ = some (.int .i64 a2_0) := (blk_cell BK165.out 0).trans rfl
        have hcz71_1 : w26.cell? ⟨gb165, 1, none⟩ = some (.int .i64 a2_1) := (blk_cell BK165.out 1).trans rfl
        have hcz71_2 : w26.cell? ⟨gb165, 2, none⟩ = some (.int .u32 a2_2) := (blk_cell BK165.out 2).trans rfl
        have hcz71_3 : w26.cell? ⟨gb165, 3, none⟩ = some (.int .u32 a2_3) := (blk_cell BK165.out 3).trans rfl
        have hcz71_4 : w26.cell? ⟨gb165, 4, none⟩ = some (.int .i64 a2_4) := (blk_cell BK165.out 4).trans rfl
        have hcz71_5 : w26.cell? ⟨gb165, 5, none⟩ = some (.int .i64 a2_5) := (blk_cell BK165.out 5).trans rfl
        have hcz71_6 : w26.cell? ⟨gb165, 6, none⟩ = some (.string a2_6) := (blk_cell BK165.out 6).trans rfl
        have hfz71_0 := blk_frozen BK165.out 0
        have hfz71_1 := blk_frozen BK165.out 1
        have hfz71_2 := blk_frozen BK165.out 2
        have hfz71_3 := blk_frozen BK165.out 3
        have hfz71_4 := blk_frozen BK165.out 4
        have hfz71_5 := blk_frozen BK165.out 5
        have hfz71_6 := blk_frozen BK165.out 6
        go_wp2_with (first | (go_at_call 31; (with_reducible refine (rampartref04_Same.calls t171 t172 t173 t174 t175 t176 t177 a2_0 a2_1 a2_2 a2_3 a2_4 a2_5 a2_6 false _ A31.out).mono ?_); rintro e w72 ⟨rfl, hb⟩; have n0_ := Aside0.mk (blk_below (g := gb165) (o := .cells #[.int .i64 a2_0, .int .i64 a2_1, .int .u32 a2_2, .int .u32 a2_3, .int .i64 a2_4, .int .i64 a2_5, .string a2_6] 42 (0, 0)) (by (with_reducible repeat (first | refine blk_drewN ?_ _ | refine blk_drew ?_ | refine blk_alloc ?_ _)); refine blk_far ?_ NB165_190.out _; (with_reducible repeat (first | refine blk_drewN ?_ _ | refine blk_drew ?_ | refine blk_alloc ?_ _)); refine blk_far ?_ NB165_190.out _; (with_reducible repeat (first | refine blk_drewN ?_ _ | refine blk_drew ?_ | refine blk_alloc ?_ _)); refine blk_far ?_ NB165_190.out _; (with_reducible repeat (first | refine blk_drewN ?_ _ | refine blk_drew ?_ | refine blk_alloc ?_ _)); refine blk_far ?_ NB165_190.out _; (with_reducible repeat (first | refine blk_drewN ?_ _ | refine blk_drew ?_ | refine blk_alloc ?_ _)); refine blk_far ?_ NB165_190.out _; (with_reducible repeat (first | refine blk_drewN ?_ _ | refine blk_drew ?_ | refine blk_alloc ?_ _)); refine blk_far ?_ NB165_190.out _; (with_reducible repeat (first | refine blk_drewN ?_ _ | refine blk_drew ?_ | refine blk_alloc ?_ _)); refine blk_far ?_ NB165_190.out _; (with_reducible repeat (first | refine blk_drewN ?_ _ | refine blk_drew ?_ | refine blk_alloc ?_ _)); exact BK165.out) hb); have n1_ := Aside0.mk (blk_below (g := gb180) (o := .cells #[.int .i64 t171, .int .i64 t172, .int .u32 t173, .int .u32 t174, .int .i64 t175, .int .i64 t176, .string t177] 42 (0, 0)) (by (with_reducible repeat (first | refine blk_drewN ?_ _ | refine blk_drew ?_ | refine blk_alloc ?_ _)); refine blk_far ?_ NB180_190.out _; (with_reducible repeat (first | refine blk_drewN ?_ _ | refine blk_drew ?_ | refine blk_alloc ?_ _)); refine blk_far ?_ NB180_190.out _; (with_reducible repeat (first | refine blk_drewN ?_ _ | refine blk_drew ?_ | refine blk_alloc ?_ _)); refine blk_far ?_ NB180_190.out _; (with_reducible repeat (first | refine blk_drewN ?_ _ | refine blk_drew ?_ | refine blk_alloc ?_ _)); refine blk_far ?_ NB180_190.out _; (with_reducible repeat (first | refine blk_drewN ?_ _ | refine blk_drew ?_ | refine blk_alloc ?_ _)); refine blk_far ?_ NB180_190.out _; (with_reducible repeat (first | refine blk_drewN ?_ _ | refine blk_drew ?_ | refine blk_alloc ?_ _)); refine blk_far ?_ NB180_190.out _; (with_reducible repeat (first | refine blk_drewN ?_ _ | refine blk_drew ?_ | refine blk_alloc ?_ _)); refine blk_far ?_ NB180_190.out _; (with_reducible repeat (first | refine blk_drewN ?_ _ | refine blk_drew ?_ | refine blk_alloc ?_ _)); exact BK180.out) hb); have n2_ := Aside0.mk (blk_below (g := gb190) (o := .cells #[.int .i64 t181, .int .i64 t182, .int .u32 t183, .int .u32 t184, .int .i64 t185, .int .i64 t186, .string t187] 42 (0, 0)) (by (with_reducible repeat (first | refine blk_drewN ?_ _ | refine blk_drew ?_ | refine blk_alloc ?_ _)); refine blk_put (cs := #[.int .i64 t181, .int .i64 t182, .int .u32 t183, .int .u32 t184, .int .i64 t185, .int .i64 t186, .string (⟨#[]⟩ : ByteArray)]) ?_ 6 _ rfl; (with_reducible repeat (first | refine blk_drewN ?_ _ | refine blk_drew ?_ | refine blk_alloc ?_ _)); refine blk_put (cs := #[.int .i64 t181, .int .i64 t182, .int .u32 t183, .int .u32 t184, .int .i64 t185, .int .i64 0, .string (⟨#[]⟩ : ByteArray)]) ?_ 5 _ rfl; (with_reducible repeat (first | refine blk_drewN ?_ _ | refine blk_drew ?_ | refine blk_alloc ?_ _)); refine blk_put (cs := #[.int .i64 t181, .int .i64 t182, .int .u32 t183, .int .u32 t184, .int .i64 0, .int .i64 0, .string (⟨#[]⟩ : ByteArray)]) ?_ 4 _ rfl; (with_reducible repeat (first | refine blk_drewN ?_ _ | refine blk_drew ?_ | refine blk_alloc ?_ _)); refine blk_put (cs := #[.int .i64 t181, .int .i64 t182, .int .u32 t183, .int .u32 0, .int .i64 0, .int .i64 0, .string (⟨#[]⟩ : ByteArray)]) ?_ 3 _ rfl; (with_reducible repeat (first | refine blk_drewN ?_ _ | refine blk_drew ?_ | refine blk_alloc ?_ _)); refine blk_put (cs := #[.int .i64 t181, .int .i64 t182, .int .u32 0, .int .u32 0, .int .i64 0, .int .i64 0, .string (⟨#[]⟩ : ByteArray)]) ?_ 2 _ rfl; (with_reducible repeat (first | refine blk_drewN ?_ _ | refine blk_drew ?_ | refine blk_alloc ?_ _)); refine blk_put (cs := #[.int .i64 t181, .int .i64 0, .int .u32 0, .int .u32 0, .int .i64 0, .int .i64 0, .string (⟨#[]⟩ : ByteArray)]) ?_ 1 _ rfl; (with_reducible repeat (first | refine blk_drewN ?_ _ | refine blk_drew ?_ | refine blk_alloc ?_ _)); refine blk_put (cs := #[.int .i64 0, .int .i64 0, .int .u32 0, .int .u32 0, .int .i64 0, .int .i64 0, .string (⟨#[]⟩ : ByteArray)]) ?_ 0 _ rfl; (with_reducible repeat (first | refine blk_drewN ?_ _ | refine blk_drew ?_ | refine blk_alloc ?_ _)); exact BK190.out) hb); have n3_ := Aside0.mk (below_step (by repeat (first | (with_reducible first | exact HB.out | apply below_alloc | apply pw_below_drewN | apply below_drew1 | refine below_set ?_ GE165.out | refine below_set ?_ GE180.out | refine below_set ?_ GE190.out) | exact HB.out)) hb); clear BK165; clear BK180; clear BK190; clear HB; have BK165 := n0_; have BK180 := n1_; have BK190 := n2_; have HB := n3_; clear n0_ n1_ n2_ n3_; (try clear hb); (try clear hb2); (try clear hk); (try clear hi)))
        go_meet
        case rel => exact ⟨_, (true), (by first | rfl | (simp; done) | (simp [*]; done)), H', ⟨by have := HJ5.out; first | omega | exact Nat.le_refl _⟩, ⟨by (with_reducible repeat (first | refine blk_drewN ?_ _ | refine blk_drew ?_ | refine blk_alloc ?_ _)); exact BK165.out⟩, ⟨by (with_reducible repeat (first | refine blk_drewN ?_ _ | refine blk_drew ?_ | refine blk_alloc ?_ _)); exact BK180.out⟩, ⟨by (with_reducible repeat (first | refine blk_drewN ?_ _ | refine blk_drew ?_ | refine blk_alloc ?_ _)); exact BK190.out⟩, ⟨by repeat (first | (with_reducible first | exact HB.out | apply below_alloc | apply pw_below_drewN | apply below_drew1 | refine below_set ?_ GE165.out | refine below_set ?_ GE180.out | refine below_set ?_ GE190.out) | exact HB.out)⟩⟩
      ·
       rw [if_neg c30] at H
       have c30b0 : (t179 == 0) = false := beq_eq_false_iff_ne.mpr c30
       have c30b1 : (t179 != 0) = true := bne_iff_ne.mpr c30
       (first | rw [c30b0] | (simp only [i64_w, i32_w]; rw [c30b0]) | skip)
       have H' := Aside0.mk H
       clear H
       go_wp2
       go_meet
       case rel => exact ⟨_, (true), (by first | rfl | (simp; done) | (simp [*]; done)), H', ⟨by have := HJ5.out; first | omega | exact Nat.le_refl _⟩, ⟨by (with_reducible repeat (first | refine blk_drewN ?_ _ | refine blk_drew ?_ | refine blk_alloc ?_ _)); refine blk_far ?_ NB165_190.out _; (with_reducible repeat (first | refine blk_drewN ?_ _ | refine blk_drew ?_ | refine blk_alloc ?_ _)); refine blk_far ?_ NB165_190.out _; (with_reducible repeat (first | refine blk_drewN ?_ _ | refine blk_drew ?_ | refine blk_alloc ?_ _)); refine blk_far ?_ NB165_190.out _; (with_reducible repeat (first | refine blk_drewN ?_ _ | refine blk_drew ?_ | refine blk_alloc ?_ _)); refine blk_far ?_ NB165_190.out _; (with_reducible repeat (first | refine blk_drewN ?_ _ | refine blk_drew ?_ | refine blk_alloc ?_ _)); refine blk_far ?_ NB165_190.out _; (with_reducible repeat (first | refine blk_drewN ?_ _ | refine blk_drew ?_ | refine blk_alloc ?_ _)); refine blk_far ?_ NB165_190.out _; (with_reducible repeat (first | refine blk_drewN ?_ _ | refine blk_drew ?_ | refine blk_alloc ?_ _)); refine blk_far ?_ NB165_190.out _; (with_reducible repeat (first | refine blk_drewN ?_ _ | refine blk_drew ?_ | refine blk_alloc ?_ _)); exact BK165.out⟩, ⟨by (with_reducible repeat (first | refine blk_drewN ?_ _ | refine blk_drew ?_ | refine blk_alloc ?_ _)); refine blk_far ?_ NB180_190.out _; (with_reducible repeat (first | refine blk_drewN ?_ _ | refine blk_drew ?_ | refine blk_alloc ?_ _)); refine blk_far ?_ NB180_190.out _; (with_reducible repeat (first | refine blk_drewN ?_ _ | refine blk_drew ?_ | refine blk_alloc ?_ _)); refine blk_far ?_ NB180_190.out _; (with_reducible repeat (first | refine blk_drewN ?_ _ | refine blk_drew ?_ | refine blk_alloc ?_ _)); refine blk_far ?_ NB180_190.out _; (with_reducible repeat (first | refine blk_drewN ?_ _ | refine blk_drew ?_ | refine blk_alloc ?_ _)); refine blk_far ?_ NB180_190.out _; (with_reducible repeat (first | refine blk_drewN ?_ _ | refine blk_drew ?_ | refine blk_alloc ?_ _)); refine blk_far ?_ NB180_190.out _; (with_reducible repeat (first | refine blk_drewN ?_ _ | refine blk_drew ?_ | refine blk_alloc ?_ _)); refine blk_far ?_ NB180_190.out _; (with_reducible repeat (first | refine blk_drewN ?_ _ | refine blk_drew ?_ | refine blk_alloc ?_ _)); exact BK180.out⟩, ⟨by (with_reducible repeat (first | refine blk_drewN ?_ _ | refine blk_drew ?_ | refine blk_alloc ?_ _)); refine blk_put (cs := #[.int .i64 t181, .int .i64 t182, .int .u32 t183, .int .u32 t184, .int .i64 t185, .int .i64 t186, .string (⟨#[]⟩ : ByteArray)]) ?_ 6 _ rfl; (with_reducible repeat (first | refine blk_drewN ?_ _ | refine blk_drew ?_ | refine blk_alloc ?_ _)); refine blk_put (cs := #[.int .i64 t181, .int .i64 t182, .int .u32 t183, .int .u32 t184, .int .i64 t185, .int .i64 0, .string (⟨#[]⟩ : ByteArray)]) ?_ 5 _ rfl; (with_reducible repeat (first | refine blk_drewN ?_ _ | refine blk_drew ?_ | refine blk_alloc ?_ _)); refine blk_put (cs := #[.int .i64 t181, .int .i64 t182, .int .u32 t183, .int .u32 t184, .int .i64 0, .int .i64 0, .string (⟨#[]⟩ : ByteArray)]) ?_ 4 _ rfl; (with_reducible repeat (first | refine blk_drewN ?_ _ | refine blk_drew ?_ | refine blk_alloc ?_ _)); refine blk_put (cs := #[.int .i64 t181, .int .i64 t182, .int .u32 t183, .int .u32 0, .int .i64 0, .int .i64 0, .string (⟨#[]⟩ : ByteArray)]) ?_ 3 _ rfl; (with_reducible repeat (first | refine blk_drewN ?_ _ | refine blk_drew ?_ | refine blk_alloc ?_ _)); refine blk_put (cs := #[.int .i64 t181, .int .i64 t182, .int .u32 0, .int .u32 0, .int .i64 0, .int .i64 0, .string (⟨#[]⟩ : ByteArray)]) ?_ 2 _ rfl; (with_reducible repeat (first | refine blk_drewN ?_ _ | refine blk_drew ?_ | refine blk_alloc ?_ _)); refine blk_put (cs := #[.int .i64 t181, .int .i64 0, .int .u32 0, .int .u32 0, .int .i64 0, .int .i64 0, .string (⟨#[]⟩ : ByteArray)]) ?_ 1 _ rfl; (with_reducible repeat (first | refine blk_drewN ?_ _ | refine blk_drew ?_ | refine blk_alloc ?_ _)); refine blk_put (cs := #[.int .i64 0, .int .i64 0, .int .u32 0, .int .u32 0, .int .i64 0, .int .i64 0, .string (⟨#[]⟩ : ByteArray)]) ?_ 0 _ rfl; (with_reducible repeat (first | refine blk_drewN ?_ _ | refine blk_drew ?_ | refine blk_alloc ?_ _)); exact BK190.out⟩, ⟨by repeat (first | (with_reducible first | exact HB.out | apply below_alloc | apply pw_below_drewN | apply below_drew1 | refine below_set ?_ GE165.out | refine below_set ?_ GE180.out | refine below_set ?_ GE190.out) | exact HB.out)⟩⟩
     case rest =>
      clear HC18
      try clear c1
      try clear c2
      try clear p2
      try clear c3
      try clear c4
      try clear c5
      try clear c6
      try clear c7
      try clear c8
      try clear c8b0
      try clear c8b1
      try clear c11
      try clear c15
      try clear c15b0
      try clear c15b1
      try clear c23
      try clear c24
      try clear c25
      try clear c27
      try clear c28
      try clear c30
      try clear c30b0
      try clear c30b1
      try clear c32
      try clear c33
      try clear c33b0
      try clear c33b1
      try clear c34
      try clear c34b0
      try clear c34b1
      try clear c36
      try clear c37
      try clear c38
      try clear c40
      try clear c46
      try clear c47
      try clear c49
      try clear c55
      try clear c56
      try clear c58
      try clear c61
      try clear c62
      try clear c64
      try clear c67
      try clear c68
      try clear c70
      try clear hcz10_0
      try clear hcz10_1
      try clear hcz10_2
      try clear hcz10_3
      try clear hcz10_4
      try clear hcz10_5
      try clear hcz10_6
      try clear hcz19_0
      try clear hcz19_1
      try clear hcz19_2
      try clear hcz19_3
      try clear hcz19_4
      try clear hcz19_5
      try clear hcz19_6
      try clear hcz24_0
      try clear hcz24_1
      try clear hcz24_2
      try clear hcz24_3
      try clear hcz24_4
      try clear hcz24_5
      try clear hcz24_6
      try clear hcz29_0
      try clear hcz29_1
      try clear hcz29_2
      try clear hcz29_3
      try clear hcz29_4
      try clear hcz29_5
      try clear hcz29_6
      try clear hcz39_0
      try clear hcz39_1
      try clear hcz39_2
      try clear hcz39_3
      try clear hcz39_4
      try clear hcz39_5
      try clear hcz39_6
      try clear hcz41_0
      try clear hcz41_1
      try clear hcz41_2
      try clear hcz41_3
      try clear hcz41_4
      try clear hcz41_5
      try clear hcz41_6
      try clear hcz43_0
      try clear hcz43_1
      try clear hcz43_2
      try clear hcz43_3
      try clear hcz43_4
      try clear hcz43_5
      try clear hcz43_6
      try clear hcz44_0
      try clear hcz44_1
      try clear hcz44_2
      try clear hcz44_3
      try clear hcz44_4
      try clear hcz44_5
      try clear hcz44_6
      try clear hcz48_0
      try clear hcz48_1
      try clear hcz48_2
      try clear hcz48_3
      try clear hcz48_4
      try clear hcz48_5
      try clear hcz48_6
      try clear hcz50_0
      try clear hcz50_1
      try clear hcz50_2
      try clear hcz50_3
      try clear hcz50_4
      try clear hcz50_5
      try clear hcz50_6
      try clear hcz52_0
      try clear hcz52_1
      try clear hcz52_2
      try clear hcz52_3
      try clear hcz52_4
      try clear hcz52_5
      try clear hcz52_6
      try clear hcz53_0
      try clear hcz53_1
      try clear hcz53_2
      try clear hcz53_3
      try clear hcz53_4
      try clear hcz53_5
      try clear hcz53_6
      try clear hcz57_0
      try clear hcz57_1
      try clear hcz57_2
      try clear hcz57_3
      try clear hcz57_4
      try clear hcz57_5
      try clear hcz57_6
      try clear hcz59_0
      try clear hcz59_1
      try clear hcz59_2
      try clear hcz59_3
      try clear hcz59_4
      try clear hcz59_5
      try clear hcz59_6
      try clear hcz63_0
      try clear hcz63_1
      try clear hcz63_2
      try clear hcz63_3
      try clear hcz63_4
      try clear hcz63_5
      try clear hcz63_6
      try clear hcz65_0
      try clear hcz65_1
      try clear hcz65_2
      try clear hcz65_3
      try clear hcz65_4
      try clear hcz65_5
      try clear hcz65_6
      try clear hcz69_0
      try clear hcz69_1
      try clear hcz69_2
      try clear hcz69_3
      try clear hcz69_4
      try clear hcz69_5
      try clear hcz69_6
      try clear hcz71_0
      try clear hcz71_1
      try clear hcz71_2
      try clear hcz71_3
      try clear hcz71_4
      try clear hcz71_5
      try clear hcz71_6
      try clear hcz9_0
      try clear hcz9_1
      try clear hcz9_2
      try clear hcz9_3
      try clear hcz9_4
      try clear hcz9_5
      try clear hcz9_6
      try clear hfz10_0
      try clear hfz10_1
      try clear hfz10_2
      try clear hfz10_3
      try clear hfz10_4
      try clear hfz10_5
      try clear hfz10_6
      try clear hfz19_0
      try clear hfz19_1
      try clear hfz19_2
      try clear hfz19_3
      try clear hfz19_4
      try clear hfz19_5
      try clear hfz19_6
      try clear hfz24_0
      try clear hfz24_1
      try clear hfz24_2
      try clear hfz24_3
      try clear hfz24_4
      try clear hfz24_5
      try clear hfz24_6
      try clear hfz29_0
      try clear hfz29_1
      try clear hfz29_2
      try clear hfz29_3
      try clear hfz29_4
      try clear hfz29_5
      try clear hfz29_6
      try clear hfz39_0
      try clear hfz39_1
      try clear hfz39_2
      try clear hfz39_3
      try clear hfz39_4
      try clear hfz39_5
      try clear hfz39_6
      try clear hfz41_0
      try clear hfz41_1
      try clear hfz41_2
      try clear hfz41_3
      try clear hfz41_4
      try clear hfz41_5
      try clear hfz41_6
      try clear hfz43_0
      try clear hfz43_1
      try clear hfz43_2
      try clear hfz43_3
      try clear hfz43_4
      try clear hfz43_5
      try clear hfz43_6
      try clear hfz44_0
      try clear hfz44_1
      try clear hfz44_2
      try clear hfz44_3
      try clear hfz44_4
      try clear hfz44_5
      try clear hfz44_6
      try clear hfz48_0
      try clear hfz48_1
      try clear hfz48_2
      try clear hfz48_3
      try clear hfz48_4
      try clear hfz48_5
      try clear hfz48_6
      try clear hfz50_0
      try clear hfz50_1
      try clear hfz50_2
      try clear hfz50_3
      try clear hfz50_4
      try clear hfz50_5
      try clear hfz50_6
      try clear hfz52_0
      try clear hfz52_1
      try clear hfz52_2
      try clear hfz52_3
      try clear hfz52_4
      try clear hfz52_5
      try clear hfz52_6
      try clear hfz53_0
      try clear hfz53_1
      try clear hfz53_2
      try clear hfz53_3
      try clear hfz53_4
      try clear hfz53_5
      try clear hfz53_6
      try clear hfz57_0
      try clear hfz57_1
      try clear hfz57_2
      try clear hfz57_3
      try clear hfz57_4
      try clear hfz57_5
      try clear hfz57_6
      try clear hfz59_0
      try clear hfz59_1
      try clear hfz59_2
      try clear hfz59_3
      try clear hfz59_4
      try clear hfz59_5
      try clear hfz59_6
      try clear hfz63_0
      try clear hfz63_1
      try clear hfz63_2
      try clear hfz63_3
      try clear hfz63_4
      try clear hfz63_5
      try clear hfz63_6
      try clear hfz65_0
      try clear hfz65_1
      try clear hfz65_2
      try clear hfz65_3
      try clear hfz65_4
      try clear hfz65_5
      try clear hfz65_6
      try clear hfz69_0
      try clear hfz69_1
      try clear hfz69_2
      try clear hfz69_3
      try clear hfz69_4
      try clear hfz69_5
      try clear hfz69_6
      try clear hfz71_0
      try clear hfz71_1
      try clear hfz71_2
      try clear hfz71_3
      try clear hfz71_4
      try clear hfz71_5
      try clear hfz71_6
      try clear hfz9_0
      try clear hfz9_1
      try clear hfz9_2
      try clear hfz9_3
      try clear hfz9_4
      try clear hfz9_5
      try clear hfz9_6
      try clear p2
      obtain ⟨kq, x103_17, rfl, HA, HJ17, BK165, BK180, BK190, HB⟩ := hcut
      cases kq with
      | zero => exact absurd HA.out (by simp [rampartlaw04_TcpBack.j1])
      | succ kj17 =>
       have H := HA.out
       clear HA
       simp only [rampartlaw04_TcpBack.j1] at H
       by_cases c73 : x103_17 = true
       ·
        subst c73
        have H1 : (some false) = some r := by rw [if_pos rfl] at H; exact H
        clear H
        have H := H1
        clear H1
        exact absurd ((Option.some.inj H).trans HR.out) (by decide)
       ·
        replace c73 := Bool.eq_false_iff.mpr c73
        subst c73
        have H1 : (if (t167.size : Int) = (wrap64 ((wrap64 (20 + (a2_6.size : Int))) + (a3.size : Int))) then ((rampartlaw00_Place.f a4 (wrap64 (8 * (t167.size : Int)))).bind fun t193 => (if 0 ≤ (wrap64 (Int.tdiv t193 8)) then (if (wrap64 (Int.tdiv t193 8)) < (t167.size : Int) then (if 0 ≤ (IntKind.u64.wrap (Int.tmod t193 8)) then ((gosem_cut_init.f t167 (wrap64 (Int.tdiv t193 8)) (Go.bits .xor .u8 (bt t167 (wrap64 (Int.tdiv t193 8))) (shl .u8 1 (IntKind.u64.wrap (Int.tmod t193 8))))).bind fun t194 => ((tcp_Get.f kj17 a0 a1 t194).bind fun bt195 => ((tcp_Get.f kj17 (Go.bits .xor .u32 a0 1) a1 t167).bind fun bt205 => (if bt195.2.2.2.2.2.2.2.2 = 0 then (some false) else (if bt205.2.2.2.2.2.2.2.2 = 4 then ((rampartlaw04_awake.f kj17).bind fun t215 => (some t215)) else (some false)))))) else (none)) else (none)) else (none))) else (some false)) = some r := by rw [if_neg (show ¬ (false = true) by decide)] at H; exact H
        clear H
        have H := H1
        clear H1
        by_cases c74 : (t167.size : Int) = (wrap64 ((wrap64 (20 + (a2_6.size : Int))) + (a3.size : Int)))
        ·
         rw [if_pos c74] at H
         have c74b0 : ((t167.size : Int) == (wrap64 ((wrap64 (20 + (a2_6.size : Int))) + (a3.size : Int)))) = true := beq_iff_eq.mpr c74
         have c74b1 : ((t167.size : Int) != (wrap64 ((wrap64 (20 + (a2_6.size : Int))) + (a3.size : Int)))) = false := bne_eq_false_iff_eq.mpr c74
         clear c74
         replace H := Option.bind_eq_some_iff.mp H
         obtain ⟨t193, A750, H⟩ := H
         replace H : (if 0 ≤ (wrap64 (Int.tdiv t193 8)) then (if (wrap64 (Int.tdiv t193 8)) < (t167.size : Int) then (if 0 ≤ (IntKind.u64.wrap (Int.tmod t193 8)) then ((gosem_cut_init.f t167 (wrap64 (Int.tdiv t193 8)) (Go.bits .xor .u8 (bt t167 (wrap64 (Int.tdiv t193 8))) (shl .u8 1 (IntKind.u64.wrap (Int.tmod t193 8))))).bind fun t194 => ((tcp_Get.f kj17 a0 a1 t194).bind fun bt195 => ((tcp_Get.f kj17 (Go.bits .xor .u32 a0 1) a1 t167).bind fun bt205 => (if bt195.2.2.2.2.2.2.2.2 = 0 then (some false) else (if bt205.2.2.2.2.2.2.2.2 = 4 then ((rampartlaw04_awake.f kj17).bind fun t215 => (some t215)) else (some false)))))) else (none)) else (none)) else (none)) = some r := H
         have A75 := Aside0.mk A750
         clear A750
         obtain ⟨ji76, hji76⟩ : ∃ j_ : Int, (wrap64 (Int.tdiv t193 8)) = j_ := ⟨_, rfl⟩
         replace H : (if 0 ≤ (ji76) then (if (ji76) < (t167.size : Int) then (if 0 ≤ (IntKind.u64.wrap (Int.tmod t193 8)) then ((gosem_cut_init.f t167 (ji76) (Go.bits .xor .u8 (bt t167 (ji76)) (shl .u8 1 (IntKind.u64.wrap (Int.tmod t193 8))))).bind fun t194 => ((tcp_Get.f kj17 a0 a1 t194).bind fun bt195 => ((tcp_Get.f kj17 (Go.bits .xor .u32 a0 1) a1 t167).bind fun bt205 => (if bt195.2.2.2.2.2.2.2.2 = 0 then (some false) else (if bt205.2.2.2.2.2.2.2.2 = 4 then ((rampartlaw04_awake.f kj17).bind fun t215 => (some t215)) else (some false)))))) else (none)) else (none)) else (none)) = some r := by first | (rw [hji76] at H; exact H) | (simp only [hji76] at H ⊢; exact H)
         (try rw [hji76] at A75)
         have hji76w : (IntKind.i64.wrap (Int.tdiv t193 8)) = ji76 := (i64_w _).trans hji76
         by_cases c77 : 0 ≤ (ji76)
         ·
          rw [if_pos c77] at H
          have c77b0 : decide (0 ≤ (ji76)) = true := decide_eq_true c77
          clear c77
          by_cases c78 : (ji76) < (t167.size : Int)
          ·
           rw [if_pos c78] at H
           have c78b0 : decide ((ji76) < (t167.size : Int)) = true := decide_eq_true c78
           clear c78
           obtain ⟨ji80, hji80⟩ : ∃ j_ : Int, (IntKind.u64.wrap (Int.tmod t193 8)) = j_ := ⟨_, rfl⟩
           replace H : (if 0 ≤ (ji80) then ((gosem_cut_init.f t167 (ji76) (Go.bits .xor .u8 (bt t167 (ji76)) (shl .u8 1 (ji80)))).bind fun t194 => ((tcp_Get.f kj17 a0 a1 t194).bind fun bt195 => ((tcp_Get.f kj17 (Go.bits .xor .u32 a0 1) a1 t167).bind fun bt205 => (if bt195.2.2.2.2.2.2.2.2 = 0 then (some false) else (if bt205.2.2.2.2.2.2.2.2 = 4 then ((rampartlaw04_awake.f kj17).bind fun t215 => (some t215)) else (some false)))))) else (none)) = some r := by first | (rw [hji80] at H; exact H) | (simp only [hji80] at H ⊢; exact H)
           (try rw [hji80] at A75)
           by_cases c81 : 0 ≤ (ji80)
           ·
            rw [if_pos c81] at H
            have c81b0 := eq_true c81
            have c81b1 : decide (0 ≤ (ji80)) = true := decide_eq_true c81
            clear c81
            obtain ⟨ji82, hji82⟩ : ∃ j_ : Int, (shl .u8 1 (ji80)) = j_ := ⟨_, rfl⟩
            replace H : ((gosem_cut_init.f t167 (ji76) (Go.bits .xor .u8 (bt t167 (ji76)) (ji82))).bind fun t194 => ((tcp_Get.f kj17 a0 a1 t194).bind fun bt195 => ((tcp_Get.f kj17 (Go.bits .xor .u32 a0 1) a1 t167).bind fun bt205 => (if bt195.2.2.2.2.2.2.2.2 = 0 then (some false) else (if bt205.2.2.2.2.2.2.2.2 = 4 then ((rampartlaw04_awake.f kj17).bind fun t215 => (some t215)) else (some false)))))) = some r := by first | (rw [hji82] at H; exact H) | (simp only [hji82] at H ⊢; exact H)
            (try rw [hji82] at A75)
            have hji82_ : (IntKind.u8.wrap (1 * 2 ^ min (ji80).toNat 8)) = ji82 := hji82
            have hji82z : (ji80) ≤ 8 → (IntKind.u8.wrap (1 * 2 ^ (ji80).toNat)) = ji82 := shl_small hji82
            have hji82u : (IntKind.u8.wrap (2 ^ min (ji80).toNat 8)) = ji82 := by have h_ := hji82_; rw [Int.one_mul] at h_; exact h_
            have hji82v : (ji80) ≤ 8 → (IntKind.u8.wrap (2 ^ (ji80).toNat)) = ji82 := fun hle_ => by have h_ := hji82z hle_; rw [Int.one_mul] at h_; exact h_
            replace H := Option.bind_eq_some_iff.mp H
            obtain ⟨t194, A830, H⟩ := H
            replace H : ((tcp_Get.f kj17 a0 a1 t194).bind fun bt195 => ((tcp_Get.f kj17 (Go.bits .xor .u32 a0 1) a1 t167).bind fun bt205 => (if bt195.2.2.2.2.2.2.2.2 = 0 then (some false) else (if bt205.2.2.2.2.2.2.2.2 = 4 then ((rampartlaw04_awake.f kj17).bind fun t215 => (some t215)) else (some false))))) = some r := H
            have A83 := Aside0.mk A830
            clear A830
            replace H := Option.bind_eq_some_iff.mp H
            obtain ⟨⟨t195, t196, t197, t198, t199, t200, t201, t202, t203⟩, A840, H⟩ := H
            replace H : ((tcp_Get.f kj17 (Go.bits .xor .u32 a0 1) a1 t167).bind fun bt205 => (if t203 = 0 then (some false) else (if bt205.2.2.2.2.2.2.2.2 = 4 then ((rampartlaw04_awake.f kj17).bind fun t215 => (some t215)) else (some false)))) = some r := H
            have A84 := Aside0.mk A840
            clear A840
            replace H := Option.bind_eq_some_iff.mp H
            obtain ⟨⟨t205, t206, t207, t208, t209, t210, t211, t212, t213⟩, A850, H⟩ := H
            replace H : (if t203 = 0 then (some false) else (if t213 = 4 then ((rampartlaw04_awake.f kj17).bind fun t215 => (some t215)) else (some false))) = some r := H
            have A85 := Aside0.mk A850
            clear A850
            by_cases c86 : t203 = 0
            ·
             rw [if_pos c86] at H
             have c86b0 : (t203 == 0) = true := beq_iff_eq.mpr c86
             have c86b1 : (t203 != 0) = false := bne_eq_false_iff_eq.mpr c86
             clear c86
             exact absurd ((Option.some.inj H).trans HR.out) (by decide)
            ·
             rw [if_neg c86] at H
             have c86b0 : (t203 == 0) = false := beq_eq_false_iff_ne.mpr c86
             have c86b1 : (t203 != 0) = true := bne_iff_ne.mpr c86
             by_cases c87 : t213 = 4
             ·
              rw [if_pos c87] at H
              have c87b0 : (t213 == 4) = true := beq_iff_eq.mpr c87
              have c87b1 : (t213 != 4) = false := bne_eq_false_iff_eq.mpr c87
              clear c87
              replace H := Option.bind_eq_some_iff.mp H
              obtain ⟨t215, A880, H⟩ := H
              replace H : (some t215) = some r := H
              have A88 := Aside0.mk A880
              clear A880
              obtain rfl := Option.some.inj H
              have hnb89 := NB165_180.out
              have hnc89 := NB180_165.out
              have hnb90 := NB165_190.out
              have hnc90 := NB190_165.out
              have hcz91_0 : wc.cell? ⟨gb165, 0, none⟩ = some (.int .i64 a2_0) := (blk_cell BK165.out 0).trans rfl
              have hcz91_1 : wc.cell? ⟨gb165, 1, none⟩ = some (.int .i64 a2_1) := (blk_cell BK165.out 1).trans rfl
              have hcz91_2 : wc.cell? ⟨gb165, 2, none⟩ = some (.int .u32 a2_2) := (blk_cell BK165.out 2).trans rfl
              have hcz91_3 : wc.cell? ⟨gb165, 3, none⟩ = some (.int .u32 a2_3) := (blk_cell BK165.out 3).trans rfl
              have hcz91_4 : wc.cell? ⟨gb165, 4, none⟩ = some (.int .i64 a2_4) := (blk_cell BK165.out 4).trans rfl
              have hcz91_5 : wc.cell? ⟨gb165, 5, none⟩ = some (.int .i64 a2_5) := (blk_cell BK165.out 5).trans rfl
              have hcz91_6 : wc.cell? ⟨gb165, 6, none⟩ = some (.string a2_6) := (blk_cell BK165.out 6).trans rfl
              have hfz91_0 := blk_frozen BK165.out 0
              have hfz91_1 := blk_frozen BK165.out 1
              have hfz91_2 := blk_frozen BK165.out 2
              have hfz91_3 := blk_frozen BK165.out 3
              have hfz91_4 := blk_frozen BK165.out 4
              have hfz91_5 := blk_frozen BK165.out 5
              have hfz91_6 := blk_frozen BK165.out 6
              have hconv8 := fun (s : ByteArray) (w : World) => Lib.run_convert_string_bytes (P := Try.prog) w 9 34 5 s Try.underlying9 Try.underlying34 Try.underlying5
              go_wp2_with (first | ((with_reducible refine gate_dst (N := 115) rfl ?_); refine conv_event ?hg (N := 115) ?hd (s := t167) ?hr ?_; (case hd => rfl); (case hg => rfl); (case hr => first | (go_simp; done) | (go_simp; rfl)); intro g8 hg8 c8 w8 hrow8 hb8; have BB := Aside0.mk hrow8; have BL := Aside0.mk hb8; have GG := Aside0.mk (show wc.heap.size ≤ g8 from Nat.le_of_eq hg8.symm); clear hrow8 hg8 hb8; have h8_0 : w8.cell? ⟨gb165, 0, none⟩ = some (.int .i64 a2_0) := (blk_cell (blk_below BK165.out BL.out) 0).trans rfl; have h8_1 : w8.cell? ⟨gb165, 1, none⟩ = some (.int .i64 a2_1) := (blk_cell (blk_below BK165.out BL.out) 1).trans rfl; have h8_2 : w8.cell? ⟨gb165, 2, none⟩ = some (.int .u32 a2_2) := (blk_cell (blk_below BK165.out BL.out) 2).trans rfl; have h8_3 : w8.cell? ⟨gb165, 3, none⟩ = some (.int .u32 a2_3) := (blk_cell (blk_below BK165.out BL.out) 3).trans rfl; have h8_4 : w8.cell? ⟨gb165, 4, none⟩ = some (.int .i64 a2_4) := (blk_cell (blk_below BK165.out BL.out) 4).trans rfl; have h8_5 : w8.cell? ⟨gb165, 5, none⟩ = some (.int .i64 a2_5) := (blk_cell (blk_below BK165.out BL.out) 5).trans rfl; have h8_6 : w8.cell? ⟨gb165, 6, none⟩ = some (.string a2_6) := (blk_cell (blk_below BK165.out BL.out) 6).trans rfl;  skip) | ((with_reducible refine gate_callee (f := 23) rfl ?_); refine goesL_ (some 120) rfl rfl Try.func23 (by kernel_rfl) rfl #[.int .i64 a4, .int .i64 (wrap64 (8 * (t167.size : Int)))] rfl (by (try simp only [List.map_toArray, List.map_cons, List.map_nil]); first | done | rfl | (simp only [List.length_drop, List.length_take]; rfl)) ?_; (with_reducible refine (rampartlaw00_Place.calls a4 (wrap64 (8 * (t167.size : Int))) t193 _ A75.out).mono ?_); rintro e w' ⟨rfl, ⟨nd, rfl⟩⟩; refine ⟨_, rfl, ?_⟩; (try (rw [drewN_self wc]; generalize hq_ : World.drewN wc _ = wc; have n0_ : Aside0 (wc.heap[gb165]? = some (.cells #[.int .i64 a2_0, .int .i64 a2_1, .int .u32 a2_2, .int .u32 a2_3, .int .i64 a2_4, .int .i64 a2_5, .string a2_6] 42 (0, 0))) := ⟨by rw [← hq_]; exact (by (with_reducible repeat (first | refine blk_drewN ?_ _ | refine blk_drew ?_ | refine blk_alloc ?_ _)); exact BK165.out)⟩; have n1_ : Aside0 (wc.heap[gb180]? = some (.cells #[.int .i64 t171, .int .i64 t172, .int .u32 t173, .int .u32 t174, .int .i64 t175, .int .i64 t176, .string t177] 42 (0, 0))) := ⟨by rw [← hq_]; exact (by (with_reducible repeat (first | refine blk_drewN ?_ _ | refine blk_drew ?_ | refine blk_alloc ?_ _)); exact BK180.out)⟩; have n2_ : Aside0 (wc.heap[gb190]? = some (.cells #[.int .i64 t181, .int .i64 t182, .int .u32 t183, .int .u32 t184, .int .i64 t185, .int .i64 t186, .string t187] 42 (0, 0))) := ⟨by rw [← hq_]; exact (by (with_reducible repeat (first | refine blk_drewN ?_ _ | refine blk_drew ?_ | refine blk_alloc ?_ _)); exact BK190.out)⟩; have n3_ : Aside0 (Below w.heap.size w wc) := ⟨by rw [← hq_]; exact (by repeat (first | (with_reducible first | exact HB.out | apply below_alloc | apply pw_below_drewN | apply below_drew1 | refine below_set ?_ GE165.out | refine below_set ?_ GE180.out | refine below_set ?_ GE190.out) | exact HB.out))⟩; clear BK165 BK180 BK190 HB hq_; have BK165 := n0_; have BK180 := n1_; have BK190 := n2_; have HB := n3_; clear n0_ n1_ n2_ n3_)); have p79 : 0 ≤ ((ji76) : Int) := of_decide_eq_true (by first | (with_reducible assumption) | assumption); have q79 : (ji76) < (t167.size : Int) := of_decide_eq_true (by first | (with_reducible assumption) | assumption); have hx79 := bt_at t167 (ji76); have B1_ := row8_drewN BB.out nd; have hc8 := row8_cell B1_ p79 q79; have hf8 := row8_frozen B1_ p79 q79; have BS := Aside0.mk (row8_set B1_ p79 q79 (v := (Go.bits .xor .u8 (bt t167 (ji76)) (ji82))) (bits8_range _ _ _).1 (bits8_range _ _ _).2); have NDW := Aside0.mk (rfl : World.drewN w8 nd = World.drewN w8 nd); clear B1_; replace p79 := eq_true p79; replace q79 := eq_true q79) | ((with_reducible refine gate_dst (N := 139) rfl ?_); have T8 := set_eq A83.out; have hback := fun cap => row8_back (P := Try.prog) (show Row8 _ g8 t194 by rw [T8]; exact BS.out) t167.size cap (by rw [T8, bset_size]) Try.underlying34 Try.underlying5 Try.underlying9; refine back_event ?hg (N := 139) ?hd (s := t194) ?hr ?_; (case hd => rfl); (case hg => rfl); (case hr => first | (go_simp; done) | (go_simp; rfl)); intro w92 hw8; have hb : Below wc.heap.size wc w92 := (by rw [hw8]; exact below_set (pw_below_drewN BL.out nd) GG.out); clear hw8 hback; have n0_ := Aside0.mk (blk_below (g := gb165) (o := .cells #[.int .i64 a2_0, .int .i64 a2_1, .int .u32 a2_2, .int .u32 a2_3, .int .i64 a2_4, .int .i64 a2_5, .string a2_6] 42 (0, 0)) (by (with_reducible repeat (first | refine blk_drewN ?_ _ | refine blk_drew ?_ | refine blk_alloc ?_ _)); exact BK165.out) hb); have n1_ := Aside0.mk (blk_below (g := gb180) (o := .cells #[.int .i64 t171, .int .i64 t172, .int .u32 t173, .int .u32 t174, .int .i64 t175, .int .i64 t176, .string t177] 42 (0, 0)) (by (with_reducible repeat (first | refine blk_drewN ?_ _ | refine blk_drew ?_ | refine blk_alloc ?_ _)); exact BK180.out) hb); have n2_ := Aside0.mk (blk_below (g := gb190) (o := .cells #[.int .i64 t181, .int .i64 t182, .int .u32 t183, .int .u32 t184, .int .i64 t185, .int .i64 t186, .string t187] 42 (0, 0)) (by (with_reducible repeat (first | refine blk_drewN ?_ _ | refine blk_drew ?_ | refine blk_alloc ?_ _)); exact BK190.out) hb); have n3_ := Aside0.mk (below_step (by repeat (first | (with_reducible first | exact HB.out | apply below_alloc | apply pw_below_drewN | apply below_drew1 | refine below_set ?_ GE165.out | refine below_set ?_ GE180.out | refine below_set ?_ GE190.out) | exact HB.out)) hb); clear BK165; clear BK180; clear BK190; clear HB; have BK165 := n0_; have BK180 := n1_; have BK190 := n2_; have HB := n3_; clear n0_ n1_ n2_ n3_; (try clear hb); (try clear hb2); (try clear hk); (try clear hi)) | ((with_reducible refine gate_callee (f := 27) rfl ?_); refine goesL_ (some 140) rfl rfl Try.func27 (by kernel_rfl) rfl #[.int .u32 a0, .int .u32 a1, .string t194] rfl (by (try simp only [List.map_toArray, List.map_cons, List.map_nil]); first | done | rfl | (simp only [List.length_drop, List.length_take]; rfl)) ?_; (with_reducible refine (tcp_Get.calls kj17 a0 a1 t194 t195 t196 t197 t198 t199 t200 t201 t202 t203 _ A84.out).mono ?_); rintro e w93 ⟨rfl, hb⟩; refine ⟨_, rfl, ?_⟩; have n0_ := Aside0.mk (blk_below (g := gb165) (o := .cells #[.int .i64 a2_0, .int .i64 a2_1, .int .u32 a2_2, .int .u32 a2_3, .int .i64 a2_4, .int .i64 a2_5, .string a2_6] 42 (0, 0)) (by (with_reducible repeat (first | refine blk_drewN ?_ _ | refine blk_drew ?_ | refine blk_alloc ?_ _)); exact BK165.out) hb); have n1_ := Aside0.mk (blk_below (g := gb180) (o := .cells #[.int .i64 t171, .int .i64 t172, .int .u32 t173, .int .u32 t174, .int .i64 t175, .int .i64 t176, .string t177] 42 (0, 0)) (by (with_reducible repeat (first | refine blk_drewN ?_ _ | refine blk_drew ?_ | refine blk_alloc ?_ _)); exact BK180.out) hb); have n2_ := Aside0.mk (blk_below (g := gb190) (o := .cells #[.int .i64 t181, .int .i64 t182, .int .u32 t183, .int .u32 t184, .int .i64 t185, .int .i64 t186, .string t187] 42 (0, 0)) (by (with_reducible repeat (first | refine blk_drewN ?_ _ | refine blk_drew ?_ | refine blk_alloc ?_ _)); exact BK190.out) hb); have n3_ := Aside0.mk (below_step (by repeat (first | (with_reducible first | exact HB.out | apply below_alloc | apply pw_below_drewN | apply below_drew1 | refine below_set ?_ GE165.out | refine below_set ?_ GE180.out | refine below_set ?_ GE190.out) | exact HB.out)) hb); clear BK165; clear BK180; clear BK190; clear HB; have BK165 := n0_; have BK180 := n1_; have BK190 := n2_; have HB := n3_; clear n0_ n1_ n2_ n3_; (try clear hb); (try clear hb2); (try clear hk); (try clear hi)) | ((with_reducible refine gate_dst (N := 21) rfl ?_); (try (refine gate_guard (by rfl) ?_; dsimp only)); refine box_event ?hg (N := 21) ?hd (cs := #[.int .i64 0, .int .i64 0, .int .u32 0, .int .u32 0, .int .i64 0, .int .i64 0, .string (⟨#[]⟩ : ByteArray)]) (t := 42) ?hr ?_; (case hd => rfl); (case hg => rfl); (case hr => first | (go_simp; done) | (go_simp; rfl)); intro gb204 hg w94 hbox hb; have n0_ := Aside0.mk (blk_below (g := gb165) (o := .cells #[.int .i64 a2_0, .int .i64 a2_1, .int .u32 a2_2, .int .u32 a2_3, .int .i64 a2_4, .int .i64 a2_5, .string a2_6] 42 (0, 0)) (by (with_reducible repeat (first | refine blk_drewN ?_ _ | refine blk_drew ?_ | refine blk_alloc ?_ _)); exact BK165.out) hb); have n1_ := Aside0.mk (blk_below (g := gb180) (o := .cells #[.int .i64 t171, .int .i64 t172, .int .u32 t173, .int .u32 t174, .int .i64 t175, .int .i64 t176, .string t177] 42 (0, 0)) (by (with_reducible repeat (first | refine blk_drewN ?_ _ | refine blk_drew ?_ | refine blk_alloc ?_ _)); exact BK180.out) hb); have n2_ := Aside0.mk (blk_below (g := gb190) (o := .cells #[.int .i64 t181, .int .i64 t182, .int .u32 t183, .int .u32 t184, .int .i64 t185, .int .i64 t186, .string t187] 42 (0, 0)) (by (with_reducible repeat (first | refine blk_drewN ?_ _ | refine blk_drew ?_ | refine blk_alloc ?_ _)); exact BK190.out) hb); have n3_ := Aside0.mk (below_step (by repeat (first | (with_reducible first | exact HB.out | apply below_alloc | apply pw_below_drewN | apply below_drew1 | refine below_set ?_ GE165.out | refine below_set ?_ GE180.out | refine below_set ?_ GE190.out) | exact HB.out)) hb); have n4_ := Aside0.mk (hbox); have n5_ := Aside0.mk ((by rw [hg]; exact (below_size (by repeat (first | (with_reducible first | exact HB.out | apply below_alloc | apply pw_below_drewN | apply below_drew1 | refine below_set ?_ GE165.out | refine below_set ?_ GE180.out | refine below_set ?_ GE190.out) | exact HB.out))) : w.heap.size ≤ gb204)); have n6_ := Aside0.mk ((by rw [hg]; exact (below_size (by repeat (first | (with_reducible first | exact HB.out | apply below_alloc | apply pw_below_drewN | apply below_drew1 | refine below_set ?_ GE165.out | refine below_set ?_ GE180.out | refine below_set ?_ GE190.out) | exact HB.out))) : w.heap.size ≤ gb204)); have n7_ := Aside0.mk ((by rw [hg]; exact Nat.ne_of_lt (blk_lt (g := gb165) (o := .cells #[.int .i64 a2_0, .int .i64 a2_1, .int .u32 a2_2, .int .u32 a2_3, .int .i64 a2_4, .int .i64 a2_5, .string a2_6] 42 (0, 0)) (by (with_reducible repeat (first | refine blk_drewN ?_ _ | refine blk_drew ?_ | refine blk_alloc ?_ _)); exact BK165.out)) : gb165 ≠ gb204)); have n8_ := Aside0.mk ((by rw [hg]; exact Nat.ne_of_gt (blk_lt (g := gb165) (o := .cells #[.int .i64 a2_0, .int .i64 a2_1, .int .u32 a2_2, .int .u32 a2_3, .int .i64 a2_4, .int .i64 a2_5, .string a2_6] 42 (0, 0)) (by (with_reducible repeat (first | refine blk_drewN ?_ _ | refine blk_drew ?_ | refine blk_alloc ?_ _)); exact BK165.out)) : gb204 ≠ gb165)); have n9_ := Aside0.mk ((by rw [hg]; exact Nat.ne_of_lt (blk_lt (g := gb180) (o := .cells #[.int .i64 t171, .int .i64 t172, .int .u32 t173, .int .u32 t174, .int .i64 t175, .int .i64 t176, .string t177] 42 (0, 0)) (by (with_reducible repeat (first | refine blk_drewN ?_ _ | refine blk_drew ?_ | refine blk_alloc ?_ _)); exact BK180.out)) : gb180 ≠ gb204)); have n10_ := Aside0.mk ((by rw [hg]; exact Nat.ne_of_gt (blk_lt (g := gb180) (o := .cells #[.int .i64 t171, .int .i64 t172, .int .u32 t173, .int .u32 t174, .int .i64 t175, .int .i64 t176, .string t177] 42 (0, 0)) (by (with_reducible repeat (first | refine blk_drewN ?_ _ | refine blk_drew ?_ | refine blk_alloc ?_ _)); exact BK180.out)) : gb204 ≠ gb180)); have n11_ := Aside0.mk ((by rw [hg]; exact Nat.ne_of_lt (blk_lt (g := gb190) (o := .cells #[.int .i64 t181, .int .i64 t182, .int .u32 t183, .int .u32 t184, .int .i64 t185, .int .i64 t186, .string t187] 42 (0, 0)) (by (with_reducible repeat (first | refine blk_drewN ?_ _ | refine blk_drew ?_ | refine blk_alloc ?_ _)); exact BK190.out)) : gb190 ≠ gb204)); have n12_ := Aside0.mk ((by rw [hg]; exact Nat.ne_of_gt (blk_lt (g := gb190) (o := .cells #[.int .i64 t181, .int .i64 t182, .int .u32 t183, .int .u32 t184, .int .i64 t185, .int .i64 t186, .string t187] 42 (0, 0)) (by (with_reducible repeat (first | refine blk_drewN ?_ _ | refine blk_drew ?_ | refine blk_alloc ?_ _)); exact BK190.out)) : gb204 ≠ gb190)); clear BK165; clear BK180; clear BK190; clear HB; have BK165 := n0_; have BK180 := n1_; have BK190 := n2_; have HB := n3_; have BK204 := n4_; have GW204 := n5_; have GE204 := n6_; have NB165_204 := n7_; have NB204_165 := n8_; have NB180_204 := n9_; have NB204_180 := n10_; have NB190_204 := n11_; have NB204_190 := n12_; clear n0_ n1_ n2_ n3_ n4_ n5_ n6_ n7_ n8_ n9_ n10_ n11_ n12_; clear hb hbox hg; have hnb95 := NB204_165.out; have hnc95 := NB165_204.out; have hnb96 := NB204_180.out; have hnc96 := NB180_204.out; have hnb97 := NB204_190.out; have hnc97 := NB190_204.out; have hcz98_0 : w94.cell? ⟨gb204, 0, none⟩ = some (.int .i64 0) := (blk_cell BK204.out 0).trans rfl; have hcz98_1 : w94.cell? ⟨gb204, 1, none⟩ = some (.int .i64 0) := (blk_cell BK204.out 1).trans rfl; have hcz98_2 : w94.cell? ⟨gb204, 2, none⟩ = some (.int .u32 0) := (blk_cell BK204.out 2).trans rfl; have hcz98_3 : w94.cell? ⟨gb204, 3, none⟩ = some (.int .u32 0) := (blk_cell BK204.out 3).trans rfl; have hcz98_4 : w94.cell? ⟨gb204, 4, none⟩ = some (.int .i64 0) := (blk_cell BK204.out 4).trans rfl; have hcz98_5 : w94.cell? ⟨gb204, 5, none⟩ = some (.int .i64 0) := (blk_cell BK204.out 5).trans rfl; have hcz98_6 : w94.cell? ⟨gb204, 6, none⟩ = some (.string (⟨#[]⟩ : ByteArray)) := (blk_cell BK204.out 6).trans rfl; have hfz98_0 := blk_frozen BK204.out 0; have hfz98_1 := blk_frozen BK204.out 1; have hfz98_2 := blk_frozen BK204.out 2; have hfz98_3 := blk_frozen BK204.out 3; have hfz98_4 := blk_frozen BK204.out 4; have hfz98_5 := blk_frozen BK204.out 5; have hfz98_6 := blk_frozen BK204.out 6) | ((with_reducible refine gate_callee (f := 27) rfl ?_); refine goesL_ (some 149) rfl rfl Try.func27 (by kernel_rfl) rfl #[.int .u32 (Go.bits .xor .u32 a0 1), .int .u32 a1, .string t167] rfl (by (try simp only [List.map_toArray, List.map_cons, List.map_nil]); first | done | rfl | (simp only [List.length_drop, List.length_take]; rfl)) ?_; (with_reducible refine (tcp_Get.calls kj17 (Go.bits .xor .u32 a0 1) a1 t167 t205 t206 t207 t208 t209 t210 t211 t212 t213 _ A85.out).mono ?_); rintro e w99 ⟨rfl, hb⟩; refine ⟨_, rfl, ?_⟩; have n0_ := Aside0.mk (blk_below (g := gb165) (o := .cells #[.int .i64 a2_0, .int .i64 a2_1, .int .u32 a2_2, .int .u32 a2_3, .int .i64 a2_4, .int .i64 a2_5, .string a2_6] 42 (0, 0)) (by (with_reducible repeat (first | refine blk_drewN ?_ _ | refine blk_drew ?_ | refine blk_alloc ?_ _)); refine blk_far ?_ NB165_204.out _; (with_reducible repeat (first | refine blk_drewN ?_ _ | refine blk_drew ?_ | refine blk_alloc ?_ _)); refine blk_far ?_ NB165_204.out _; (with_reducible repeat (first | refine blk_drewN ?_ _ | refine blk_drew ?_ | refine blk_alloc ?_ _)); refine blk_far ?_ NB165_204.out _; (with_reducible repeat (first | refine blk_drewN ?_ _ | refine blk_drew ?_ | refine blk_alloc ?_ _)); refine blk_far ?_ NB165_204.out _; (with_reducible repeat (first | refine blk_drewN ?_ _ | refine blk_drew ?_ | refine blk_alloc ?_ _)); refine blk_far ?_ NB165_204.out _; (with_reducible repeat (first | refine blk_drewN ?_ _ | refine blk_drew ?_ | refine blk_alloc ?_ _)); refine blk_far ?_ NB165_204.out _; (with_reducible repeat (first | refine blk_drewN ?_ _ | refine blk_drew ?_ | refine blk_alloc ?_ _)); refine blk_far ?_ NB165_204.out _; (with_reducible repeat (first | refine blk_drewN ?_ _ | refine blk_drew ?_ | refine blk_alloc ?_ _)); exact BK165.out) hb); have n1_ := Aside0.mk (blk_below (g := gb180) (o := .cells #[.int .i64 t171, .int .i64 t172, .int .u32 t173, .int .u32 t174, .int .i64 t175, .int .i64 t176, .string t177] 42 (0, 0)) (by (with_reducible repeat (first | refine blk_drewN ?_ _ | refine blk_drew ?_ | refine blk_alloc ?_ _)); refine blk_far ?_ NB180_204.out _; (with_reducible repeat (first | refine blk_drewN ?_ _ | refine blk_drew ?_ | refine blk_alloc ?_ _)); refine blk_far ?_ NB180_204.out _; (with_reducible repeat (first | refine blk_drewN ?_ _ | refine blk_drew ?_ | refine blk_alloc ?_ _)); refine blk_far ?_ NB180_204.out _; (with_reducible repeat (first | refine blk_drewN ?_ _ | refine blk_drew ?_ | refine blk_alloc ?_ _)); refine blk_far ?_ NB180_204.out _; (with_reducible repeat (first | refine blk_drewN ?_ _ | refine blk_drew ?_ | refine blk_alloc ?_ _)); refine blk_far ?_ NB180_204.out _; (with_reducible repeat (first | refine blk_drewN ?_ _ | refine blk_drew ?_ | refine blk_alloc ?_ _)); refine blk_far ?_ NB180_204.out _; (with_reducible repeat (first | refine blk_drewN ?_ _ | refine blk_drew ?_ | refine blk_alloc ?_ _)); refine blk_far ?_ NB180_204.out _; (with_reducible repeat (first | refine blk_drewN ?_ _ | refine blk_drew ?_ | refine blk_alloc ?_ _)); exact BK180.out) hb); have n2_ := Aside0.mk (blk_below (g := gb190) (o := .cells #[.int .i64 t181, .int .i64 t182, .int .u32 t183, .int .u32 t184, .int .i64 t185, .int .i64 t186, .string t187] 42 (0, 0)) (by (with_reducible repeat (first | refine blk_drewN ?_ _ | refine blk_drew ?_ | refine blk_alloc ?_ _)); refine blk_far ?_ NB190_204.out _; (with_reducible repeat (first | refine blk_drewN ?_ _ | refine blk_drew ?_ | refine blk_alloc ?_ _)); refine blk_far ?_ NB190_204.out _; (with_reducible repeat (first | refine blk_drewN ?_ _ | refine blk_drew ?_ | refine blk_alloc ?_ _)); refine blk_far ?_ NB190_204.out _; (with_reducible repeat (first | refine blk_drewN ?_ _ | refine blk_drew ?_ | refine blk_alloc ?_ _)); refine blk_far ?_ NB190_204.out _; (with_reducible repeat (first | refine blk_drewN ?_ _ | refine blk_drew ?_ | refine blk_alloc ?_ _)); refine blk_far ?_ NB190_204.out _; (with_reducible repeat (first | refine blk_drewN ?_ _ | refine blk_drew ?_ | refine blk_alloc ?_ _)); refine blk_far ?_ NB190_204.out _; (with_reducible repeat (first | refine blk_drewN ?_ _ | refine blk_drew ?_ | refine blk_alloc ?_ _)); refine blk_far ?_ NB190_204.out _; (with_reducible repeat (first | refine blk_drewN ?_ _ | refine blk_drew ?_ | refine blk_alloc ?_ _)); exact BK190.out) hb); have n3_ := Aside0.mk (blk_below (g := gb204) (o := .cells #[.int .i64 t195, .int .i64 t196, .int .u32 t197, .int .u32 t198, .int .i64 t199, .int .i64 t200, .string t201] 42 (0, 0)) (by (with_reducible repeat (first | refine blk_drewN ?_ _ | refine blk_drew ?_ | refine blk_alloc ?_ _)); refine blk_put (cs := #[.int .i64 t195, .int .i64 t196, .int .u32 t197, .int .u32 t198, .int .i64 t199, .int .i64 t200, .string (⟨#[]⟩ : ByteArray)]) ?_ 6 _ rfl; (with_reducible repeat (first | refine blk_drewN ?_ _ | refine blk_drew ?_ | refine blk_alloc ?_ _)); refine blk_put (cs := #[.int .i64 t195, .int .i64 t196, .int .u32 t197, .int .u32 t198, .int .i64 t199, .int .i64 0, .string (⟨#[]⟩ : ByteArray)]) ?_ 5 _ rfl; (with_reducible repeat (first | refine blk_drewN ?_ _ | refine blk_drew ?_ | refine blk_alloc ?_ _)); refine blk_put (cs := #[.int .i64 t195, .int .i64 t196, .int .u32 t197, .int .u32 t198, .int .i64 0, .int .i64 0, .string (⟨#[]⟩ : ByteArray)]) ?_ 4 _ rfl; (with_reducible repeat (first | refine blk_drewN ?_ _ | refine blk_drew ?_ | refine blk_alloc ?_ _)); refine blk_put (cs := #[.int .i64 t195, .int .i64 t196, .int .u32 t197, .int .u32 0, .int .i64 0, .int .i64 0, .string (⟨#[]⟩ : ByteArray)]) ?_ 3 _ rfl; (with_reducible repeat (first | refine blk_drewN ?_ _ | refine blk_drew ?_ | refine blk_alloc ?_ _)); refine blk_put (cs := #[.int .i64 t195, .int .i64 t196, .int .u32 0, .int .u32 0, .int .i64 0, .int .i64 0, .string (⟨#[]⟩ : ByteArray)]) ?_ 2 _ rfl; (with_reducible repeat (first | refine blk_drewN ?_ _ | refine blk_drew ?_ | refine blk_alloc ?_ _)); refine blk_put (cs := #[.int .i64 t195, .int .i64 0, .int .u32 0, .int .u32 0, .int .i64 0, .int .i64 0, .string (⟨#[]⟩ : ByteArray)]) ?_ 1 _ rfl; (with_reducible repeat (first | refine blk_drewN ?_ _ | refine blk_drew ?_ | refine blk_alloc ?_ _)); refine blk_put (cs := #[.int .i64 0, .int .i64 0, .int .u32 0, .int .u32 0, .int .i64 0, .int .i64 0, .string (⟨#[]⟩ : ByteArray)]) ?_ 0 _ rfl; (with_reducible repeat (first | refine blk_drewN ?_ _ | refine blk_drew ?_ | refine blk_alloc ?_ _)); exact BK204.out) hb); have n4_ := Aside0.mk (below_step (by repeat (first | (with_reducible first | exact HB.out | apply below_alloc | apply pw_below_drewN | apply below_drew1 | refine below_set ?_ GE165.out | refine below_set ?_ GE180.out | refine below_set ?_ GE190.out | refine below_set ?_ GE204.out) | exact HB.out)) hb); clear BK165; clear BK180; clear BK190; clear BK204; clear HB; have BK165 := n0_; have BK180 := n1_; have BK190 := n2_; have BK204 := n3_; have HB := n4_; clear n0_ n1_ n2_ n3_ n4_; (try clear hb); (try clear hb2); (try clear hk); (try clear hi)) | ((with_reducible refine gate_dst (N := 24) rfl ?_); (try (refine gate_guard (by rfl) ?_; dsimp only)); refine box_event ?hg (N := 24) ?hd (cs := #[.int .i64 0, .int .i64 0, .int .u32 0, .int .u32 0, .int .i64 0, .int .i64 0, .string (⟨#[]⟩ : ByteArray)]) (t := 42) ?hr ?_; (case hd => rfl); (case hg => rfl); (case hr => first | (go_simp; done) | (go_simp; rfl)); intro gb214 hg w100 hbox hb; have n0_ := Aside0.mk (blk_below (g := gb165) (o := .cells #[.int .i64 a2_0, .int .i64 a2_1, .int .u32 a2_2, .int .u32 a2_3, .int .i64 a2_4, .int .i64 a2_5, .string a2_6] 42 (0, 0)) (by (with_reducible repeat (first | refine blk_drewN ?_ _ | refine blk_drew ?_ | refine blk_alloc ?_ _)); exact BK165.out) hb); have n1_ := Aside0.mk (blk_below (g := gb180) (o := .cells #[.int .i64 t171, .int .i64 t172, .int .u32 t173, .int .u32 t174, .int .i64 t175, .int .i64 t176, .string t177] 42 (0, 0)) (by (with_reducible repeat (first | refine blk_drewN ?_ _ | refine blk_drew ?_ | refine blk_alloc ?_ _)); exact BK180.out) hb); have n2_ := Aside0.mk (blk_below (g := gb190) (o := .cells #[.int .i64 t181, .int .i64 t182, .int .u32 t183, .int .u32 t184, .int .i64 t185, .int .i64 t186, .string t187] 42 (0, 0)) (by (with_reducible repeat (first | refine blk_drewN ?_ _ | refine blk_drew ?_ | refine blk_alloc ?_ _)); exact BK190.out) hb); have n3_ := Aside0.mk (blk_below (g := gb204) (o := .cells #[.int .i64 t195, .int .i64 t196, .int .u32 t197, .int .u32 t198, .int .i64 t199, .int .i64 t200, .string t201] 42 (0, 0)) (by (with_reducible repeat (first | refine blk_drewN ?_ _ | refine blk_drew ?_ | refine blk_alloc ?_ _)); exact BK204.out) hb); have n4_ := Aside0.mk (below_step (by repeat (first | (with_reducible first | exact HB.out | apply below_alloc | apply pw_below_drewN | apply below_drew1 | refine below_set ?_ GE165.out | refine below_set ?_ GE180.out | refine below_set ?_ GE190.out | refine below_set ?_ GE204.out) | exact HB.out)) hb); have n5_ := Aside0.mk (hbox); have n6_ := Aside0.mk ((by rw [hg]; exact (below_size (by repeat (first | (with_reducible first | exact HB.out | apply below_alloc | apply pw_below_drewN | apply below_drew1 | refine below_set ?_ GE165.out | refine below_set ?_ GE180.out | refine below_set ?_ GE190.out | refine below_set ?_ GE204.out) | exact HB.out))) : w.heap.size ≤ gb214)); have n7_ := Aside0.mk ((by rw [hg]; exact (below_size (by repeat (first | (with_reducible first | exact HB.out | apply below_alloc | apply pw_below_drewN | apply below_drew1 | refine below_set ?_ GE165.out | refine below_set ?_ GE180.out | refine below_set ?_ GE190.out | refine below_set ?_ GE204.out) | exact HB.out))) : w.heap.size ≤ gb214)); have n8_ := Aside0.mk ((by rw [hg]; exact Nat.ne_of_lt (blk_lt (g := gb165) (o := .cells #[.int .i64 a2_0, .int .i64 a2_1, .int .u32 a2_2, .int .u32 a2_3, .int .i64 a2_4, .int .i64 a2_5, .string a2_6] 42 (0, 0)) (by (with_reducible repeat (first | refine blk_drewN ?_ _ | refine blk_drew ?_ | refine blk_alloc ?_ _)); exact BK165.out)) : gb165 ≠ gb214)); have n9_ := Aside0.mk ((by rw [hg]; exact Nat.ne_of_gt (blk_lt (g := gb165) (o := .cells #[.int .i64 a2_0, .int .i64 a2_1, .int .u32 a2_2, .int .u32 a2_3, .int .i64 a2_4, .int .i64 a2_5, .string a2_6] 42 (0, 0)) (by (with_reducible repeat (first | refine blk_drewN ?_ _ | refine blk_drew ?_ | refine blk_alloc ?_ _)); exact BK165.out)) : gb214 ≠ gb165)); have n10_ := Aside0.mk ((by rw [hg]; exact Nat.ne_of_lt (blk_lt (g := gb180) (o := .cells #[.int .i64 t171, .int .i64 t172, .int .u32 t173, .int .u32 t174, .int .i64 t175, .int .i64 t176, .string t177] 42 (0, 0)) (by (with_reducible repeat (first | refine blk_drewN ?_ _ | refine blk_drew ?_ | refine blk_alloc ?_ _)); exact BK180.out)) : gb180 ≠ gb214)); have n11_ := Aside0.mk ((by rw [hg]; exact Nat.ne_of_gt (blk_lt (g := gb180) (o := .cells #[.int .i64 t171, .int .i64 t172, .int .u32 t173, .int .u32 t174, .int .i64 t175, .int .i64 t176, .string t177] 42 (0, 0)) (by (with_reducible repeat (first | refine blk_drewN ?_ _ | refine blk_drew ?_ | refine blk_alloc ?_ _)); exact BK180.out)) : gb214 ≠ gb180)); have n12_ := Aside0.mk ((by rw [hg]; exact Nat.ne_of_lt (blk_lt (g := gb190) (o := .cells #[.int .i64 t181, .int .i64 t182, .int .u32 t183, .int .u32 t184, .int .i64 t185, .int .i64 t186, .string t187] 42 (0, 0)) (by (with_reducible repeat (first | refine blk_drewN ?_ _ | refine blk_drew ?_ | refine blk_alloc ?_ _)); exact BK190.out)) : gb190 ≠ gb214)); have n13_ := Aside0.mk ((by rw [hg]; exact Nat.ne_of_gt (blk_lt (g := gb190) (o := .cells #[.int .i64 t181, .int .i64 t182, .int .u32 t183, .int .u32 t184, .int .i64 t185, .int .i64 t186, .string t187] 42 (0, 0)) (by (with_reducible repeat (first | refine blk_drewN ?_ _ | refine blk_drew ?_ | refine blk_alloc ?_ _)); exact BK190.out)) : gb214 ≠ gb190)); have n14_ := Aside0.mk ((by rw [hg]; exact Nat.ne_of_lt (blk_lt (g := gb204) (o := .cells #[.int .i64 t195, .int .i64 t196, .int .u32 t197, .int .u32 t198, .int .i64 t199, .int .i64 t200, .string t201] 42 (0, 0)) (by (with_reducible repeat (first | refine blk_drewN ?_ _ | refine blk_drew ?_ | refine blk_alloc ?_ _)); exact BK204.out)) : gb204 ≠ gb214)); have n15_ := Aside0.mk ((by rw [hg]; exact Nat.ne_of_gt (blk_lt (g := gb204) (o := .cells #[.int .i64 t195, .int .i64 t196, .int .u32 t197, .int .u32 t198, .int .i64 t199, .int .i64 t200, .string t201] 42 (0, 0)) (by (with_reducible repeat (first | refine blk_drewN ?_ _ | refine blk_drew ?_ | refine blk_alloc ?_ _)); exact BK204.out)) : gb214 ≠ gb204)); clear BK165; clear BK180; clear BK190; clear BK204; clear HB; have BK165 := n0_; have BK180 := n1_; have BK190 := n2_; have BK204 := n3_; have HB := n4_; have BK214 := n5_; have GW214 := n6_; have GE214 := n7_; have NB165_214 := n8_; have NB214_165 := n9_; have NB180_214 := n10_; have NB214_180 := n11_; have NB190_214 := n12_; have NB214_190 := n13_; have NB204_214 := n14_; have NB214_204 := n15_; clear n0_ n1_ n2_ n3_ n4_ n5_ n6_ n7_ n8_ n9_ n10_ n11_ n12_ n13_ n14_ n15_; clear hb hbox hg; have hnb101 := NB214_165.out; have hnc101 := NB165_214.out; have hnb102 := NB214_180.out; have hnc102 := NB180_214.out; have hnb103 := NB214_190.out; have hnc103 := NB190_214.out; have hnb104 := NB214_204.out; have hnc104 := NB204_214.out; have hcz105_0 : w100.cell? ⟨gb214, 0, none⟩ = some (.int .i64 0) := (blk_cell BK214.out 0).trans rfl; have hcz105_1 : w100.cell? ⟨gb214, 1, none⟩ = some (.int .i64 0) := (blk_cell BK214.out 1).trans rfl; have hcz105_2 : w100.cell? ⟨gb214, 2, none⟩ = some (.int .u32 0) := (blk_cell BK214.out 2).trans rfl; have hcz105_3 : w100.cell? ⟨gb214, 3, none⟩ = some (.int .u32 0) := (blk_cell BK214.out 3).trans rfl; have hcz105_4 : w100.cell? ⟨gb214, 4, none⟩ = some (.int .i64 0) := (blk_cell BK214.out 4).trans rfl; have hcz105_5 : w100.cell? ⟨gb214, 5, none⟩ = some (.int .i64 0) := (blk_cell BK214.out 5).trans rfl; have hcz105_6 : w100.cell? ⟨gb214, 6, none⟩ = some (.string (⟨#[]⟩ : ByteArray)) := (blk_cell BK214.out 6).trans rfl; have hfz105_0 := blk_frozen BK214.out 0; have hfz105_1 := blk_frozen BK214.out 1; have hfz105_2 := blk_frozen BK214.out 2; have hfz105_3 := blk_frozen BK214.out 3; have hfz105_4 := blk_frozen BK214.out 4; have hfz105_5 := blk_frozen BK214.out 5; have hfz105_6 := blk_frozen BK214.out 6) | (go_at_call 24; (with_reducible refine (rampartlaw04_awake.calls kj17  t215 _ A88.out (by first | rfl | exact HR.out)).mono ?_); rintro e w106 ⟨rfl, hb⟩; have n0_ := Aside0.mk (blk_below (g := gb165) (o := .cells #[.int .i64 a2_0, .int .i64 a2_1, .int .u32 a2_2, .int .u32 a2_3, .int .i64 a2_4, .int .i64 a2_5, .string a2_6] 42 (0, 0)) (by (with_reducible repeat (first | refine blk_drewN ?_ _ | refine blk_drew ?_ | refine blk_alloc ?_ _)); refine blk_far ?_ NB165_214.out _; (with_reducible repeat (first | refine blk_drewN ?_ _ | refine blk_drew ?_ | refine blk_alloc ?_ _)); refine blk_far ?_ NB165_214.out _; (with_reducible repeat (first | refine blk_drewN ?_ _ | refine blk_drew ?_ | refine blk_alloc ?_ _)); refine blk_far ?_ NB165_214.out _; (with_reducible repeat (first | refine blk_drewN ?_ _ | refine blk_drew ?_ | refine blk_alloc ?_ _)); refine blk_far ?_ NB165_214.out _; (with_reducible repeat (first | refine blk_drewN ?_ _ | refine blk_drew ?_ | refine blk_alloc ?_ _)); refine blk_far ?_ NB165_214.out _; (with_reducible repeat (first | refine blk_drewN ?_ _ | refine blk_drew ?_ | refine blk_alloc ?_ _)); refine blk_far ?_ NB165_214.out _; (with_reducible repeat (first | refine blk_drewN ?_ _ | refine blk_drew ?_ | refine blk_alloc ?_ _)); refine blk_far ?_ NB165_214.out _; (with_reducible repeat (first | refine blk_drewN ?_ _ | refine blk_drew ?_ | refine blk_alloc ?_ _)); exact BK165.out) hb); have n1_ := Aside0.mk (blk_below (g := gb180) (o := .cells #[.int .i64 t171, .int .i64 t172, .int .u32 t173, .int .u32 t174, .int .i64 t175, .int .i64 t176, .string t177] 42 (0, 0)) (by (with_reducible repeat (first | refine blk_drewN ?_ _ | refine blk_drew ?_ | refine blk_alloc ?_ _)); refine blk_far ?_ NB180_214.out _; (with_reducible repeat (first | refine blk_drewN ?_ _ | refine blk_drew ?_ | refine blk_alloc ?_ _)); refine blk_far ?_ NB180_214.out _; (with_reducible repeat (first | refine blk_drewN ?_ _ | refine blk_drew ?_ | refine blk_alloc ?_ _)); refine blk_far ?_ NB180_214.out _; (with_reducible repeat (first | refine blk_drewN ?_ _ | refine blk_drew ?_ | refine blk_alloc ?_ _)); refine blk_far ?_ NB180_214.out _; (with_reducible repeat (first | refine blk_drewN ?_ _ | refine blk_drew ?_ | refine blk_alloc ?_ _)); refine blk_far ?_ NB180_214.out _; (with_reducible repeat (first | refine blk_drewN ?_ _ | refine blk_drew ?_ | refine blk_alloc ?_ _)); refine blk_far ?_ NB180_214.out _; (with_reducible repeat (first | refine blk_drewN ?_ _ | refine blk_drew ?_ | refine blk_alloc ?_ _)); refine blk_far ?_ NB180_214.out _; (with_reducible repeat (first | refine blk_drewN ?_ _ | refine blk_drew ?_ | refine blk_alloc ?_ _)); exact BK180.out) hb); have n2_ := Aside0.mk (blk_below (g := gb190) (o := .cells #[.int .i64 t181, .int .i64 t182, .int .u32 t183, .int .u32 t184, .int .i64 t185, .int .i64 t186, .string t187] 42 (0, 0)) (by (with_reducible repeat (first | refine blk_drewN ?_ _ | refine blk_drew ?_ | refine blk_alloc ?_ _)); refine blk_far ?_ NB190_214.out _; (with_reducible repeat (first | refine blk_drewN ?_ _ | refine blk_drew ?_ | refine blk_alloc ?_ _)); refine blk_far ?_ NB190_214.out _; (with_reducible repeat (first | refine blk_drewN ?_ _ | refine blk_drew ?_ | refine blk_alloc ?_ _)); refine blk_far ?_ NB190_214.out _; (with_reducible repeat (first | refine blk_drewN ?_ _ | refine blk_drew ?_ | refine blk_alloc ?_ _)); refine blk_far ?_ NB190_214.out _; (with_reducible repeat (first | refine blk_drewN ?_ _ | refine blk_drew ?_ | refine blk_alloc ?_ _)); refine blk_far ?_ NB190_214.out _; (with_reducible repeat (first | refine blk_drewN ?_ _ | refine blk_drew ?_ | refine blk_alloc ?_ _)); refine blk_far ?_ NB190_214.out _; (with_reducible repeat (first | refine blk_drewN ?_ _ | refine blk_drew ?_ | refine blk_alloc ?_ _)); refine blk_far ?_ NB190_214.out _; (with_reducible repeat (first | refine blk_drewN ?_ _ | refine blk_drew ?_ | refine blk_alloc ?_ _)); exact BK190.out) hb); have n3_ := Aside0.mk (blk_below (g := gb204) (o := .cells #[.int .i64 t195, .int .i64 t196, .int .u32 t197, .int .u32 t198, .int .i64 t199, .int .i64 t200, .string t201] 42 (0, 0)) (by (with_reducible repeat (first | refine blk_drewN ?_ _ | refine blk_drew ?_ | refine blk_alloc ?_ _)); refine blk_far ?_ NB204_214.out _; (with_reducible repeat (first | refine blk_drewN ?_ _ | refine blk_drew ?_ | refine blk_alloc ?_ _)); refine blk_far ?_ NB204_214.out _; (with_reducible repeat (first | refine blk_drewN ?_ _ | refine blk_drew ?_ | refine blk_alloc ?_ _)); refine blk_far ?_ NB204_214.out _; (with_reducible repeat (first | refine blk_drewN ?_ _ | refine blk_drew ?_ | refine blk_alloc ?_ _)); refine blk_far ?_ NB204_214.out _; (with_reducible repeat (first | refine blk_drewN ?_ _ | refine blk_drew ?_ | refine blk_alloc ?_ _)); refine blk_far ?_ NB204_214.out _; (with_reducible repeat (first | refine blk_drewN ?_ _ | refine blk_drew ?_ | refine blk_alloc ?_ _)); refine blk_far ?_ NB204_214.out _; (with_reducible repeat (first | refine blk_drewN ?_ _ | refine blk_drew ?_ | refine blk_alloc ?_ _)); refine blk_far ?_ NB204_214.out _; (with_reducible repeat (first | refine blk_drewN ?_ _ | refine blk_drew ?_ | refine blk_alloc ?_ _)); exact BK204.out) hb); have n4_ := Aside0.mk (blk_below (g := gb214) (o := .cells #[.int .i64 t205, .int .i64 t206, .int .u32 t207, .int .u32 t208, .int .i64 t209, .int .i64 t210, .string t211] 42 (0, 0)) (by (with_reducible repeat (first | refine blk_drewN ?_ _ | refine blk_drew ?_ | refine blk_alloc ?_ _)); refine blk_put (cs := #[.int .i64 t205, .int .i64 t206, .int .u32 t207, .int .u32 t208, .int .i64 t209, .int .i64 t210, .string (⟨#[]⟩ : ByteArray)]) ?_ 6 _ rfl; (with_reducible repeat (first | refine blk_drewN ?_ _ | refine blk_drew ?_ | refine blk_alloc ?_ _)); refine blk_put (cs := #[.int .i64 t205, .int .i64 t206, .int .u32 t207, .int .u32 t208, .int .i64 t209, .int .i64 0, .string (⟨#[]⟩ : ByteArray)]) ?_ 5 _ rfl; (with_reducible repeat (first | refine blk_drewN ?_ _ | refine blk_drew ?_ | refine blk_alloc ?_ _)); refine blk_put (cs := #[.int .i64 t205, .int .i64 t206, .int .u32 t207, .int .u32 t208, .int .i64 0, .int .i64 0, .string (⟨#[]⟩ : ByteArray)]) ?_ 4 _ rfl; (with_reducible repeat (first | refine blk_drewN ?_ _ | refine blk_drew ?_ | refine blk_alloc ?_ _)); refine blk_put (cs := #[.int .i64 t205, .int .i64 t206, .int .u32 t207, .int .u32 0, .int .i64 0, .int .i64 0, .string (⟨#[]⟩ : ByteArray)]) ?_ 3 _ rfl; (with_reducible repeat (first | refine blk_drewN ?_ _ | refine blk_drew ?_ | refine blk_alloc ?_ _)); refine blk_put (cs := #[.int .i64 t205, .int .i64 t206, .int .u32 0, .int .u32 0, .int .i64 0, .int .i64 0, .string (⟨#[]⟩ : ByteArray)]) ?_ 2 _ rfl; (with_reducible repeat (first | refine blk_drewN ?_ _ | refine blk_drew ?_ | refine blk_alloc ?_ _)); refine blk_put (cs := #[.int .i64 t205, .int .i64 0, .int .u32 0, .int .u32 0, .int .i64 0, .int .i64 0, .string (⟨#[]⟩ : ByteArray)]) ?_ 1 _ rfl; (with_reducible repeat (first | refine blk_drewN ?_ _ | refine blk_drew ?_ | refine blk_alloc ?_ _)); refine blk_put (cs := #[.int .i64 0, .int .i64 0, .int .u32 0, .int .u32 0, .int .i64 0, .int .i64 0, .string (⟨#[]⟩ : ByteArray)]) ?_ 0 _ rfl; (with_reducible repeat (first | refine blk_drewN ?_ _ | refine blk_drew ?_ | refine blk_alloc ?_ _)); exact BK214.out) hb); have n5_ := Aside0.mk (below_step (by repeat (first | (with_reducible first | exact HB.out | apply below_alloc | apply pw_below_drewN | apply below_drew1 | refine below_set ?_ GE165.out | refine below_set ?_ GE180.out | refine below_set ?_ GE190.out | refine below_set ?_ GE204.out | refine below_set ?_ GE214.out) | exact HB.out)) hb); clear BK165; clear BK180; clear BK190; clear BK204; clear BK214; clear HB; have BK165 := n0_; have BK180 := n1_; have BK190 := n2_; have BK204 := n3_; have BK214 := n4_; have HB := n5_; clear n0_ n1_ n2_ n3_ n4_ n5_; (try clear hb); (try clear hb2); (try clear hk); (try clear hi)))
              go_ret
              exact ⟨by first | rfl | (simp [errW_none, errW_some] <;> rfl) | (simp only [← hji76, ← hji80, ← hji82]; first | rfl | (simp [errW_none, errW_some] <;> rfl)) | (simp [*, errW_none, errW_some] <;> rfl), by repeat (first | (with_reducible first | exact HB.out | apply below_alloc | apply pw_below_drewN | apply below_drew1 | refine below_set ?_ GE165.out | refine below_set ?_ GE180.out | refine below_set ?_ GE190.out | refine below_set ?_ GE204.out | refine below_set ?_ GE214.out) | exact HB.out)⟩
             ·
              rw [if_neg c87] at H
              have c87b0 : (t213 == 4) = false := beq_eq_false_iff_ne.mpr c87
              have c87b1 : (t213 != 4) = true := bne_iff_ne.mpr c87
              exact absurd ((Option.some.inj H).trans HR.out) (by decide)
           ·
            rw [if_neg c81] at H
            exact absurd H (by simp)
          ·
           rw [if_neg c78] at H
           exact absurd H (by simp)
         ·
          rw [if_neg c77] at H
          exact absurd H (by simp)
        ·
         rw [if_neg c74] at H
         have c74b0 : ((t167.size : Int) == (wrap64 ((wrap64 (20 + (a2_6.size : Int))) + (a3.size : Int)))) = false := beq_eq_false_iff_ne.mpr c74
         have c74b1 : ((t167.size : Int) != (wrap64 ((wrap64 (20 + (a2_6.size : Int))) + (a3.size : Int)))) = true := bne_iff_ne.mpr c74
         exact absurd ((Option.some.inj H).trans HR.out) (by decide)
    ·
     rw [if_neg c15] at H
     have c15b0 : (t168 == 0) = false := beq_eq_false_iff_ne.mpr c15
     have c15b1 : (t168 != 0) = true := bne_iff_ne.mpr c15
     by_cases c107 : t167.toList = ([] : List UInt8)
     ·
      rw [if_pos c107] at H
      have c107b0 : (t167.toList == ([] : List UInt8)) = true := beq_iff_eq.mpr c107
      have c107b1 : (t167.toList != ([] : List UInt8)) = false := bne_eq_false_iff_eq.mpr c107
      clear c107
      replace H := Option.bind_eq_some_iff.mp H
      obtain ⟨t169, A1080, H⟩ := H
      replace H : (if ((t168 == 1) == (!t169)) = true then ((rampartlaw04_awake.f kj5).bind fun t170 => (some t170)) else (some false)) = some r := H
      have A108 := Aside0.mk A1080
      clear A1080
      by_cases c109 : ((t168 == 1) == (!t169)) = true
      ·
       rw [if_pos c109] at H
       have c109b0 : ((t168 == 1) == (!t169)) = true := c109
       (try (have c109b1 : decide ((t168 == 1) = (!t169)) = true := by simpa using c109))
       (try (have c109b2 : ((t168 == 1) == (!t169)) = true := by simpa using c109))
       clear c109
       replace H := Option.bind_eq_some_iff.mp H
       obtain ⟨t170, A1100, H⟩ := H
       replace H : (some t170) = some r := H
       have A110 := Aside0.mk A1100
       clear A1100
       obtain rfl := Option.some.inj H
       have hcz111_0 : wc.cell? ⟨gb165, 0, none⟩ = some (.int .i64 a2_0) := (blk_cell BK165.out 0).trans rfl
       have hcz111_1 : wc.cell? ⟨gb165, 1, none⟩ = some (.int .i64 a2_1) := (blk_cell BK165.out 1).trans rfl
       have hcz111_2 : wc.cell? ⟨gb165, 2, none⟩ = some (.int .u32 a2_2) := (blk_cell BK165.out 2).trans rfl
       have hcz111_3 : wc.cell? ⟨gb165, 3, none⟩ = some (.int .u32 a2_3) := (blk_cell BK165.out 3).trans rfl
       have hcz111_4 : wc.cell? ⟨gb165, 4, none⟩ = some (.int .i64 a2_4) := (blk_cell BK165.out 4).trans rfl
       have hcz111_5 : wc.cell? ⟨gb165, 5, none⟩ = some (.int .i64 a2_5) := (blk_cell BK165.out 5).trans rfl
       have hcz111_6 : wc.cell? ⟨gb165, 6, none⟩ = some (.string a2_6) := (blk_cell BK165.out 6).trans rfl
       have hfz111_0 := blk_frozen BK165.out 0
       have hfz111_1 := blk_frozen BK165.out 1
       have hfz111_2 := blk_frozen BK165.out 2
       have hfz111_3 := blk_frozen BK165.out 3
       have hfz111_4 := blk_frozen BK165.out 4
       have hfz111_5 := blk_frozen BK165.out 5
       have hfz111_6 := blk_frozen BK165.out 6
       go_wp2_with (first | ((with_reducible refine gate_callee (f := 25) rfl ?_); refine goesL_ (some 42) rfl rfl Try.func25 (by kernel_rfl) rfl #[.int .u32 a0, .int .u32 a1, .agg #[.int .i64 a2_0, .int .i64 a2_1, .int .u32 a2_2, .int .u32 a2_3, .int .i64 a2_4, .int .i64 a2_5, .string a2_6], .string a3] rfl (by (try simp only [List.map_toArray, List.map_cons, List.map_nil]); first | done | rfl | (simp only [List.length_drop, List.length_take]; rfl)) ?_; (with_reducible refine (tcp_Put.calls kj5 a0 a1 a2_0 a2_1 a2_2 a2_3 a2_4 a2_5 a2_6 a3 t167 t168 _ A14.out).mono ?_); rintro e w112 ⟨rfl, hb⟩; refine ⟨_, rfl, ?_⟩; have n0_ := Aside0.mk (blk_below (g := gb165) (o := .cells #[.int .i64 a2_0, .int .i64 a2_1, .int .u32 a2_2, .int .u32 a2_3, .int .i64 a2_4, .int .i64 a2_5, .string a2_6] 42 (0, 0)) (by (with_reducible repeat (first | refine blk_drewN ?_ _ | refine blk_drew ?_ | refine blk_alloc ?_ _)); exact BK165.out) hb); have n1_ := Aside0.mk (below_step (by repeat (first | (with_reducible first | exact HB.out | apply below_alloc | apply pw_below_drewN | apply below_drew1 | refine below_set ?_ GE165.out) | exact HB.out)) hb); clear BK165; clear HB; have BK165 := n0_; have HB := n1_; clear n0_ n1_; (try clear hb); (try clear hb2); (try clear hk); (try clear hi); have hcz113_0 : w112.cell? ⟨gb165, 0, none⟩ = some (.int .i64 a2_0) := (blk_cell BK165.out 0).trans rfl; have hcz113_1 : w112.cell? ⟨gb165, 1, none⟩ = some (.int .i64 a2_1) := (blk_cell BK165.out 1).trans rfl; have hcz113_2 : w112.cell? ⟨gb165, 2, none⟩ = some (.int .u32 a2_2) := (blk_cell BK165.out 2).trans rfl; have hcz113_3 : w112.cell? ⟨gb165, 3, none⟩ = some (.int .u32 a2_3) := (blk_cell BK165.out 3).trans rfl; have hcz113_4 : w112.cell? ⟨gb165, 4, none⟩ = some (.int .i64 a2_4) := (blk_cell BK165.out 4).trans rfl; have hcz113_5 : w112.cell? ⟨gb165, 5, none⟩ = some (.int .i64 a2_5) := (blk_cell BK165.out 5).trans rfl; have hcz113_6 : w112.cell? ⟨gb165, 6, none⟩ = some (.string a2_6) := (blk_cell BK165.out 6).trans rfl; have hfz113_0 := blk_frozen BK165.out 0; have hfz113_1 := blk_frozen BK165.out 1; have hfz113_2 := blk_frozen BK165.out 2; have hfz113_3 := blk_frozen BK165.out 3; have hfz113_4 := blk_frozen BK165.out 4; have hfz113_5 := blk_frozen BK165.out 5; have hfz113_6 := blk_frozen BK165.out 6) | (go_at_call 29; (with_reducible refine (tcp_Check.calls a2_0 a2_1 a2_2 a2_3 a2_4 a2_5 a2_6 t169 _ A108.out).mono ?_); rintro e w114 ⟨rfl, hb⟩; have n0_ := Aside0.mk (blk_below (g := gb165) (o := .cells #[.int .i64 a2_0, .int .i64 a2_1, .int .u32 a2_2, .int .u32 a2_3, .int .i64 a2_4, .int .i64 a2_5, .string a2_6] 42 (0, 0)) (by (with_reducible repeat (first | refine blk_drewN ?_ _ | refine blk_drew ?_ | refine blk_alloc ?_ _)); exact BK165.out) hb); have n1_ := Aside0.mk (below_step (by repeat (first | (with_reducible first | exact HB.out | apply below_alloc | apply pw_below_drewN | apply below_drew1 | refine below_set ?_ GE165.out) | exact HB.out)) hb); clear BK165; clear HB; have BK165 := n0_; have HB := n1_; clear n0_ n1_; (try clear hb); (try clear hb2); (try clear hk); (try clear hi)) | (go_at_call 24; (with_reducible refine (rampartlaw04_awake.calls kj5  t170 _ A110.out (by first | rfl | exact HR.out)).mono ?_); rintro e w115 ⟨rfl, hb⟩; have n0_ := Aside0.mk (blk_below (g := gb165) (o := .cells #[.int .i64 a2_0, .int .i64 a2_1, .int .u32 a2_2, .int .u32 a2_3, .int .i64 a2_4, .int .i64 a2_5, .string a2_6] 42 (0, 0)) (by (with_reducible repeat (first | refine blk_drewN ?_ _ | refine blk_drew ?_ | refine blk_alloc ?_ _)); exact BK165.out) hb); have n1_ := Aside0.mk (below_step (by repeat (first | (with_reducible first | exact HB.out | apply below_alloc | apply pw_below_drewN | apply below_drew1 | refine below_set ?_ GE165.out) | exact HB.out)) hb); clear BK165; clear HB; have BK165 := n0_; have HB := n1_; clear n0_ n1_; (try clear hb); (try clear hb2); (try clear hk); (try clear hi)))
       go_ret
       exact ⟨by first | rfl | (simp [errW_none, errW_some] <;> rfl) | (simp [*, errW_none, errW_some] <;> rfl), by repeat (first | (with_reducible first | exact HB.out | apply below_alloc | apply pw_below_drewN | apply below_drew1 | refine below_set ?_ GE165.out) | exact HB.out)⟩
      ·
       rw [if_neg c109] at H
       have c109b0 : ((t168 == 1) == (!t169)) = false := by simpa using c109
       (try (have c109b1 : decide ((t168 == 1) = (!t169)) = false := by simpa using c109))
       (try (have c109b2 : ((t168 == 1) == (!t169)) = false := by simpa using c109))
       (try (have c109b3 : ¬ ((t168 == 1) = (!t169)) := by simpa using c109))
       clear c109
       exact absurd ((Option.some.inj H).trans HR.out) (by decide)
     ·
      rw [if_neg c107] at H
      have c107b0 : (t167.toList == ([] : List UInt8)) = false := beq_eq_false_iff_ne.mpr c107
      have c107b1 : (t167.toList != ([] : List UInt8)) = true := bne_iff_ne.mpr c107
      exact absurd ((Option.some.inj H).trans HR.out) (by decide)


end Go.Proofs.Ytgolimfljndnmaa.HC
