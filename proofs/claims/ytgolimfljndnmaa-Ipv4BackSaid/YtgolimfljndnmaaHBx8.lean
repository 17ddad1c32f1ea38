/- What is proved: each Go function of this text answers as the plain Lean function beside it (a law: its given row, out of the plain statement). Conditions: those that stand in each theorem. Written by my drive.py, which calls the printer of the kit for what that covers. -/
import Derived.Test.YtgolimfljndnmaaHBx0
import Derived.Test.YtgolimfljndnmaaHBx1
import Derived.Test.YtgolimfljndnmaaHBx3
import Derived.Test.YtgolimfljndnmaaHBx6
import Derived.Test.YtgolimfljndnmaaHBx7
namespace Go.Proofs.Ytgolimfljndnmaa.HB
open Go.RowKit Go.Proofs.YtgolimfljndnmaaW.PrintWords Go.Proofs.YtgolimfljndnmaaW.PrintLast Go.Proofs.YtgolimfljndnmaaW.PrintMore
attribute [local go_sem] max2_int min2_int max_two min_two max_three min_three max_four min_four   -- for this text's walks alone
set_option linter.unusedVariables false
set_option linter.unusedSimpArgs false

/-! ### rampartlaw03_Ipv4Back: function 4 -/
theorem bset_size (s : ByteArray) (i : Nat) (v : Int) : (bset s i v).size = s.size := by
 show (s.data.toList.set i _).toArray.size = _
 simp
def cells8 (s : ByteArray) (pad : Nat) : Array Value := (s.data.map fun b => Value.int .u8 b.toNat) ++ Array.replicate pad (.int .u8 0)
/-- Block g holds the bytes s, then zeros; its mark lies behind its last cell. -/
def Row8 (w : World) (g : Nat) (s : ByteArray) : Prop := ∃ pad : Nat, w.heap[g]? = some (.cells (cells8 s pad) 5 ((cells8 s pad).size, (cells8 s pad).size + 1))
theorem cells8_size (s : ByteArray) (pad : Nat) : (cells8 s pad).size = s.size + pad := by simp [cells8]
theorem row8_new (w : World) (s : ByteArray) : Row8 (Lib.bytesWorld w 5 s) w.heap.size s := ⟨_, Lib.bytesWorld_at_new w 5 s⟩
theorem row8_move {w w' : World} {g : Nat} {s : ByteArray} (h : Row8 w g s) (hm : w'.heap[g]? = w.heap[g]?) : Row8 w' g s := by
 obtain ⟨p, hp⟩ := h
 exact ⟨p, hm.trans hp⟩
theorem row8_lt {w : World} {g : Nat} {s : ByteArray} (h : Row8 w g s) : g < w.heap.size := by
 obtain ⟨p, hp⟩ := h
 exact (Array.getElem?_eq_some_iff.1 hp).1
theorem row8_below {w w' : World} {g : Nat} {s : ByteArray} (h : Row8 w g s) (hb : Below w.heap.size w w') : Row8 w' g s := row8_move h (hb.block g (row8_lt h))
theorem row8_drewN {w : World} {g : Nat} {s : ByteArray} (h : Row8 w g s) (n : Nat) : Row8 (w.drewN n) g s := row8_below h (pw_below_drewN (Below.refl _ _) n)
theorem row8_cell {w : World} {g : Nat} {s : ByteArray} (h : Row8 w g s) {i : Int} (h0 : 0 ≤ i) (h1 : i < (s.size : Int)) : w.cell? ⟨g, i.toNat, none⟩ = some (.int .u8 (bt s i)) := by
 obtain ⟨p, hp⟩ := h
 have hi : i.toNat < s.size := by omega
 have hb := bt_at s i
 have e : w.cell? ⟨g, i.toNat, none⟩ = (cells8 s p)[i.toNat]? := by simp [World.cell?, hp]
 rw [e, cells8, Array.getElem?_append_left (by simpa using hi)]
 rw [Array.getElem?_map, Array.getElem?_eq_getElem (show i.toNat < s.data.size from hi)]
 show some (Value.int .u8 ((s.data[i.toNat]).toNat : Int)) = _
 rw [← hb hi]
 rfl
theorem row8_frozen {w : World} {g : Nat} {s : ByteArray} (h : Row8 w g s) {i : Int} (h0 : 0 ≤ i) (h1 : i < (s.size : Int)) : w.frozen? ⟨g, i.toNat, none⟩ = false := by
 obtain ⟨p, hp⟩ := h
 have hz := cells8_size s p
 simp only [World.frozen?, hp]
 rw [hz]
 simp
 omega
theorem row8_set {w : World} {g : Nat} {s : ByteArray} (h : Row8 w g s) {i : Int} (h0 : 0 ≤ i) (h1 : i < (s.size : Int)) {v : Int} (hv0 : 0 ≤ v) (hv1 : v < 256) : Row8 (w.setCell ⟨g, i.toNat, none⟩ (.int .u8 v)) g (bset s i.toNat v) := by
 obtain ⟨p, hp⟩ := h
 have hi : i.toNat < s.size := by omega
 have hz := cells8_size s p
 have hz2 : (cells8 (bset s i.toNat v) p).size = (cells8 s p).size := by rw [cells8_size, cells8_size, bset_size]
 have hc : (cells8 s p).setIfInBounds i.toNat (.int .u8 v) = cells8 (bset s i.toNat v) p := by
  have hvn : ((UInt8.ofNat v.toNat).toNat : Int) = v := by
   rw [UInt8.toNat_ofNat', Nat.mod_eq_of_lt (by omega)]
   omega
  apply Array.ext_getElem?
  intro j
  rw [Array.getElem?_setIfInBounds]
  have hs : s.data.size = s.size := rfl
  have hb : (bset s i.toNat v).data = s.data.set i.toNat (UInt8.ofNat v.toNat) hi := by
   apply Array.ext'
   simp [bset]
  by_cases hj : i.toNat = j
  ·
   subst hj
   rw [if_pos rfl, if_pos (by rw [hz]; omega), cells8, hb, Array.getElem?_append_left (by simpa using hi)]
   simp
   omega
  ·
   rw [if_neg hj]
   unfold cells8
   rw [hb]
   by_cases hjs : j < s.size
   ·
    rw [Array.getElem?_append_left (by simpa using hjs), Array.getElem?_append_left (by simpa using hjs)]
    simp [hj]
   ·
    rw [Array.getElem?_append_right (by simpa using Nat.le_of_not_lt hjs), Array.getElem?_append_right (by simpa using Nat.le_of_not_lt hjs)]
    simp
 refine ⟨p, ?_⟩
 rw [hz2, ← hc]
 simp [World.setCell, Array.getElem?_modify, hp]
theorem row8_back {P : Program} {w : World} {g : Nat} {s : ByteArray} (h : Row8 w g s) (n cap : Nat) (hn : n = s.size) (hs : P.underlying 34 = some (.slice 5)) (he : P.underlying 5 = some (.int .u8)) (hd : P.underlying 9 = some .string) :
  (convert 34 9 (.slice (some ⟨g, 0, none⟩) n cap)).run P w = .ok (.string s) w := by
 subst hn
 have := run_convert_bytes_back (P := P) w 34 9 5 ⟨g, 0, none⟩ cap s.data.toList hs he hd (fun j hj => by
  have hj' : j < s.size := by simpa using hj
  have hc := row8_cell h (i := (j : Int)) (by omega) (by omega)
  have hb := bt_at s (j : Int)
  rw [Int.toNat_natCast] at hc hb
  have e : (⟨g, 0, none⟩ : Addr).add j = ⟨g, j, none⟩ := by simp [Addr.add]; omega
  rw [e, hc, ← hb hj']
  rfl)
 have hl : s.data.toList.length = s.size := by simp
 rw [hl] at this
 rw [this]
theorem conv_event {P : Program} {ops : Array Oper} {Q : Exit → Act → World → Prop} {rest : List Oper} {o : Oper} {a : Act} {W : World} (hgd : o.guard = none) {N : Tmp} (_hd : o.dst = some N) {s : ByteArray}
  (hrun : (execOp a.eval o).run P W = .ok (.value (.slice (some ⟨W.heap.size, 0, none⟩) s.size (grownCap W s.size 0 5))) (Lib.bytesWorld W 5 s))
  (h : ∀ g, g = W.heap.size → ∀ c w1, Row8 w1 g s → Below W.heap.size W w1 → wpList P ops Q rest (a.put o.dst (.slice (some ⟨g, 0, none⟩) s.size c)) w1) : wpList P ops Q (o :: rest) a W :=
 Kd.event_run hgd hrun (h _ rfl _ _ (row8_new W s) (by
  refine ⟨rfl, rfl, rfl, ?_, fun i hi => Lib.bytesWorld_at_old W 5 s i hi⟩
  rw [Lib.bytesWorld_size]; omega))
theorem back_event {P : Program} {ops : Array Oper} {Q : Exit → Act → World → Prop} {rest : List Oper} {o : Oper} {a : Act} {W : World} (hgd : o.guard = none) {N : Tmp} (_hd : o.dst = some N) {s : ByteArray}
  (hrun : (execOp a.eval o).run P W = .ok (.value (.string s)) W) (h : ∀ w1, w1 = W → wpList P ops Q rest (a.put o.dst (.string s)) w1) : wpList P ops Q (o :: rest) a W :=
 Kd.event_run hgd hrun (h W rfl)
theorem set_eq {s t : ByteArray} {i v : Int} (h : gosem_cut_init.f s i v = some t) : t = bset s i.toNat v := by
 unfold gosem_cut_init.f at h
 split at h
 ·
  exact (Option.some.inj h).symm
 ·
  cases h
theorem bits8_range (op : BinOp) (x y : Int) : 0 ≤ Go.bits op .u8 x y ∧ Go.bits op .u8 x y < 256 := by
 unfold Go.bits
 split <;> (try rw [IntKind.wrap_u8]) <;> omega
/-! ### rampartlaw03_Ipv4Back: function 4 -/
mutual
def rampartlaw03_Ipv4Back.j0 : Nat → ByteArray → ByteArray → Int → Bool → Int → Int → Bool → Bool → Int → Int → Int → Int → Int → ByteArray → Option (Bool)
 | 0, _, _, _, _, _, _, _, _, _, _, _, _, _, _ => none
 | k + 1, x1, x2, x3, x35, x171000, x171001, x171002, x171003, x171004, x171005, x171006, x171007, x171008, x171009 => if x35 = true then ((rampartlaw03_awake.f k).bind fun t171 => (some t171)) else ((ipv4_Put.f k x171000 x171001 x171002 x171003 x171004 x171005 x171006 x171007 x171008 x171009 x1).bind fun bt172 => (if bt172.2 = 0 then (if bt172.1.size + x2.size ≤ 9223372036854775807 then ((ipv4_Get.f k (bt172.1 ++ x2)).bind fun bt176 => (if bt176.2.2.2.2.2.2.2.2.2.2.2 = 0 then ((rampartref03_Same.f bt176.1 bt176.2.1 bt176.2.2.1 bt176.2.2.2.1 bt176.2.2.2.2.1 bt176.2.2.2.2.2.1 bt176.2.2.2.2.2.2.1 bt176.2.2.2.2.2.2.2.1 bt176.2.2.2.2.2.2.2.2.1 bt176.2.2.2.2.2.2.2.2.2.1 x171000 x171001 x171002 x171003 x171004 x171005 x171006 x171007 x171008 x171009).bind fun t189 => (if t189 = true then (if bt176.2.2.2.2.2.2.2.2.2.2.1.toList = x1.toList then (rampartlaw03_Ipv4Back.j1 k x3 bt172.1 ((bt172.1.size : Int) != (wrap64 ((wrap64 (20 + (x171009.size : Int))) + (x1.size : Int)))) x171000 x171001 x171002 x171003 x171004 x171005 x171006 x171007 x171008 x171009) else (rampartlaw03_Ipv4Back.j1 k x3 bt172.1 true x171000 x171001 x171002 x171003 x171004 x171005 x171006 x171007 x171008 x171009)) else (rampartlaw03_Ipv4Back.j1 k x3 bt172.1 true x171000 x171001 x171002 x171003 x171004 x171005 x171006 x171007 x171008 x171009))) else (rampartlaw03_Ipv4Back.j1 k x3 bt172.1 true x171000 x171001 x171002 x171003 x171004 x171005 x171006 x171007 x171008 x171009))) else (none)) else (if bt172.1.toList = ([] : List UInt8) then ((ipv4_Check.f x171000 x171001 x171002 x171003 x171004 x171005 x171006 x171007 x171008 x171009).bind fun t174 => (if ((bt172.2 == 1) == (!t174)) = true then ((rampartlaw03_awake.f k).bind fun t175 => (some t175)) else (some false))) else (some false))))
def rampartlaw03_Ipv4Back.j1 : Nat → Int → ByteArray → Bool → Int → Int → Bool → Bool → Int → Int → Int → Int → Int → ByteArray → Option (Bool)
 | 0, _, _, _, _, _, _, _, _, _, _, _, _, _ => none
 | k + 1, x3, x9, x90, x171000, x171001, x171002, x171003, x171004, x171005, x171006, x171007, x171008, x171009 => if x90 = true then (some false) else ((rampartlaw00_Place.f x3 (wrap64 (8 * (wrap64 (20 + (x171009.size : Int)))))).bind fun t190 => (if 0 ≤ (wrap64 (Int.tdiv t190 8)) then (if (wrap64 (Int.tdiv t190 8)) < (x9.size : Int) then (if 0 ≤ (IntKind.u64.wrap (Int.tmod t190 8)) then ((gosem_cut_init.f x9 (wrap64 (Int.tdiv t190 8)) (Go.bits .xor .u8 (bt x9 (wrap64 (Int.tdiv t190 8))) (shl .u8 1 (IntKind.u64.wrap (Int.tmod t190 8))))).bind fun t191 => ((ipv4_Get.f k t191).bind fun bt192 => ((rampartlaw00_Place.f x3 (x9.size : Int)).bind fun t205 => (if 0 ≤ t205 then (if t205 ≤ (x9.size : Int) then ((ipv4_Get.f k (x9.extract 0 (t205 : Int).toNat)).bind fun bt206 => (if bt192.2.2.2.2.2.2.2.2.2.2.2 = 0 then (if t190 < 8 then (if bt206.2.2.2.2.2.2.2.2.2.2.2 = 0 then (some false) else ((rampartlaw03_awake.f k).bind fun t219 => (some t219))) else (some false)) else (if bt206.2.2.2.2.2.2.2.2.2.2.2 = 0 then (some false) else ((rampartlaw03_awake.f k).bind fun t220 => (some t220))))) else (none)) else (none))))) else (none)) else (none)) else (none)))
end
def rampartlaw03_Ipv4Back.f (k : Nat) (a0_0 : Int) (a0_1 : Int) (a0_2 : Bool) (a0_3 : Bool) (a0_4 : Int) (a0_5 : Int) (a0_6 : Int) (a0_7 : Int) (a0_8 : Int) (a0_9 : ByteArray) (a1 : ByteArray) (a2 : ByteArray) (a3 : Int) : Option (Bool) := if (a0_9.size : Int) > 100 then (rampartlaw03_Ipv4Back.j0 k a1 a2 a3 true a0_0 a0_1 a0_2 a0_3 a0_4 a0_5 a0_6 a0_7 a0_8 a0_9) else (if (a1.size : Int) > 2500 then (rampartlaw03_Ipv4Back.j0 k a1 a2 a3 true a0_0 a0_1 a0_2 a0_3 a0_4 a0_5 a0_6 a0_7 a0_8 a0_9) else (rampartlaw03_Ipv4Back.j0 k a1 a2 a3 (decide ((a2.size : Int) > 500)) a0_0 a0_1 a0_2 a0_3 a0_4 a0_5 a0_6 a0_7 a0_8 a0_9))
theorem rampartlaw03_Ipv4Back.mono_l : ∀ k, (∀ y0 y1 y2 y3 y4 y5 y6 y7 y8 y9 y10 y11 y12 y13, LeO (rampartlaw03_Ipv4Back.j0 k y0 y1 y2 y3 y4 y5 y6 y7 y8 y9 y10 y11 y12 y13) (rampartlaw03_Ipv4Back.j0 (k + 1) y0 y1 y2 y3 y4 y5 y6 y7 y8 y9 y10 y11 y12 y13)) ∧ (∀ y0 y1 y2 y3 y4 y5 y6 y7 y8 y9 y10 y11 y12, LeO (rampartlaw03_Ipv4Back.j1 k y0 y1 y2 y3 y4 y5 y6 y7 y8 y9 y10 y11 y12) (rampartlaw03_Ipv4Back.j1 (k + 1) y0 y1 y2 y3 y4 y5 y6 y7 y8 y9 y10 y11 y12))
 | 0 => ⟨fun _ _ _ _ _ _ _ _ _ _ _ _ _ _ r h => by simp [rampartlaw03_Ipv4Back.j0] at h, fun _ _ _ _ _ _ _ _ _ _ _ _ _ r h => by simp [rampartlaw03_Ipv4Back.j1] at h⟩
 | k + 1 => by
  obtain ⟨ih0, ih1⟩ := rampartlaw03_Ipv4Back.mono_l k
  refine ⟨?_, ?_⟩
  ·
   intro y0 y1 y2 y3 y4 y5 y6 y7 y8 y9 y10 y11 y12 y13
   unfold rampartlaw03_Ipv4Back.j0
   repeat' first
   | (with_reducible exact ih0 _ _ _ _ _ _ _ _ _ _ _ _ _ _)
   | (with_reducible exact ih1 _ _ _ _ _ _ _ _ _ _ _ _ _)
   | (with_reducible exact ipv4_Get.mono _ _)
   | (with_reducible exact ipv4_Put.mono _ _ _ _ _ _ _ _ _ _ _ _)
   | (with_reducible exact rampartlaw03_awake.mono _)
   | (with_reducible exact LeO.refl _)
   | (with_reducible exact LeO.none _)
   | (with_reducible refine LeO.ite ?_ ?_)
   | (with_reducible refine LeO.bind ?_ (fun _ => ?_))
   | exact ih0 _ _ _ _ _ _ _ _ _ _ _ _ _ _
   | exact ih1 _ _ _ _ _ _ _ _ _ _ _ _ _
   | exact ipv4_Get.mono _ _
   | exact ipv4_Put.mono _ _ _ _ _ _ _ _ _ _ _ _
   | exact rampartlaw03_awake.mono _
   | exact LeO.none _
   | refine LeO.ite ?_ ?_
   | refine LeO.bind ?_ (fun _ => ?_)
  ·
   intro y0 y1 y2 y3 y4 y5 y6 y7 y8 y9 y10 y11 y12
   unfold rampartlaw03_Ipv4Back.j1
   repeat' first
   | (with_reducible exact ih0 _ _ _ _ _ _ _ _ _ _ _ _ _ _)
   | (with_reducible exact ih1 _ _ _ _ _ _ _ _ _ _ _ _ _)
   | (with_reducible exact ipv4_Get.mono _ _)
   | (with_reducible exact ipv4_Put.mono _ _ _ _ _ _ _ _ _ _ _ _)
   | (with_reducible exact rampartlaw03_awake.mono _)
   | (with_reducible exact LeO.refl _)
   | (with_reducible exact LeO.none _)
   | (with_reducible refine LeO.ite ?_ ?_)
   | (with_reducible refine LeO.bind ?_ (fun _ => ?_))
   | exact ih0 _ _ _ _ _ _ _ _ _ _ _ _ _ _
   | exact ih1 _ _ _ _ _ _ _ _ _ _ _ _ _
   | exact ipv4_Get.mono _ _
   | exact ipv4_Put.mono _ _ _ _ _ _ _ _ _ _ _ _
   | exact rampartlaw03_awake.mono _
   | exact LeO.none _
   | refine LeO.ite ?_ ?_
   | refine LeO.bind ?_ (fun _ => ?_)
theorem rampartlaw03_Ipv4Back.mono : ∀ a0 a1 a2 a3 a4 a5 a6 a7 a8 a9 a10 a11 a12 k, LeO (rampartlaw03_Ipv4Back.f k a0 a1 a2 a3 a4 a5 a6 a7 a8 a9 a10 a11 a12) (rampartlaw03_Ipv4Back.f (k + 1) a0 a1 a2 a3 a4 a5 a6 a7 a8 a9 a10 a11 a12) := by
 intro a0 a1 a2 a3 a4 a5 a6 a7 a8 a9 a10 a11 a12 k
 obtain ⟨ih0, ih1⟩ := rampartlaw03_Ipv4Back.mono_l k
 unfold rampartlaw03_Ipv4Back.f
 repeat' first
   | (with_reducible exact ih0 _ _ _ _ _ _ _ _ _ _ _ _ _ _)
   | (with_reducible exact ih1 _ _ _ _ _ _ _ _ _ _ _ _ _)
   | (with_reducible exact ipv4_Get.mono _ _)
   | (with_reducible exact ipv4_Put.mono _ _ _ _ _ _ _ _ _ _ _ _)
   | (with_reducible exact rampartlaw03_awake.mono _)
   | (with_reducible exact LeO.refl _)
   | (with_reducible exact LeO.none _)
   | (with_reducible refine LeO.ite ?_ ?_)
   | (with_reducible refine LeO.bind ?_ (fun _ => ?_))
   | exact ih0 _ _ _ _ _ _ _ _ _ _ _ _ _ _
   | exact ih1 _ _ _ _ _ _ _ _ _ _ _ _ _
   | exact ipv4_Get.mono _ _
   | exact ipv4_Put.mono _ _ _ _ _ _ _ _ _ _ _ _
   | exact rampartlaw03_awake.mono _
   | exact LeO.none _
   | refine LeO.ite ?_ ?_
   | refine LeO.bind ?_ (fun _ => ?_)
set_option maxHeartbeats 8000000 in
set_option maxRecDepth 100000 in
theorem rampartlaw03_Ipv4Back.calls (k : Nat) (a0_0 : Int) (a0_1 : Int) (a0_2 : Bool) (a0_3 : Bool) (a0_4 : Int) (a0_5 : Int) (a0_6 : Int) (a0_7 : Int) (a0_8 : Int) (a0_9 : ByteArray) (a1 : ByteArray) (a2 : ByteArray) (a3 : Int) (r : Bool) (w : World) (h : rampartlaw03_Ipv4Back.f k a0_0 a0_1 a0_2 a0_3 a0_4 a0_5 a0_6 a0_7 a0_8 a0_9 a1 a2 a3 = some r) (HR0 : r = true) :
  Calls Try.prog 4 #[.agg #[.int .i64 a0_0, .int .i64 a0_1, .bool a0_2, .bool a0_3, .int .i64 a0_4, .int .i64 a0_5, .int .i64 a0_6, .int .u32 a0_7, .int .u32 a0_8, .string a0_9], .string a1, .string a2, .int .i64 a3] w fun e w' => e = .returned (.bool r) ∧ Below w.heap.size w w' := by
 have HR := Aside0.mk HR0
 clear HR0
 have hu24 := Try.underlying24
 have HB := Aside0.mk (Below.refl w.heap.size w)
 have H : (if (a0_9.size : Int) > 100 then (rampartlaw03_Ipv4Back.j0 k a1 a2 a3 true a0_0 a0_1 a0_2 a0_3 a0_4 a0_5 a0_6 a0_7 a0_8 a0_9) else (if (a1.size : Int) > 2500 then (rampartlaw03_Ipv4Back.j0 k a1 a2 a3 true a0_0 a0_1 a0_2 a0_3 a0_4 a0_5 a0_6 a0_7 a0_8 a0_9) else (rampartlaw03_Ipv4Back.j0 k a1 a2 a3 (decide ((a2.size : Int) > 500)) a0_0 a0_1 a0_2 a0_3 a0_4 a0_5 a0_6 a0_7 a0_8 a0_9))) = some r := h
 clear h
 have HC5 := Aside0.mk H
 clear H
 go_enter Try.func4, Try.ntmps4
 go_upto_region 1 with (first | ((with_reducible refine gate_dst (N := 4) rfl ?_); (try (refine gate_guard (by rfl) ?_; dsimp only)); refine box_event ?hg (N := 4) ?hd (cs := #[.int .i64 a0_0, .int .i64 a0_1, .bool a0_2, .bool a0_3, .int .i64 a0_4, .int .i64 a0_5, .int .i64 a0_6, .int .u32 a0_7, .int .u32 a0_8, .string a0_9]) (t := 24) ?hr ?_; (case hd => rfl); (case hg => rfl); (case hr => first | (go_simp; done) | (go_simp; rfl)); intro gb170 hg w6 hbox hb; have n0_ := Aside0.mk (below_step (by repeat (first | (with_reducible first | exact HB.out | apply below_alloc | apply pw_below_drewN | apply below_drew1) | exact HB.out)) hb); have n1_ := Aside0.mk (hbox); have n2_ := Aside0.mk ((by rw [hg]; exact (below_size (by repeat (first | (with_reducible first | exact HB.out | apply below_alloc | apply pw_below_drewN | apply below_drew1) | exact HB.out))) : w.heap.size ≤ gb170)); have n3_ := Aside0.mk ((by rw [hg]; exact (below_size (by repeat (first | (with_reducible first | exact HB.out | apply below_alloc | apply pw_below_drewN | apply below_drew1) | exact HB.out))) : w.heap.size ≤ gb170)); clear HB; have HB := n0_; have BK170 := n1_; have GW170 := n2_; have GE170 := n3_; clear n0_ n1_ n2_ n3_; clear hb hbox hg))
 (try simp only [Act.put, List.setIfInBounds_toArray, List.set_cons_zero, List.set_cons_succ])
 go_cut [35] (fun v35 wc => ∃ (kq : Nat) (x35_4 : Bool), v35 = .bool x35_4 ∧ Aside0 (rampartlaw03_Ipv4Back.j0 kq a1 a2 a3 x35_4 a0_0 a0_1 a0_2 a0_3 a0_4 a0_5 a0_6 a0_7 a0_8 a0_9 = some r) ∧ Aside0 (kq ≤ k) ∧ Aside0 (wc.heap[gb170]? = some (.cells #[.int .i64 a0_0, .int .i64 a0_1, .bool a0_2, .bool a0_3, .int .i64 a0_4, .int .i64 a0_5, .int .i64 a0_6, .int .u32 a0_7, .int .u32 a0_8, .string a0_9] 24 (0, 0))) ∧ Aside0 (Below w.heap.size w wc))
 case first =>
  have H := HC5.out
  clear HC5
  by_cases c7 : (a0_9.size : Int) > 100
  ·
   rw [if_pos c7] at H
   have c7b0 : decide (100 < (a0_9.size : Int)) = true := decide_eq_true c7
   have c7b1 : decide (100 < a0_9.size) = true := decide_eq_true (by omega)
   clear c7
   (first | rw [c7b0] | (simp only [i64_w, i32_w]; rw [c7b0]) | skip)
   have H' := Aside0.mk H
   clear H
   have hcz8_0 : w6.cell? ⟨gb170, 0, none⟩ = some (.int .i64 a0_0) := (blk_cell BK170.out 0).trans rfl
   have hcz8_1 : w6.cell? ⟨gb170, 1, none⟩ = some (.int .i64 a0_1) := (blk_cell BK170.out 1).trans rfl
   have hcz8_2 : w6.cell? ⟨gb170, 2, none⟩ = some (.bool a0_2) := (blk_cell BK170.out 2).trans rfl
   have hcz8_3 : w6.cell? ⟨gb170, 3, none⟩ = some (.bool a0_3) := (blk_cell BK170.out 3).trans rfl
   have hcz8_4 : w6.cell? ⟨gb170, 4, none⟩ = some (.int .i64 a0_4) := (blk_cell BK170.out 4).trans rfl
   have hcz8_5 : w6.cell? ⟨gb170, 5, none⟩ = some (.int .i64 a0_5) := (blk_cell BK170.out 5).trans rfl
   have hcz8_6 : w6.cell? ⟨gb170, 6, none⟩ = some (.int .i64 a0_6) := (blk_cell BK170.out 6).trans rfl
   have hcz8_7 : w6.cell? ⟨gb170, 7, none⟩ = some (.int .u32 a0_7) := (blk_cell BK170.out 7).trans rfl
   have hcz8_8 : w6.cell? ⟨gb170, 8, none⟩ = some (.int .u32 a0_8) := (blk_cell BK170.out 8).trans rfl
   have hcz8_9 : w6.cell? ⟨gb170, 9, none⟩ = some (.string a0_9) := (blk_cell BK170.out 9).trans rfl
   have hfz8_0 := blk_frozen BK170.out 0
   have hfz8_1 := blk_frozen BK170.out 1
   have hfz8_2 := blk_frozen BK170.out 2
   have hfz8_3 := blk_frozen BK170.out 3
   have hfz8_4 := blk_frozen BK170.out 4
   have hfz8_5 := blk_frozen BK170.out 5
   have hfz8_6 := blk_frozen BK170.out 6
   have hfz8_7 := blk_frozen BK170.out 7
   have hfz8_8 := blk_frozen BK170.out 8
   have hfz8_9 := blk_frozen BK170.out 9
   go_wp2
   go_meet
   case rel => exact ⟨_, (true), (by first | rfl | (simp; done) | (simp [*]; done)), H', ⟨by first | omega | exact Nat.le_refl _⟩, ⟨by (with_reducible repeat (first | refine blk_drewN ?_ _ | refine blk_drew ?_ | refine blk_alloc ?_ _)); exact BK170.out⟩, ⟨by repeat (first | (with_reducible first | exact HB.out | apply below_alloc | apply pw_below_drewN | apply below_drew1 | refine below_set ?_ GE170.out) | exact HB.out)⟩⟩
  ·
   rw [if_neg c7] at H
   have c7b0 : decide (100 < (a0_9.size : Int)) = false := decide_eq_false c7
   have c7b1 : decide (100 < a0_9.size) = false := decide_eq_false (by omega)
   clear c7
   (first | rw [c7b0] | (simp only [i64_w, i32_w]; rw [c7b0]) | skip)
   by_cases c9 : (a1.size : Int) > 2500
   ·
    rw [if_pos c9] at H
    have c9b0 : decide (2500 < (a1.size : Int)) = true := decide_eq_true c9
    have c9b1 : decide (2500 < a1.size) = true := decide_eq_true (by omega)
    clear c9
    have H' := Aside0.mk H
    clear H
    have hcz10_0 : w6.cell? ⟨gb170, 0, none⟩ = some (.int .i64 a0_0) := (blk_cell BK170.out 0).trans rfl
    have hcz10_1 : w6.cell? ⟨gb170, 1, none⟩ = some (.int .i64 a0_1) := (blk_cell BK170.out 1).trans rfl
    have hcz10_2 : w6.cell? ⟨gb170, 2, none⟩ = some (.bool a0_2) := (blk_cell BK170.out 2).trans rfl
    have hcz10_3 : w6.cell? ⟨gb170, 3, none⟩ = some (.bool a0_3) := (blk_cell BK170.out 3).trans rfl
    have hcz10_4 : w6.cell? ⟨gb170, 4, none⟩ = some (.int .i64 a0_4) := (blk_cell BK170.out 4).trans rfl
    have hcz10_5 : w6.cell? ⟨gb170, 5, none⟩ = some (.int .i64 a0_5) := (blk_cell BK170.out 5).trans rfl
    have hcz10_6 : w6.cell? ⟨gb170, 6, none⟩ = some (.int .i64 a0_6) := (blk_cell BK170.out 6).trans rfl
    have hcz10_7 : w6.cell? ⟨gb170, 7, none⟩ = some (.int .u32 a0_7) := (blk_cell BK170.out 7).trans rfl
    have hcz10_8 : w6.cell? ⟨gb170, 8, none⟩ = some (.int .u32 a0_8) := (blk_cell BK170.out 8).trans rfl
    have hcz10_9 : w6.cell? ⟨gb170, 9, none⟩ = some (.string a0_9) := (blk_cell BK170.out 9).trans rfl
    have hfz10_0 := blk_frozen BK170.out 0
    have hfz10_1 := blk_frozen BK170.out 1
    have hfz10_2 := blk_frozen BK170.out 2
    have hfz10_3 := blk_frozen BK170.out 3
    have hfz10_4 := blk_frozen BK170.out 4
    have hfz10_5 := blk_frozen BK170.out 5
    have hfz10_6 := blk_frozen BK170.out 6
    have hfz10_7 := blk_frozen BK170.out 7
    have hfz10_8 := blk_frozen BK170.out 8
    have hfz10_9 := blk_frozen BK170.out 9
    go_wp2
    go_meet
    case rel => exact ⟨_, (true), (by first | rfl | (simp; done) | (simp [*]; done)), H', ⟨by first | omega | exact Nat.le_refl _⟩, ⟨by (with_reducible repeat (first | refine blk_drewN ?_ _ | refine blk_drew ?_ | refine blk_alloc ?_ _)); exact BK170.out⟩, ⟨by repeat (first | (with_reducible first | exact HB.out | apply below_alloc | apply pw_below_drewN | apply below_drew1 | refine below_set ?_ GE170.out) | exact HB.out)⟩⟩
   ·
    rw [if_neg c9] at H
    have c9b0 : decide (2500 < (a1.size : Int)) = false := decide_eq_false c9
    have c9b1 : decide (2500 < a1.size) = false := decide_eq_false (by omega)
    clear c9
    have H' := Aside0.mk H
    clear H
    have hcz11_0 : w6.cell? ⟨gb170, 0, none⟩ = some (.int .i64 a0_0) := (blk_cell BK170.out 0).trans rfl
    have hcz11_1 : w6.cell? ⟨gb170, 1, none⟩ = some (.int .i64 a0_1) := (blk_cell BK170.out 1).trans rfl
    have hcz11_2 : w6.cell? ⟨gb170, 2, none⟩ = some (.bool a0_2) := (blk_cell BK170.out 2).trans rfl
    have hcz11_3 : w6.cell? ⟨gb170, 3, none⟩ = some (.bool a0_3) := (blk_cell BK170.out 3).trans rfl
    have hcz11_4 : w6.cell? ⟨gb170, 4, none⟩ = some (.int .i64 a0_4) := (blk_cell BK170.out 4).trans rfl
    have hcz11_5 : w6.cell? ⟨gb170, 5, none⟩ = some (.int .i64 a0_5) := (blk_cell BK170.out 5).trans rfl
    have hcz11_6 : w6.cell? ⟨gb170, 6, none⟩ = some (.int .i64 a0_6) := (blk_cell BK170.out 6).trans rfl
    have hcz11_7 : w6.cell? ⟨gb170, 7, none⟩ = some (.int .u32 a0_7) := (blk_cell BK170.out 7).trans rfl
    have hcz11_8 : w6.cell? ⟨gb170, 8, none⟩ = some (.int .u32 a0_8) := (blk_cell BK170.out 8).trans rfl
    have hcz11_9 : w6.cell? ⟨gb170, 9, none⟩ = some (.string a0_9) := (blk_cell BK170.out 9).trans rfl
    have hfz11_0 := blk_frozen BK170.out 0
    have hfz11_1 := blk_frozen BK170.out 1
    have hfz11_2 := blk_frozen BK170.out 2
    have hfz11_3 := blk_frozen BK170.out 3
    have hfz11_4 := blk_frozen BK170.out 4
    have hfz11_5 := blk_frozen BK170.out 5
    have hfz11_6 := blk_frozen BK170.out 6
    have hfz11_7 := blk_frozen BK170.out 7
    have hfz11_8 := blk_frozen BK170.out 8
    have hfz11_9 := blk_frozen BK170.out 9
    go_wp2
    go_meet
    case rel => exact ⟨_, (decide ((a2.size : Int) > 500)), (by first | rfl | (simp; done) | (simp [*]; done)), H', ⟨by first | omega | exact Nat.le_refl _⟩, ⟨by (with_reducible repeat (first | refine blk_drewN ?_ _ | refine blk_drew ?_ | refine blk_alloc ?_ _)); exact BK170.out⟩, ⟨by repeat (first | (with_reducible first | exact HB.out | apply below_alloc | apply pw_below_drewN | apply below_drew1 | refine below_set ?_ GE170.out) | exact HB.out)⟩⟩
 case rest =>
  clear HC5
  try clear p2
  try clear c4
  try clear c7
  try clear c7b0
  try clear c7b1
  try clear c9
  try clear c9b0
  try clear c9b1
  try clear hcz10_0
  try clear hcz10_1
  try clear hcz10_2
  try clear hcz10_3
  try clear hcz10_4
  try clear hcz10_5
  try clear hcz10_6
  try clear hcz10_7
  try clear hcz10_8
  try clear hcz10_9
  try clear hcz11_0
  try clear hcz11_1
  try clear hcz11_2
  try clear hcz11_3
  try clear hcz11_4
  try clear hcz11_5
  try clear hcz11_6
  try clear hcz11_7
  try clear hcz11_8
  try clear hcz11_9
  try clear hcz8_0
  try clear hcz8_1
  try clear hcz8_2
  try clear hcz8_3
  try clear hcz8_4
  try clear hcz8_5
  try clear hcz8_6
  try clear hcz8_7
  try clear hcz8_8
  try clear hcz8_9
  try clear hfz10_0
  try clear hfz10_1
  try clear hfz10_2
  try clear hfz10_3
  try clear hfz10_4
  try clear hfz10_5
  try clear hfz10_6
  try clear hfz10_7
  try clear hfz10_8
  try clear hfz10_9
  try clear hfz11_0
  try clear hfz11_1
  try clear hfz11_2
  try clear hfz11_3
  try clear hfz11_4
  try clear hfz11_5
  try clear hfz11_6
  try clear hfz11_7
  try clear hfz11_8
  try clear hfz11_9
  try clear hfz8_0
  try clear hfz8_1
  try clear hfz8_2
  try clear hfz8_3
  try clear hfz8_4
  try clear hfz8_5
  try clear hfz8_6
  try clear hfz8_7
  try clear hfz8_8
  try clear hfz8_9
  obtain ⟨kq, x35_4, rfl, HA, HJ4, BK170, HB⟩ := hcut
  cases kq with
  | zero => exact absurd HA.out (by simp [rampartlaw03_Ipv4Back.j0])
  | succ kj4 =>
   have H := HA.out
   clear HA
   simp only [rampartlaw03_Ipv4Back.j0] at H
   by_cases c12 : x35_4 = true
   ·
    subst c12
    have H1 : ((rampartlaw03_awake.f kj4).bind fun t171 => (some t171)) = some r := by rw [if_pos rfl] at H; exact H
    clear H
    have H := H1
    clear H1
    replace H := Option.bind_eq_some_iff.mp H
    obtain ⟨t171, A130, H⟩ := H
    replace H : (some t171) = some r := H
    have A13 := Aside0.mk A130
    clear A130
    obtain rfl := Option.some.inj H
    go_wp2_with (first | ((with_reducible refine gate_callee (f := 15) rfl ?_); refine goesL_ (some 36) rfl rfl Try.func15 (by kernel_rfl) rfl #[] rfl (by (try simp only [List.map_toArray, List.map_cons, List.map_nil]); first | done | rfl | (simp only [List.length_drop, List.length_take]; rfl)) ?_; (with_reducible refine (rampartlaw03_awake.calls kj4  t171 _ A13.out (by first | rfl | exact HR.out)).mono ?_); rintro e w14 ⟨rfl, hb⟩; refine ⟨_, rfl, ?_⟩; have n0_ := Aside0.mk (blk_below (g := gb170) (o := .cells #[.int .i64 a0_0, .int .i64 a0_1, .bool a0_2, .bool a0_3, .int .i64 a0_4, .int .i64 a0_5, .int .i64 a0_6, .int .u32 a0_7, .int .u32 a0_8, .string a0_9] 24 (0, 0)) (by (with_reducible repeat (first | refine blk_drewN ?_ _ | refine blk_drew ?_ | refine blk_alloc ?_ _)); exact BK170.out) hb); have n1_ := Aside0.mk (below_step (by repeat (first | (with_reducible first | exact HB.out | apply below_alloc | apply pw_below_drewN | apply below_drew1 | refine below_set ?_ GE170.out) | exact HB.out)) hb); clear BK170; clear HB; have BK170 := n0_; have HB := n1_; clear n0_ n1_; (try clear hb); (try clear hb2); (try clear hk); (try clear hi)))
    go_ret
    exact ⟨by first | rfl | (simp [errW_none, errW_some] <;> rfl) | (simp [*, errW_none, errW_some] <;> rfl), by repeat (first | (with_reducible first | exact HB.out | apply below_alloc | apply pw_below_drewN | apply below_drew1 | refine below_set ?_ GE170.out) | exact HB.out)⟩
   ·
    replace c12 := Bool.eq_false_iff.mpr c12
    subst c12
    have H1 : ((ipv4_Put.f kj4 a0_0 a0_1 a0_2 a0_3 a0_4 a0_5 a0_6 a0_7 a0_8 a0_9 a1).bind fun bt172 => (if bt172.2 = 0 then (if bt172.1.size + a2.size ≤ 9223372036854775807 then ((ipv4_Get.f kj4 (bt172.1 ++ a2)).bind fun bt176 => (if bt176.2.2.2.2.2.2.2.2.2.2.2 = 0 then ((rampartref03_Same.f bt176.1 bt176.2.1 bt176.2.2.1 bt176.2.2.2.1 bt176.2.2.2.2.1 bt176.2.2.2.2.2.1 bt176.2.2.2.2.2.2.1 bt176.2.2.2.2.2.2.2.1 bt176.2.2.2.2.2.2.2.2.1 bt176.2.2.2.2.2.2.2.2.2.1 a0_0 a0_1 a0_2 a0_3 a0_4 a0_5 a0_6 a0_7 a0_8 a0_9).bind fun t189 => (if t189 = true then (if bt176.2.2.2.2.2.2.2.2.2.2.1.toList = a1.toList then (rampartlaw03_Ipv4Back.j1 kj4 a3 bt172.1 ((bt172.1.size : Int) != (wrap64 ((wrap64 (20 + (a0_9.size : Int))) + (a1.size : Int)))) a0_0 a0_1 a0_2 a0_3 a0_4 a0_5 a0_6 a0_7 a0_8 a0_9) else (rampartlaw03_Ipv4Back.j1 kj4 a3 bt172.1 true a0_0 a0_1 a0_2 a0_3 a0_4 a0_5 a0_6 a0_7 a0_8 a0_9)) else (rampartlaw03_Ipv4Back.j1 kj4 a3 bt172.1 true a0_0 a0_1 a0_2 a0_3 a0_4 a0_5 a0_6 a0_7 a0_8 a0_9))) else (rampartlaw03_Ipv4Back.j1 kj4 a3 bt172.1 true a0_0 a0_1 a0_2 a0_3 a0_4 a0_5 a0_6 a0_7 a0_8 a0_9))) else (none)) else (if bt172.1.toList = ([] : List UInt8) then ((ipv4_Check.f a0_0 a0_1 a0_2 a0_3 a0_4 a0_5 a0_6 a0_7 a0_8 a0_9).bind fun t174 => (if ((bt172.2 == 1) == (!t174)) = true then ((rampartlaw03_awake.f kj4).bind fun t175 => (some t175)) else (some false))) else (some false)))) = some r := by rw [if_neg (show ¬ (false = true) by decide)] at H; exact H
    clear H
    have H := H1
    clear H1
    replace H := Option.bind_eq_some_iff.mp H
    obtain ⟨⟨t172, t173⟩, A150, H⟩ := H
    replace H : (if t173 = 0 then (if t172.size + a2.size ≤ 9223372036854775807 then ((ipv4_Get.f kj4 (t172 ++ a2)).bind fun bt176 => (if bt176.2.2.2.2.2.2.2.2.2.2.2 = 0 then ((rampartref03_Same.f bt176.1 bt176.2.1 bt176.2.2.1 bt176.2.2.2.1 bt176.2.2.2.2.1 bt176.2.2.2.2.2.1 bt176.2.2.2.2.2.2.1 bt176.2.2.2.2.2.2.2.1 bt176.2.2.2.2.2.2.2.2.1 bt176.2.2.2.2.2.2.2.2.2.1 a0_0 a0_1 a0_2 a0_3 a0_4 a0_5 a0_6 a0_7 a0_8 a0_9).bind fun t189 => (if t189 = true then (if bt176.2.2.2.2.2.2.2.2.2.2.1.toList = a1.toList then (rampartlaw03_Ipv4Back.j1 kj4 a3 t172 ((t172.size : Int) != (wrap64 ((wrap64 (20 + (a0_9.size : Int))) + (a1.size : Int)))) a0_0 a0_1 a0_2 a0_3 a0_4 a0_5 a0_6 a0_7 a0_8 a0_9) else (rampartlaw03_Ipv4Back.j1 kj4 a3 t172 true a0_0 a0_1 a0_2 a0_3 a0_4 a0_5 a0_6 a0_7 a0_8 a0_9)) else (rampartlaw03_Ipv4Back.j1 kj4 a3 t172 true a0_0 a0_1 a0_2 a0_3 a0_4 a0_5 a0_6 a0_7 a0_8 a0_9))) else (rampartlaw03_Ipv4Back.j1 kj4 a3 t172 true a0_0 a0_1 a0_2 a0_3 a0_4 a0_5 a0_6 a0_7 a0_8 a0_9))) else (none)) else (if t172.toList = ([] : List UInt8) then ((ipv4_Check.f a0_0 a0_1 a0_2 a0_3 a0_4 a0_5 a0_6 a0_7 a0_8 a0_9).bind fun t174 => (if ((t173 == 1) == (!t174)) = true then ((rampartlaw03_awake.f kj4).bind fun t175 => (some t175)) else (some false))) else (some false))) = some r := H
    have A15 := Aside0.mk A150
    clear A150
    by_cases c16 : t173 = 0
    ·
     rw [if_pos c16] at H
     have c16b0 : (t173 == 0) = true := beq_iff_eq.mpr c16
     have c16b1 : (t173 != 0) = false := bne_eq_false_iff_eq.mpr c16
     clear c16
     by_cases c17 : t172.size + a2.size ≤ 9223372036854775807
     ·
      rw [if_pos c17] at H
      have c17b0 := eq_true c17
      have c17b1 : decide (t172.size + a2.size ≤ 9223372036854775807) = true := decide_eq_true c17
      try have c17b2 : (9223372036854775807 < t172.size + a2.size) = False := eq_false (Nat.not_lt.2 c17)
      replace H := Option.bind_eq_some_iff.mp H
      obtain ⟨⟨t176, t177, t178, t179, t180, t181, t182, t183, t184, t185, t186, t187⟩, A180, H⟩ := H
      replace H : (if t187 = 0 then ((rampartref03_Same.f t176 t177 t178 t179 t180 t181 t182 t183 t184 t185 a0_0 a0_1 a0_2 a0_3 a0_4 a0_5 a0_6 a0_7 a0_8 a0_9).bind fun t189 => (if t189 = true then (if t186.toList = a1.toList then (rampartlaw03_Ipv4Back.j1 kj4 a3 t172 ((t172.size : Int) != (wrap64 ((wrap64 (20 + (a0_9.size : Int))) + (a1.size : Int)))) a0_0 a0_1 a0_2 a0_3 a0_4 a0_5 a0_6 a0_7 a0_8 a0_9) else (rampartlaw03_Ipv4Back.j1 kj4 a3 t172 true a0_0 a0_1 a0_2 a0_3 a0_4 a0_5 a0_6 a0_7 a0_8 a0_9)) else (rampartlaw03_Ipv4Back.j1 kj4 a3 t172 true a0_0 a0_1 a0_2 a0_3 a0_4 a0_5 a0_6 a0_7 a0_8 a0_9))) else (rampartlaw03_Ipv4Back.j1 kj4 a3 t172 true a0_0 a0_1 a0_2 a0_3 a0_4 a0_5 a0_6 a0_7 a0_8 a0_9)) = some r := H
      have A18 := Aside0.mk A180
      clear A180
      have HC19 := Aside0.mk H
      clear H
      have hcz20_0 : wc.cell? ⟨gb170, 0, none⟩ = some (.int .i64 a0_0) := (blk_cell BK170.out 0).trans rfl
      have hcz20_1 : wc.cell? ⟨gb170, 1, none⟩ = some (.int .i64 a0_1) := (blk_cell BK170.out 1).trans rfl
      have hcz20_2 : wc.cell? ⟨gb170, 2, none⟩ = some (.bool a0_2) := (blk_cell BK170.out 2).trans rfl
      have hcz20_3 : wc.cell? ⟨gb170, 3, none⟩ = some (.bool a0_3) := (blk_cell BK170.out 3).trans rfl
      have hcz20_4 : wc.cell? ⟨gb170, 4, none⟩ = some (.int .i64 a0_4) := (blk_cell BK170.out 4).trans rfl
      have hcz20_5 : wc.cell? ⟨gb170, 5, none⟩ = some (.int .i64 a0_5) := (blk_cell BK170.out 5).trans rfl
      have hcz20_6 : wc.cell? ⟨gb170, 6, none⟩ = some (.int .i64 a0_6) := (blk_cell BK170.out 6).trans rfl
      have hcz20_7 : wc.cell? ⟨gb170, 7, none⟩ = some (.int .u32 a0_7) := (blk_cell BK170.out 7).trans rfl
      have hcz20_8 : wc.cell? ⟨gb170, 8, none⟩ = some (.int .u32 a0_8) := (blk_cell BK170.out 8).trans rfl
      have hcz20_9 : wc.cell? ⟨gb170, 9, none⟩ = some (.string a0_9) := (blk_cell BK170.out 9).trans rfl
      have hfz20_0 := blk_frozen BK170.out 0
      have hfz20_1 := blk_frozen BK170.out 1
      have hfz20_2 := blk_frozen BK170.out 2
      have hfz20_3 := blk_frozen BK170.out 3
      have hfz20_4 := blk_frozen BK170.out 4
      have hfz20_5 := blk_frozen BK170.out 5
      have hfz20_6 := blk_frozen BK170.out 6
      have hfz20_7 := blk_frozen BK170.out 7
      have hfz20_8 := blk_frozen BK170.out 8
      have hfz20_9 := blk_frozen BK170.out 9
      go_upto_region 7 with (first | ((with_reducible refine gate_callee (f := 16) rfl ?_); refine goesL_ (some 40) rfl rfl Try.func16 (by kernel_rfl) rfl #[.agg #[.int .i64 a0_0, .int .i64 a0_1, .bool a0_2, .bool a0_3, .int .i64 a0_4, .int .i64 a0_5, .int .i64 a0_6, .int .u32 a0_7, .int .u32 a0_8, .string a0_9], .string a1] rfl (by (try simp only [List.map_toArray, List.map_cons, List.map_nil]); first | done | rfl | (simp only [List.length_drop, List.length_take]; rfl)) ?_; (with_reducible refine (ipv4_Put.calls kj4 a0_0 a0_1 a0_2 a0_3 a0_4 a0_5 a0_6 a0_7 a0_8 a0_9 a1 t172 t173 _ A15.out).mono ?_); rintro e w21 ⟨rfl, hb⟩; refine ⟨_, rfl, ?_⟩; have n0_ := Aside0.mk (blk_below (g := gb170) (o := .cells #[.int .i64 a0_0, .int .i64 a0_1, .bool a0_2, .bool a0_3, .int .i64 a0_4, .int .i64 a0_5, .int .i64 a0_6, .int .u32 a0_7, .int .u32 a0_8, .string a0_9] 24 (0, 0)) (by (with_reducible repeat (first | refine blk_drewN ?_ _ | refine blk_drew ?_ | refine blk_alloc ?_ _)); exact BK170.out) hb); have n1_ := Aside0.mk (below_step (by repeat (first | (with_reducible first | exact HB.out | apply below_alloc | apply pw_below_drewN | apply below_drew1 | refine below_set ?_ GE170.out) | exact HB.out)) hb); clear BK170; clear HB; have BK170 := n0_; have HB := n1_; clear n0_ n1_; (try clear hb); (try clear hb2); (try clear hk); (try clear hi)) | ((with_reducible refine gate_callee (f := 18) rfl ?_); refine goesL_ (some 62) rfl rfl Try.func18 (by kernel_rfl) rfl #[.string (t172 ++ a2)] rfl (by (try simp only [List.map_toArray, List.map_cons, List.map_nil]); first | done | rfl | (simp only [List.length_drop, List.length_take]; rfl)) ?_; (with_reducible refine (ipv4_Get.calls kj4 (t172 ++ a2) t176 t177 t178 t179 t180 t181 t182 t183 t184 t185 t186 t187 _ A18.out).mono ?_); rintro e w22 ⟨rfl, hb⟩; refine ⟨_, rfl, ?_⟩; have n0_ := Aside0.mk (blk_below (g := gb170) (o := .cells #[.int .i64 a0_0, .int .i64 a0_1, .bool a0_2, .bool a0_3, .int .i64 a0_4, .int .i64 a0_5, .int .i64 a0_6, .int .u32 a0_7, .int .u32 a0_8, .string a0_9] 24 (0, 0)) (by (with_reducible repeat (first | refine blk_drewN ?_ _ | refine blk_drew ?_ | refine blk_alloc ?_ _)); exact BK170.out) hb); have n1_ := Aside0.mk (below_step (by repeat (first | (with_reducible first | exact HB.out | apply below_alloc | apply pw_below_drewN | apply below_drew1 | refine below_set ?_ GE170.out) | exact HB.out)) hb); clear BK170; clear HB; have BK170 := n0_; have HB := n1_; clear n0_ n1_; (try clear hb); (try clear hb2); (try clear hk); (try clear hi)) | ((with_reducible refine gate_dst (N := 11) rfl ?_); (try (refine gate_guard (by rfl) ?_; dsimp only)); refine box_event ?hg (N := 11) ?hd (cs := #[.int .i64 0, .int .i64 0, .bool false, .bool false, .int .i64 0, .int .i64 0, .int .i64 0, .int .u32 0, .int .u32 0, .string (⟨#[]⟩ : ByteArray)]) (t := 24) ?hr ?_; (case hd => rfl); (case hg => rfl); (case hr => first | (go_simp; done) | (go_simp; rfl)); intro gb188 hg w23 hbox hb; have n0_ := Aside0.mk (blk_below (g := gb170) (o := .cells #[.int .i64 a0_0, .int .i64 a0_1, .bool a0_2, .bool a0_3, .int .i64 a0_4, .int .i64 a0_5, .int .i64 a0_6, .int .u32 a0_7, .int .u32 a0_8, .string a0_9] 24 (0, 0)) (by (with_reducible repeat (first | refine blk_drewN ?_ _ | refine blk_drew ?_ | refine blk_alloc ?_ _)); exact BK170.out) hb); have n1_ := Aside0.mk (below_step (by repeat (first | (with_reducible first | exact HB.out | apply below_alloc | apply pw_below_drewN | apply below_drew1 | refine below_set ?_ GE170.out) | exact HB.out)) hb); have n2_ := Aside0.mk (hbox); have n3_ := Aside0.mk ((by rw [hg]; exact (below_size (by repeat (first | (with_reducible first | exact HB.out | apply below_alloc | apply pw_below_drewN | apply below_drew1 | refine below_set ?_ GE170.out) | exact HB.out))) : w.heap.size ≤ gb188)); have n4_ := Aside0.mk ((by rw [hg]; exact (below_size (by repeat (first | (with_reducible first | exact HB.out | apply below_alloc | apply pw_below_drewN | apply below_drew1 | refine below_set ?_ GE170.out) | exact HB.out))) : w.heap.size ≤ gb188)); have n5_ := Aside0.mk ((by rw [hg]; exact Nat.ne_of_lt (blk_lt (g := gb170) (o := .cells #[.int .i64 a0_0, .int .i64 a0_1, .bool a0_2, .bool a0_3, .int .i64 a0_4, .int .i64 a0_5, .int .i64 a0_6, .int .u32 a0_7, .int .u32 a0_8, .string a0_9] 24 (0, 0)) (by (with_reducible repeat (first | refine blk_drewN ?_ _ | refine blk_drew ?_ | refine blk_alloc ?_ _)); exact BK170.out)) : gb170 ≠ gb188)); have n6_ := Aside0.mk ((by rw [hg]; exact Nat.ne_of_gt (blk_lt (g := gb170) (o := .cells #[.int .i64 a0_0, .int .i64 a0_1, .bool a0_2, .bool a0_3, .int .i64 a0_4, .int .i64 a0_5, .int .i64 a0_6, .int .u32 a0_7, .int .u32 a0_8, .string a0_9] 24 (0, 0)) (by (with_reducible repeat (first | refine blk_drewN ?_ _ | refine blk_drew ?_ | refine blk_alloc ?_ _)); exact BK170.out)) : gb188 ≠ gb170)); clear BK170; clear HB; have BK170 := n0_; have HB := n1_; have BK188 := n2_; have GW188 := n3_; have GE188 := n4_; have NB170_188 := n5_; have NB188_170 := n6_; clear n0_ n1_ n2_ n3_ n4_ n5_ n6_; clear hb hbox hg; have hnb24 := NB188_170.out; have hnc24 := NB170_188.out; have hcz25_0 : w23.cell? ⟨gb188, 0, none⟩ = some (.int .i64 0) := (blk_cell BK188.out 0).trans rfl; have hcz25_1 : w23.cell? ⟨gb188, 1, none⟩ = some (.int .i64 0) := (blk_cell BK188.out 1).trans rfl; have hcz25_2 : w23.cell? ⟨gb188, 2, none⟩ = some (.bool false) := (blk_cell BK188.out 2).trans rfl; have hcz25_3 : w23.cell? ⟨gb188, 3, none⟩ = some (.bool false) := (blk_cell BK188.out 3).trans rfl; have hcz25_4 : w23.cell? ⟨gb188, 4, none⟩ = some (.int .i64 0) := (blk_cell BK188.out 4).trans rfl; have hcz25_5 : w23.cell? ⟨gb188, 5, none⟩ = some (.int .i64 0) := (blk_cell BK188.out 5).trans rfl; have hcz25_6 : w23.cell? ⟨gb188, 6, none⟩ = some (.int .i64 0) := (blk_cell BK188.out 6).trans rfl; have hcz25_7 : w23.cell? ⟨gb188, 7, none⟩ = some (.int .u32 0) := (blk_cell BK188.out 7).trans rfl; have hcz25_8 : w23.cell? ⟨gb188, 8, none⟩ = some (.int .u32 0) := (blk_cell BK188.out 8).trans rfl; have hcz25_9 : w23.cell? ⟨gb188, 9, none⟩ = some (.string (⟨#[]⟩ : ByteArray)) := (blk_cell BK188.out 9).trans rfl; have hfz25_0 := blk_frozen BK188.out 0; have hfz25_1 := blk_frozen BK188.out 1; have hfz25_2 := blk_frozen BK188.out 2; have hfz25_3 := blk_frozen BK188.out 3; have hfz25_4 := blk_frozen BK188.out 4; have hfz25_5 := blk_frozen BK188.out 5; have hfz25_6 := blk_frozen BK188.out 6; have hfz25_7 := blk_frozen BK188.out 7; have hfz25_8 := blk_frozen BK188.out 8; have hfz25_9 := blk_frozen BK188.out 9))
      (try simp only [Act.put, List.setIfInBounds_toArray, List.set_cons_zero, List.set_cons_succ])
      go_cut [90] (fun v90 wc => ∃ (kq : Nat) (x90_18 : Bool), v90 = .bool x90_18 ∧ Aside0 (rampartlaw03_Ipv4Back.j1 kq a3 t172 x90_18 a0_0 a0_1 a0_2 a0_3 a0_4 a0_5 a0_6 a0_7 a0_8 a0_9 = some r) ∧ Aside0 (kq ≤ kj4) ∧ Aside0 (wc.heap[gb170]? = some (.cells #[.int .i64 a0_0, .int .i64 a0_1, .bool a0_2, .bool a0_3, .int .i64 a0_4, .int .i64 a0_5, .int .i64 a0_6, .int .u32 a0_7, .int .u32 a0_8, .string a0_9] 24 (0, 0))) ∧ Aside0 (wc.heap[gb188]? = some (.cells #[.int .i64 t176, .int .i64 t177, .bool t178, .bool t179, .int .i64 t180, .int .i64 t181, .int .i64 t182, .int .u32 t183, .int .u32 t184, .string t185] 24 (0, 0))) ∧ Aside0 (Below w.heap.size w wc))
      case first =>
       have H := HC19.out
       clear HC19
       by_cases c26 : t187 = 0
       ·
        rw [if_pos c26] at H
        have c26b0 : (t187 == 0) = true := beq_iff_eq.mpr c26
        have c26b1 : (t187 != 0) = false := bne_eq_false_iff_eq.mpr c26
        clear c26
        (first | rw [c26b0] | (simp only [i64_w, i32_w]; rw [c26b0]) | skip)
        replace H := Option.bind_eq_some_iff.mp H
        obtain ⟨t189, A270, H⟩ := H
        replace H : (if t189 = true then (if t186.toList = a1.toList then (rampartlaw03_Ipv4Back.j1 kj4 a3 t172 ((t172.size : Int) != (wrap64 ((wrap64 (20 + (a0_9.size : Int))) + (a1.size : Int)))) a0_0 a0_1 a0_2 a0_3 a0_4 a0_5 a0_6 a0_7 a0_8 a0_9) else (rampartlaw03_Ipv4Back.j1 kj4 a3 t172 true a0_0 a0_1 a0_2 a0_3 a0_4 a0_5 a0_6 a0_7 a0_8 a0_9)) else (rampartlaw03_Ipv4Back.j1 kj4 a3 t172 true a0_0 a0_1 a0_2 a0_3 a0_4 a0_5 a0_6 a0_7 a0_8 a0_9)) = some r := H
        have A27 := Aside0.mk A270
        clear A270
        by_cases c28 : t189 = true
        ·
         subst c28
         have H1 : (if t186.toList = a1.toList then (rampartlaw03_Ipv4Back.j1 kj4 a3 t172 ((t172.size : Int) != (wrap64 ((wrap64 (20 + (a0_9.size : Int))) + (a1.size : Int)))) a0_0 a0_1 a0_2 a0_3 a0_4 a0_5 a0_6 a0_7 a0_8 a0_9) else (rampartlaw03_Ipv4Back.j1 kj4 a3 t172 true a0_0 a0_1 a0_2 a0_3 a0_4 a0_5 a0_6 a0_7 a0_8 a0_9)) = some r := by rw [if_pos rfl] at H; exact H
         clear H
         have H := H1
         clear H1
         by_cases c29 : t186.toList = a1.toList
         ·
          rw [if_pos c29] at H
          have c29b0 : (t186.toList == a1.toList) = true := beq_iff_eq.mpr c29
          have c29b1 : (t186.toList != a1.toList) = false := bne_eq_false_iff_eq.mpr c29
          clear c29
          have H' := Aside0.mk H
          clear H
          have hnb30 := NB188_170.out
          have hnc30 := NB170_188.out
          have hcz31_0 : w23.cell? ⟨gb188, 0, none⟩ = some (.int .i64 0) := (blk_cell BK188.out 0).trans rfl
          have hcz31_1 : w23.cell? ⟨gb188, 1, none⟩ = some (.int .i64 0) := (blk_cell BK188.out 1).trans rfl
          have hcz31_2 : w23.cell? ⟨gb188, 2, none⟩ = some (.bool false) := (blk_cell BK188.out 2).trans rfl
          have hcz31_3 : w23.cell? ⟨gb188, 3, none⟩ = some (.bool false) := (blk_cell BK188.out 3).trans rfl
          have hcz31_4 : w23.cell? ⟨gb188, 4, none⟩ = some (.int .i64 0) := (blk_cell BK188.out 4).trans rfl
          have hcz31_5 : w23.cell? ⟨gb188, 5, none⟩ = some (.int .i64 0) := (blk_cell BK188.out 5).trans rfl
          have hcz31_6 : w23.cell? ⟨gb188, 6, none⟩ = some (.int .i64 0) := (blk_cell BK188.out 6).trans rfl
          have hcz31_7 : w23.cell? ⟨gb188, 7, none⟩ = some (.int .u32 0) := (blk_cell BK188.out 7).trans rfl
          have hcz31_8 : w23.cell? ⟨gb188, 8, none⟩ = some (.int .u32 0) := (blk_cell BK188.out 8).trans rfl
          have hcz31_9 : w23.cell? ⟨gb188, 9, none⟩ = some (.string (⟨#[]⟩ : ByteArray)) := (blk_cell BK188.out 9).trans rfl
          have hfz31_0 := blk_frozen BK188.out 0
          have hfz31_1 := blk_frozen BK188.out 1
          have hfz31_2 := blk_frozen BK188.out 2
          have hfz31_3 := blk_frozen BK188.out 3
          have hfz31_4 := blk_frozen BK188.out 4
          have hfz31_5 := blk_frozen BK188.out 5
          have hfz31_6 := blk_frozen BK188.out 6
          have hfz31_7 := blk_frozen BK188.out 7
          have hfz31_8 := blk_frozen BK188.out 8
          have hfz31_9 := blk_frozen BK188.out 9
          have hcz32_0 : w23.cell? ⟨gb170, 0, none⟩ = some (.int .i64 a0_0) := (blk_cell BK170.out 0).trans rfl
          have hcz32_1 : w23.cell? ⟨gb170, 1, none⟩ = some (.int .i64 a0_1) := (blk_cell BK170.out 1).trans rfl
          have hcz32_2 : w23.cell? ⟨gb170, 2, none⟩ = some (.bool a0_2) := (blk_cell BK170.out 2).trans rfl
          have hcz32_3 : w23.cell? ⟨gb170, 3, none⟩ = some (.bool a0_3) := (blk_cell BK170.out 3).trans rfl
          have hcz32_4 : w23.cell? ⟨gb170, 4, none⟩ = some (.int .i64 a0_4) := (blk_cell BK170.out 4).trans rfl
          have hcz32_5 : w23.cell? ⟨gb170, 5, none⟩ = some (.int .i64 a0_5) := (blk_cell BK170.out 5).trans rfl
          have hcz32_6 : w23.cell? ⟨gb170, 6, none⟩ = some (.int .i64 a0_6) := (blk_cell BK170.out 6).trans rfl
          have hcz32_7 : w23.cell? ⟨gb170, 7, none⟩ = some (.int .u32 a0_7) := (blk_cell BK170.out 7).trans rfl
          have hcz32_8 : w23.cell? ⟨gb170, 8, none⟩ = some (.int .u32 a0_8) := (blk_cell BK170.out 8).trans rfl
          have hcz32_9 : w23.cell? ⟨gb170, 9, none⟩ = some (.string a0_9) := (blk_cell BK170.out 9).trans rfl
          have hfz32_0 := blk_frozen BK170.out 0
          have hfz32_1 := blk_frozen BK170.out 1
          have hfz32_2 := blk_frozen BK170.out 2
          have hfz32_3 := blk_frozen BK170.out 3
          have hfz32_4 := blk_frozen BK170.out 4
          have hfz32_5 := blk_frozen BK170.out 5
          have hfz32_6 := blk_frozen BK170.out 6
          have hfz32_7 := blk_frozen BK170.out 7
          have hfz32_8 := blk_frozen BK170.out 8
          have hfz32_9 := blk_frozen BK170.out 9
          go_wp2_with (first | (go_at_call 22; (with_reducible refine (rampartref03_Same.calls t176 t177 t178 t179 t180 t181 t182 t183 t184 t185 a0_0 a0_1 a0_2 a0_3 a0_4 a0_5 a0_6 a0_7 a0_8 a0_9 true _ A27.out).mono ?_); rintro e w33 ⟨rfl, hb⟩; have n0_ := Aside0.mk (blk_below (g := gb170) (o := .cells #[.int .i64 a0_0, .int .i64 a0_1, .bool a0_2, .bool a0_3, .int .i64 a0_4, .int .i64 a0_5, .int .i64 a0_6, .int .u32 a0_7, .int .u32 a0_8, .string a0_9] 24 (0, 0)) (by (with_reducible repeat (first | refine blk_drewN ?_ _ | refine blk_drew ?_ | refine blk_alloc ?_ _)); refine blk_far ?_ NB170_188.out _; (with_reducible repeat (first | refine blk_drewN ?_ _ | refine blk_drew ?_ | refine blk_alloc ?_ _)); refine blk_far ?_ NB170_188.out _; (with_reducible repeat (first | refine blk_drewN ?_ _ | refine blk_drew ?_ | refine blk_alloc ?_ _)); refine blk_far ?_ NB170_188.out _; (with_reducible repeat (first | refine blk_drewN ?_ _ | refine blk_drew ?_ | refine blk_alloc ?_ _)); refine blk_far ?_ NB170_188.out _; (with_reducible repeat (first | refine blk_drewN ?_ _ | refine blk_drew ?_ | refine blk_alloc ?_ _)); refine blk_far ?_ NB170_188.out _; (with_reducible repeat (first | refine blk_drewN ?_ _ | refine blk_drew ?_ | refine blk_alloc ?_ _)); refine blk_far ?_ NB170_188.out _; (with_reducible repeat (first | refine blk_drewN ?_ _ | refine blk_drew ?_ | refine blk_alloc ?_ _)); refine blk_far ?_ NB170_188.out _; (with_reducible repeat (first | refine blk_drewN ?_ _ | refine blk_drew ?_ | refine blk_alloc ?_ _)); refine blk_far ?_ NB170_188.out _; (with_reducible repeat (first | refine blk_drewN ?_ _ | refine blk_drew ?_ | refine blk_alloc ?_ _)); refine blk_far ?_ NB170_188.out _; (with_reducible repeat (first | refine blk_drewN ?_ _ | refine blk_drew ?_ | refine blk_alloc ?_ _)); refine blk_far ?_ NB170_188.out _; (with_reducible repeat (first | refine blk_drewN ?_ _ | refine blk_drew ?_ | refine blk_alloc ?_ _)); exact BK170.out) hb); have n1_ := Aside0.mk (blk_below (g := gb188) (o := .cells #[.int .i64 t176, .int .i64 t177, .bool t178, .bool t179, .int .i64 t180, .int .i64 t181, .int .i64 t182, .int .u32 t183, .int .u32 t184, .string t185] 24 (0, 0)) (by (with_reducible repeat (first | refine blk_drewN ?_ _ | refine blk_drew ?_ | refine blk_alloc ?_ _)); refine blk_put (cs := #[.int .i64 t176, .int .i64 t177, .bool t178, .bool t179, .int .i64 t180, .int .i64 t181, .int .i64 t182, .int .u32 t183, .int .u32 t184, .string (⟨#[]⟩ : ByteArray)]) ?_ 9 _ rfl; (with_reducible repeat (first | refine blk_drewN ?_ _ | refine blk_drew ?_ | refine blk_alloc ?_ _)); refine blk_put (cs := #[.int .i64 t176, .int .i64 t177, .bool t178, .bool t179, .int .i64 t180, .int .i64 t181, .int .i64 t182, .int .u32 t183, .int .u32 0, .string (⟨#[]⟩ : ByteArray)]) ?_ 8 _ rfl; (with_reducible repeat (first | refine blk_drewN ?_ _ | refine blk_drew ?_ | refine blk_alloc ?_ _)); refine blk_put (cs := #[.int .i64 t176, .int .i64 t177, .bool t178, .bool t179, .int .i64 t180, .int .i64 t181, .int .i64 t182, .int .u32 0, .int .u32 0, .string (⟨#[]⟩ : ByteArray)]) ?_ 7 _ rfl; (with_reducible repeat (first | refine blk_drewN ?_ _ | refine blk_drew ?_ | refine blk_alloc ?_ _)); refine blk_put (cs := #[.int .i64 t176, .int .i64 t177, .bool t178, .bool t179, .int .i64 t180, .int .i64 t181, .int .i64 0, .int .u32 0, .int .u32 0, .string (⟨#[]⟩ : ByteArray)]) ?_ 6 _ rfl; (with_reducible repeat (first | refine blk_drewN ?_ _ | refine blk_drew ?_ | refine blk_alloc ?_ _)); refine blk_put (cs := #[.int .i64 t176, .int .i64 t177, .bool t178, .bool t179, .int .i64 t180, .int .i64 0, .int .i64 0, .int .u32 0, .int .u32 0, .string (⟨#[]⟩ : ByteArray)]) ?_ 5 _ rfl; (with_reducible repeat (first | refine blk_drewN ?_ _ | refine blk_drew ?_ | refine blk_alloc ?_ _)); refine blk_put (cs := #[.int .i64 t176, .int .i64 t177, .bool t178, .bool t179, .int .i64 0, .int .i64 0, .int .i64 0, .int .u32 0, .int .u32 0, .string (⟨#[]⟩ : ByteArray)]) ?_ 4 _ rfl; (with_reducible repeat (first | refine blk_drewN ?_ _ | refine blk_drew ?_ | refine blk_alloc ?_ _)); refine blk_put (cs := #[.int .i64 t176, .int .i64 t177, .bool t178, .bool false, .int .i64 0, .int .i64 0, .int .i64 0, .int .u32 0, .int .u32 0, .string (⟨#[]⟩ : ByteArray)]) ?_ 3 _ rfl; (with_reducible repeat (first | refine blk_drewN ?_ _ | refine blk_drew ?_ | refine blk_alloc ?_ _)); refine blk_put (cs := #[.int .i64 t176, .int .i64 t177, .bool false, .bool false, .int .i64 0, .int .i64 0, .int .i64 0, .int .u32 0, .int .u32 0, .string (⟨#[]⟩ : ByteArray)]) ?_ 2 _ rfl; (with_reducible repeat (first | refine blk_drewN ?_ _ | refine blk_drew ?_ | refine blk_alloc ?_ _)); refine blk_put (cs := #[.int .i64 t176, .int .i64 0, .bool false, .bool false, .int .i64 0, .int .i64 0, .int .i64 0, .int .u32 0, .int .u32 0, .string (⟨#[]⟩ : ByteArray)]) ?_ 1 _ rfl; (with_reducible repeat (first | refine blk_drewN ?_ _ | refine blk_drew ?_ | refine blk_alloc ?_ _)); refine blk_put (cs := #[.int .i64 0, .int .i64 0, .bool false, .bool false, .int .i64 0, .int .i64 0, .int .i64 0, .int .u32 0, .int .u32 0, .string (⟨#[]⟩ : ByteArray)]) ?_ 0 _ rfl; (with_reducible repeat (first | refine blk_drewN ?_ _ | refine blk_drew ?_ | refine blk_alloc ?_ _)); exact BK188.out) hb); have n2_ := Aside0.mk (below_step (by repeat (first | (with_reducible first | exact HB.out | apply below_alloc | apply pw_below_drewN | apply below_drew1 | refine below_set ?_ GE170.out | refine below_set ?_ GE188.out) | exact HB.out)) hb); clear BK170; clear BK188; clear HB; have BK170 := n0_; have BK188 := n1_; have HB := n2_; clear n0_ n1_ n2_; (try clear hb); (try clear hb2); (try clear hk); (try clear hi); have hcz34_0 : w33.cell? ⟨gb170, 0, none⟩ = some (.int .i64 a0_0) := (blk_cell BK170.out 0).trans rfl; have hcz34_1 : w33.cell? ⟨gb170, 1, none⟩ = some (.int .i64 a0_1) := (blk_cell BK170.out 1).trans rfl; have hcz34_2 : w33.cell? ⟨gb170, 2, none⟩ = some (.bool a0_2) := (blk_cell BK170.out 2).trans rfl; have hcz34_3 : w33.cell? ⟨gb170, 3, none⟩ = some (.bool a0_3) := (blk_cell BK170.out 3).trans rfl; have hcz34_4 : w33.cell? ⟨gb170, 4, none⟩ = some (.int .i64 a0_4) := (blk_cell BK170.out 4).trans rfl; have hcz34_5 : w33.cell? ⟨gb170, 5, none⟩ = some (.int .i64 a0_5) := (blk_cell BK170.out 5).trans rfl; have hcz34_6 : w33.cell? ⟨gb170, 6, none⟩ = some (.int .i64 a0_6) := (blk_cell BK170.out 6).trans rfl; have hcz34_7 : w33.cell? ⟨gb170, 7, none⟩ = some (.int .u32 a0_7) := (blk_cell BK170.out 7).trans rfl; have hcz34_8 : w33.cell? ⟨gb170, 8, none⟩ = some (.int .u32 a0_8) := (blk_cell BK170.out 8).trans rfl; have hcz34_9 : w33.cell? ⟨gb170, 9, none⟩ = some (.string a0_9) := (blk_cell BK170.out 9).trans rfl; have hfz34_0 := blk_frozen BK170.out 0; have hfz34_1 := blk_frozen BK170.out 1; have hfz34_2 := blk_frozen BK170.out 2; have hfz34_3 := blk_frozen BK170.out 3; have hfz34_4 := blk_frozen BK170.out 4; have hfz34_5 := blk_frozen BK170.out 5; have hfz34_6 := blk_frozen BK170.out 6; have hfz34_7 := blk_frozen BK170.out 7; have hfz34_8 := blk_frozen BK170.out 8; have hfz34_9 := blk_frozen BK170.out 9))
          go_meet
          case rel => exact ⟨_, (((t172.size : Int) != (wrap64 ((wrap64 (20 + (a0_9.size : Int))) + (a1.size : Int))))), (by first | rfl | (simp; done) | (simp [*]; done)), H', ⟨by have := HJ4.out; first | omega | exact Nat.le_refl _⟩, ⟨by (with_reducible repeat (first | refine blk_drewN ?_ _ | refine blk_drew ?_ | refine blk_alloc ?_ _)); exact BK170.out⟩, ⟨by (with_reducible repeat (first | refine blk_drewN ?_ _ | refine blk_drew ?_ | refine blk_alloc ?_ _)); exact BK188.out⟩, ⟨by repeat (first | (with_reducible first | exact HB.out | apply below_alloc | apply pw_below_drewN | apply below_drew1 | refine below_set ?_ GE170.out | refine below_set ?_ GE188.out) | exact HB.out)⟩⟩
         ·
          rw [if_neg c29] at H
          have c29b0 : (t186.toList == a1.toList) = false := beq_eq_false_iff_ne.mpr c29
          have c29b1 : (t186.toList != a1.toList) = true := bne_iff_ne.mpr c29
          have H' := Aside0.mk H
          clear H
          have hnb35 := NB188_170.out
          have hnc35 := NB170_188.out
          have hcz36_0 : w23.cell? ⟨gb188, 0, none⟩ = some (.int .i64 0) := (blk_cell BK188.out 0).trans rfl
          have hcz36_1 : w23.cell? ⟨gb188, 1, none⟩ = some (.int .i64 0) := (blk_cell BK188.out 1).trans rfl
          have hcz36_2 : w23.cell? ⟨gb188, 2, none⟩ = some (.bool false) := (blk_cell BK188.out 2).trans rfl
          have hcz36_3 : w23.cell? ⟨gb188, 3, none⟩ = some (.bool false) := (blk_cell BK188.out 3).trans rfl
          have hcz36_4 : w23.cell? ⟨gb188, 4, none⟩ = some (.int .i64 0) := (blk_cell BK188.out 4).trans rfl
          have hcz36_5 : w23.cell? ⟨gb188, 5, none⟩ = some (.int .i64 0) := (blk_cell BK188.out 5).trans rfl
          have hcz36_6 : w23.cell? ⟨gb188, 6, none⟩ = some (.int .i64 0) := (blk_cell BK188.out 6).trans rfl
          have hcz36_7 : w23.cell? ⟨gb188, 7, none⟩ = some (.int .u32 0) := (blk_cell BK188.out 7).trans rfl
          have hcz36_8 : w23.cell? ⟨gb188, 8, none⟩ = some (.int .u32 0) := (blk_cell BK188.out 8).trans rfl
          have hcz36_9 : w23.cell? ⟨gb188, 9, none⟩ = some (.string (⟨#[]⟩ : ByteArray)) := (blk_cell BK188.out 9).trans rfl
          have hfz36_0 := blk_frozen BK188.out 0
          have hfz36_1 := blk_frozen BK188.out 1
          have hfz36_2 := blk_frozen BK188.out 2
          have hfz36_3 := blk_frozen BK188.out 3
          have hfz36_4 := blk_frozen BK188.out 4
          have hfz36_5 := blk_frozen BK188.out 5
          have hfz36_6 := blk_frozen BK188.out 6
          have hfz36_7 := blk_frozen BK188.out 7
          have hfz36_8 := blk_frozen BK188.out 8
          have hfz36_9 := blk_frozen BK188.out 9
          have hcz37_0 : w23.cell? ⟨gb170, 0, none⟩ = some (.int .i64 a0_0) := (blk_cell BK170.out 0).trans rfl
          have hcz37_1 : w23.cell? ⟨gb170, 1, none⟩ = some (.int .i64 a0_1) := (blk_cell BK170.out 1).trans rfl
          have hcz37_2 : w23.cell? ⟨gb170, 2, none⟩ = some (.bool a0_2) := (blk_cell BK170.out 2).trans rfl
          have hcz37_3 : w23.cell? ⟨gb170, 3, none⟩ = some (.bool a0_3) := (blk_cell BK170.out 3).trans rfl
          have hcz37_4 : w23.cell? ⟨gb170, 4, none⟩ = some (.int .i64 a0_4) := (blk_cell BK170.out 4).trans rfl
          have hcz37_5 : w23.cell? ⟨gb170, 5, none⟩ = some (.int .i64 a0_5) := (blk_cell BK170.out 5).trans rfl
          have hcz37_6 : w23.cell? ⟨gb170, 6, none⟩ = some (.int .i64 a0_6) := (blk_cell BK170.out 6).trans rfl
          have hcz37_7 : w23.cell? ⟨gb170, 7, none⟩ = some (.int .u32 a0_7) := (blk_cell BK170.out 7).trans rfl
          have hcz37_8 : w23.cell? ⟨gb170, 8, none⟩ = some (.int .u32 a0_8) := (blk_cell BK170.out 8).trans rfl
          have hcz37_9 : w23.cell? ⟨gb170, 9, none⟩ = some (.string a0_9) := (blk_cell BK170.out 9).trans rfl
          have hfz37_0 := blk_frozen BK170.out 0
          have hfz37_1 := blk_frozen BK170.out 1
          have hfz37_2 := blk_frozen BK170.out 2
          have hfz37_3 := blk_frozen BK170.out 3
          have hfz37_4 := blk_frozen BK170.out 4
          have hfz37_5 := blk_frozen BK170.out 5
          have hfz37_6 := blk_frozen BK170.out 6
          have hfz37_7 := blk_frozen BK170.out 7
          have hfz37_8 := blk_frozen BK170.out 8
          have hfz37_9 := blk_frozen BK170.out 9
          go_wp2_with (first | (go_at_call 22; (with_reducible refine (rampartref03_Same.calls t176 t177 t178 t179 t180 t181 t182 t183 t184 t185 a0_0 a0_1 a0_2 a0_3 a0_4 a0_5 a0_6 a0_7 a0_8 a0_9 true _ A27.out).mono ?_); rintro e w38 ⟨rfl, hb⟩; have n0_ := Aside0.mk (blk_below (g := gb170) (o := .cells #[.int .i64 a0_0, .int .i64 a0_1, .bool a0_2, .bool a0_3, .int .i64 a0_4, .int .i64 a0_5, .int .i64 a0_6, .int .u32 a0_7, .int .u32 a0_8, .string a0_9] 24 (0, 0)) (by (with_reducible repeat (first | refine blk_drewN ?_ _ | refine blk_drew ?_ | refine blk_alloc ?_ _)); refine blk_far ?_ NB170_188.out _; (with_reducible repeat (first | refine blk_drewN ?_ _ | refine blk_drew ?_ | refine blk_alloc ?_ _)); refine blk_far ?_ NB170_188.out _; (with_reducible repeat (first | refine blk_drewN ?_ _ | refine blk_drew ?_ | refine blk_alloc ?_ _)); refine blk_far ?_ NB170_188.out _; (with_reducible repeat (first | refine blk_drewN ?_ _ | refine blk_drew ?_ | refine blk_alloc ?_ _)); refine blk_far ?_ NB170_188.out _; (with_reducible repeat (first | refine blk_drewN ?_ _ | refine blk_drew ?_ | refine blk_alloc ?_ _)); refine blk_far ?_ NB170_188.out _; (with_reducible repeat (first | refine blk_drewN ?_ _ | refine blk_drew ?_ | refine blk_alloc ?_ _)); refine blk_far ?_ NB170_188.out _; (with_reducible repeat (first | refine blk_drewN ?_ _ | refine blk_drew ?_ | refine blk_alloc ?_ _)); refine blk_far ?_ NB170_188.out _; (with_reducible repeat (first | refine blk_drewN ?_ _ | refine blk_drew ?_ | refine blk_alloc ?_ _)); refine blk_far ?_ NB170_188.out _; (with_reducible repeat (first | refine blk_drewN ?_ _ | refine blk_drew ?_ | refine blk_alloc ?_ _)); refine blk_far ?_ NB170_188.out _; (with_reducible repeat (first | refine blk_drewN ?_ _ | refine blk_drew ?_ | refine blk_alloc ?_ _)); refine blk_far ?_ NB170_188.out _; (with_reducible repeat (first | refine blk_drewN ?_ _ | refine blk_drew ?_ | refine blk_alloc ?_ _)); exact BK170.out) hb); have n1_ := Aside0.mk (blk_below (g := gb188) (o := .cells #[.int .i64 t176, .int .i64 t177, .bool t178, .bool t179, .int .i64 t180, .int .i64 t181, .int .i64 t182, .int .u32 t183, .int .u32 t184, .string t185] 24 (0, 0)) (by (with_reducible repeat (first | refine blk_drewN ?_ _ | refine blk_drew ?_ | refine blk_alloc ?_ _)); refine blk_put (cs := #[.int .i64 t176, .int .i64 t177, .bool t178, .bool t179, .int .i64 t180, .int .i64 t181, .int .i64 t182, .int .u32 t183, .int .u32 t184, .string (⟨#[]⟩ : ByteArray)]) ?_ 9 _ rfl; (with_reducible repeat (first | refine blk_drewN ?_ _ | refine blk_drew ?_ | refine blk_alloc ?_ _)); refine blk_put (cs := #[.int .i64 t176, .int .i64 t177, .bool t178, .bool t179, .int .i64 t180, .int .i64 t181, .int .i64 t182, .int .u32 t183, .int .u32 0, .string (⟨#[]⟩ : ByteArray)]) ?_ 8 _ rfl; (with_reducible repeat (first | refine blk_drewN ?_ _ | refine blk_drew ?_ | refine blk_alloc ?_ _)); refine blk_put (cs := #[.int .i64 t176, .int .i64 t177, .bool t178, .bool t179, .int .i64 t180, .int .i64 t181, .int .i64 t182, .int .u32 0, .int .u32 0, .string (⟨#[]⟩ : ByteArray)]) ?_ 7 _ rfl; (with_reducible repeat (first | refine blk_drewN ?_ _ | refine blk_drew ?_ | refine blk_alloc ?_ _)); refine blk_put (cs := #[.int .i64 t176, .int .i64 t177, .bool t178, .bool t179, .int .i64 t180, .int .i64 t181, .int .i64 0, .int .u32 0, .int .u32 0, .string (⟨#[]⟩ : ByteArray)]) ?_ 6 _ rfl; (with_reducible repeat (first | refine blk_drewN ?_ _ | refine blk_drew ?_ | refine blk_alloc ?_ _)); refine blk_put (cs := #[.int .i64 t176, .int .i64 t177, .bool t178, .bool t179, .int .i64 t180, .int .i64 0, .int .i64 0, .int .u32 0, .int .u32 0, .string (⟨#[]⟩ : ByteArray)]) ?_ 5 _ rfl; (with_reducible repeat (first | refine blk_drewN ?_ _ | refine blk_drew ?_ | refine blk_alloc ?_ _)); refine blk_put (cs := #[.int .i64 t176, .int .i64 t177, .bool t178, .bool t179, .int .i64 0, .int .i64 0, .int .i64 0, .int .u32 0, .int .u32 0, .string (⟨#[]⟩ : ByteArray)]) ?_ 4 _ rfl; (with_reducible repeat (first | refine blk_drewN ?_ _ | refine blk_drew ?_ | refine blk_alloc ?_ _)); refine blk_put (cs := #[.int .i64 t176, .int .i64 t177, .bool t178, .bool false, .int .i64 0, .int .i64 0, .int .i64 0, .int .u32 0, .int .u32 0, .string (⟨#[]⟩ : ByteArray)]) ?_ 3 _ rfl; (with_reducible repeat (first | refine blk_drewN ?_ _ | refine blk_drew ?_ | refine blk_alloc ?_ _)); refine blk_put (cs := #[.int .i64 t176, .int .i64 t177, .bool false, .bool false, .int .i64 0, .int .i64 0, .int .i64 0, .int .u32 0, .int .u32 0, .string (⟨#[]⟩ : ByteArray)]) ?_ 2 _ rfl; (with_reducible repeat (first | refine blk_drewN ?_ _ | refine blk_drew ?_ | refine blk_alloc ?_ _)); refine blk_put (cs := #[.int .i64 t176, .int .i64 0, .bool false, .bool false, .int .i64 0, .int .i64 0, .int .i64 0, .int .u32 0, .int .u32 0, .string (⟨#[]⟩ : ByteArray)]) ?_ 1 _ rfl; (with_reducible repeat (first | refine blk_drewN ?_ _ | refine blk_drew ?_ | refine blk_alloc ?_ _)); refine blk_put (cs := #[.int .i64 0, .int .i64 0, .bool false, .bool false, .int .i64 0, .int .i64 0, .int .i64 0, .int .u32 0, .int .u32 0, .string (⟨#[]⟩ : ByteArray)]) ?_ 0 _ rfl; (with_reducible repeat (first | refine blk_drewN ?_ _ | refine blk_drew ?_ | refine blk_alloc ?_ _)); exact BK188.out) hb); have n2_ := Aside0.mk (below_step (by repeat (first | (with_reducible first | exact HB.out | apply below_alloc | apply pw_below_drewN | apply below_drew1 | refine below_set ?_ GE170.out | refine below_set ?_ GE188.out) | exact HB.out)) hb); clear BK170; clear BK188; clear HB; have BK170 := n0_; have BK188 := n1_; have HB := n2_; clear n0_ n1_ n2_; (try clear hb); (try clear hb2); (try clear hk); (try clear hi)))
          go_meet
          case rel => exact ⟨_, (true), (by first | rfl | (simp; done) | (simp [*]; done)), H', ⟨by have := HJ4.out; first | omega | exact Nat.le_refl _⟩, ⟨by (with_reducible repeat (first | refine blk_drewN ?_ _ | refine blk_drew ?_ | refine blk_alloc ?_ _)); exact BK170.out⟩, ⟨by (with_reducible repeat (first | refine blk_drewN ?_ _ | refine blk_drew ?_ | refine blk_alloc ?_ _)); exact BK188.out⟩, ⟨by repeat (first | (with_reducible first | exact HB.out | apply below_alloc | apply pw_below_drewN | apply below_drew1 | refine below_set ?_ GE170.out | refine below_set ?_ GE188.out) | exact HB.out)⟩⟩
        ·
         replace c28 := Bool.eq_false_iff.mpr c28
         subst c28
         have H1 : (rampartlaw03_Ipv4Back.j1 kj4 a3 t172 true a0_0 a0_1 a0_2 a0_3 a0_4 a0_5 a0_6 a0_7 a0_8 a0_9) = some r := by rw [if_neg (show ¬ (false = true) by decide)] at H; exact H
         clear H
         have H := H1
         clear H1
         have H' := Aside0.mk H
         clear H
         have hnb39 := NB188_170.out
         have hnc39 := NB170_188.out
         have hcz40_0 : w23.cell? ⟨gb188, 0, none⟩ = some (.int .i64 0) := (blk_cell BK188.out 0).trans rfl
         have hcz40_1 : w23.cell? ⟨gb188, 1, none⟩ = some (.int .i64 0) := (blk_cell BK188.out 1).trans rfl
         have hcz40_2 : w23.cell? ⟨gb188, 2, none⟩ = some (.bool false) := (blk_cell BK188.out 2).trans rfl
         have hcz40_3 : w23.cell? ⟨gb188, 3, none⟩ = some (.bool false) := (blk_cell BK188.out 3).trans rfl
         have hcz40_4 : w23.cell? ⟨gb188, 4, none⟩ = some (.int .i64 0) := (blk_cell BK188.out 4).trans rfl
         have hcz40_5 : w23.cell? ⟨gb188, 5, none⟩ = some (.int .i64 0) := (blk_cell BK188.out 5).trans rfl
         have hcz40_6 : w23.cell? ⟨gb188, 6, none⟩ = some (.int .i64 0) := (blk_cell BK188.out 6).trans rfl
         have hcz40_7 : w23.cell? ⟨gb188, 7, none⟩ = some (.int .u32 0) := (blk_cell BK188.out 7).trans rfl
         have hcz40_8 : w23.cell? ⟨gb188, 8, none⟩ = some (.int .u32 0) := (blk_cell BK188.out 8).trans rfl
         have hcz40_9 : w23.cell? ⟨gb188, 9, none⟩ = some (.string (⟨#[]⟩ : ByteArray)) := (blk_cell BK188.out 9).trans rfl
         have hfz40_0 := blk_frozen BK188.out 0
         have hfz40_1 := blk_frozen BK188.out 1
         have hfz40_2 := blk_frozen BK188.out 2
         have hfz40_3 := blk_frozen BK188.out 3
         have hfz40_4 := blk_frozen BK188.out 4
         have hfz40_5 := blk_frozen BK188.out 5
         have hfz40_6 := blk_frozen BK188.out 6
         have hfz40_7 := blk_frozen BK188.out 7
         have hfz40_8 := blk_frozen BK188.out 8
         have hfz40_9 := blk_frozen BK188.out 9
         have hcz41_0 : w23.cell? ⟨gb170, 0, none⟩ = some (.int .i64 a0_0) := (blk_cell BK170.out 0).trans rfl
         have hcz41_1 : w23.cell? ⟨gb170, 1, none⟩ = some (.int .i64 a0_1) := (blk_cell BK170.out 1).trans rfl
         have hcz41_2 : w23.cell? ⟨gb170, 2, none⟩ = some (.bool a0_2) := (blk_cell BK170.out 2).trans rfl
         have hcz41_3 : w23.cell? ⟨gb170, 3, none⟩ = some (.bool a0_3) := (blk_cell BK170.out 3).trans rfl
         have hcz41_4 : w23.cell? ⟨gb170, 4, none⟩ = some (.int .i64 a0_4) := (blk_cell BK170.out 4).trans rfl
         have hcz41_5 : w23.cell? ⟨gb170, 5, none⟩ = some (.int .i64 a0_5) := (blk_cell BK170.out 5).trans rfl
         have hcz41_6 : w23.cell? ⟨gb170, 6, none⟩ = some (.int .i64 a0_6) := (blk_cell BK170.out 6).trans rfl
         have hcz41_7 : w23.cell? ⟨gb170, 7, none⟩ = some (.int .u32 a0_7) := (blk_cell BK170.out 7).trans rfl
         have hcz41_8 : w23.cell? ⟨gb170, 8, none⟩ = some (.int .u32 a0_8) := (blk_cell BK170.out 8).trans rfl
         have hcz41_9 : w23.cell? ⟨gb170, 9, none⟩ = some (.string a0_9) := (blk_cell BK170.out 9).trans rfl
         have hfz41_0 := blk_frozen BK170.out 0
         have hfz41_1 := blk_frozen BK170.out 1
         have hfz41_2 := blk_frozen BK170.out 2
         have hfz41_3 := blk_frozen BK170.out 3
         have hfz41_4 := blk_frozen BK170.out 4
         have hfz41_5 := blk_frozen BK170.out 5
         have hfz41_6 := blk_frozen BK170.out 6
         have hfz41_7 := blk_frozen BK170.out 7
         have hfz41_8 := blk_frozen BK170.out 8
         have hfz41_9 := blk_frozen BK170.out 9
         go_wp2_with (first | (go_at_call 22; (with_reducible refine (rampartref03_Same.calls t176 t177 t178 t179 t180 t181 t182 t183 t184 t185 a0_0 a0_1 a0_2 a0_3 a0_4 a0_5 a0_6 a0_7 a0_8 a0_9 false _ A27.out).mono ?_); rintro e w42 ⟨rfl, hb⟩; have n0_ := Aside0.mk (blk_below (g := gb170) (o := .cells #[.int .i64 a0_0, .int .i64 a0_1, .bool a0_2, .bool a0_3, .int .i64 a0_4, .int .i64 a0_5, .int .i64 a0_6, .int .u32 a0_7, .int .u32 a0_8, .string a0_9] 24 (0, 0)) (by (with_reducible repeat (first | refine blk_drewN ?_ _ | refine blk_drew ?_ | refine blk_alloc ?_ _)); refine blk_far ?_ NB170_188.out _; (with_reducible repeat (first | refine blk_drewN ?_ _ | refine blk_drew ?_ | refine blk_alloc ?_ _)); refine blk_far ?_ NB170_188.out _; (with_reducible repeat (first | refine blk_drewN ?_ _ | refine blk_drew ?_ | refine blk_alloc ?_ _)); refine blk_far ?_ NB170_188.out _; (with_reducible repeat (first | refine blk_drewN ?_ _ | refine blk_drew ?_ | refine blk_alloc ?_ _)); refine blk_far ?_ NB170_188.out _; (with_reducible repeat (first | refine blk_drewN ?_ _ | refine blk_drew ?_ | refine blk_alloc ?_ _)); refine blk_far ?_ NB170_188.out _; (with_reducible repeat (first | refine blk_drewN ?_ _ | refine blk_drew ?_ | refine blk_alloc ?_ _)); refine blk_far ?_ NB170_188.out _; (with_reducible repeat (first | refine blk_drewN ?_ _ | refine blk_drew ?_ | refine blk_alloc ?_ _)); refine blk_far ?_ NB170_188.out _; (with_reducible repeat (first | refine blk_drewN ?_ _ | refine blk_drew ?_ | refine blk_alloc ?_ _)); refine blk_far ?_ NB170_188.out _; (with_reducible repeat (first | refine blk_drewN ?_ _ | refine blk_drew ?_ | refine blk_alloc ?_ _)); refine blk_far ?_ NB170_188.out _; (with_reducible repeat (first | refine blk_drewN ?_ _ | refine blk_drew ?_ | refine blk_alloc ?_ _)); refine blk_far ?_ NB170_188.out _; (with_reducible repeat (first | refine blk_drewN ?_ _ | refine blk_drew ?_ | refine blk_alloc ?_ _)); exact BK170.out) hb); have n1_ := Aside0.mk (blk_below (g := gb188) (o := .cells #[.int .i64 t176, .int .i64 t177, .bool t178, .bool t179, .int .i64 t180, .int .i64 t181, .int .i64 t182, .int .u32 t183, .int .u32 t184, .string t185] 24 (0, 0)) (by (with_reducible repeat (first | refine blk_drewN ?_ _ | refine blk_drew ?_ | refine blk_alloc ?_ _)); refine blk_put (cs := #[.int .i64 t176, .int .i64 t177, .bool t178, .bool t179, .int .i64 t180, .int .i64 t181, .int .i64 t182, .int .u32 t183, .int .u32 t184, .string (⟨#[]⟩ : ByteArray)]) ?_ 9 _ rfl; (with_reducible repeat (first | refine blk_drewN ?_ _ | refine blk_drew ?_ | refine blk_alloc ?_ _)); refine blk_put (cs := #[.int .i64 t176, .int .i64 t177, .bool t178, .bool t179, .int .i64 t180, .int .i64 t181, .int .i64 t182, .int .u32 t183, .int .u32 0, .string (⟨#[]⟩ : ByteArray)]) ?_ 8 _ rfl; (with_reducible repeat (first | refine blk_drewN ?_ _ | refine blk_drew ?_ | refine blk_alloc ?_ _)); refine blk_put (cs := #[.int .i64 t176, .int .i64 t177, .bool t178, .bool t179, .int .i64 t180, .int .i64 t181, .int .i64 t182, .int .u32 0, .int .u32 0, .string (⟨#[]⟩ : ByteArray)]) ?_ 7 _ rfl; (with_reducible repeat (first | refine blk_drewN ?_ _ | refine blk_drew ?_ | refine blk_alloc ?_ _)); refine blk_put (cs := #[.int .i64 t176, .int .i64 t177, .bool t178, .bool t179, .int .i64 t180, .int .i64 t181, .int .i64 0, .int .u32 0, .int .u32 0, .string (⟨#[]⟩ : ByteArray)]) ?_ 6 _ rfl; (with_reducible repeat (first | refine blk_drewN ?_ _ | refine blk_drew ?_ | refine blk_alloc ?_ _)); refine blk_put (cs := #[.int .i64 t176, .int .i64 t177, .bool t178, .bool t179, .int .i64 t180, .int .i64 0, .int .i64 0, .int .u32 0, .int .u32 0, .string (⟨#[]⟩ : ByteArray)]) ?_ 5 _ rfl; (with_reducible repeat (first | refine blk_drewN ?_ _ | refine blk_drew ?_ | refine blk_alloc ?_ _)); refine blk_put (cs := #[.int .i64 t176, .int .i64 t177, .bool t178, .bool t179, .int .i64 0, .int .i64 0, .int .i64 0, .int .u32 0, .int .u32 0, .string (⟨#[]⟩ : ByteArray)]) ?_ 4 _ rfl; (with_reducible repeat (first | refine blk_drewN ?_ _ | refine blk_drew ?_ | refine blk_alloc ?_ _)); refine blk_put (cs := #[.int .i64 t176, .int .i64 t177, .bool t178, .bool false, .int .i64 0, .int .i64 0, .int .i64 0, .int .u32 0, .int .u32 0, .string (⟨#[]⟩ : ByteArray)]) ?_ 3 _ rfl; (with_reducible repeat (first | refine blk_drewN ?_ _ | refine blk_drew ?_ | refine blk_alloc ?_ _)); refine blk_put (cs := #[.int .i64 t176, .int .i64 t177, .bool false, .bool false, .int .i64 0, .int .i64 0, .int .i64 0, .int .u32 0, .int .u32 0, .string (⟨#[]⟩ : ByteArray)]) ?_ 2 _ rfl; (with_reducible repeat (first | refine blk_drewN ?_ _ | refine blk_drew ?_ | refine blk_alloc ?_ _)); refine blk_put (cs := #[.int .i64 t176, .int .i64 0, .bool false, .bool false, .int .i64 0, .int .i64 0, .int .i64 0, .int .u32 0, .int .u32 0, .string (⟨#[]⟩ : ByteArray)]) ?_ 1 _ rfl; (with_reducible repeat (first | refine blk_drewN ?_ _ | refine blk_drew ?_ | refine blk_alloc ?_ _)); refine blk_put (cs := #[.int .i64 0, .int .i64 0, .bool false, .bool false, .int .i64 0, .int .i64 0, .int .i64 0, .int .u32 0, .int .u32 0, .string (⟨#[]⟩ : ByteArray)]) ?_ 0 _ rfl; (with_reducible repeat (first | refine blk_drewN ?_ _ | refine blk_drew ?_ | refine blk_alloc ?_ _)); exact BK188.out) hb); have n2_ := Aside0.mk (below_step (by repeat (first | (with_reducible first | exact HB.out | apply below_alloc | apply pw_below_drewN | apply below_drew1 | refine below_set ?_ GE170.out | refine below_set ?_ GE188.out) | exact HB.out)) hb); clear BK170; clear BK188; clear HB; have BK170 := n0_; have BK188 := n1_; have HB := n2_; clear n0_ n1_ n2_; (try clear hb); (try clear hb2); (try clear hk); (try clear hi)))
         go_meet
         case rel => exact ⟨_, (true), (by first | rfl | (simp; done) | (simp [*]; done)), H', ⟨by have := HJ4.out; first | omega | exact Nat.le_refl _⟩, ⟨by (with_reducible repeat (first | refine blk_drewN ?_ _ | refine blk_drew ?_ | refine blk_alloc ?_ _)); exact BK170.out⟩, ⟨by (with_reducible repeat (first | refine blk_drewN ?_ _ | refine blk_drew ?_ | refine blk_alloc ?_ _)); exact BK188.out⟩, ⟨by repeat (first | (with_reducible first | exact HB.out | apply below_alloc | apply pw_below_drewN | apply below_drew1 | refine below_set ?_ GE170.out | refine below_set ?_ GE188.out) | exact HB.out)⟩⟩
       ·
        rw [if_neg c26] at H
        have c26b0 : (t187 == 0) = false := beq_eq_false_iff_ne.mpr c26
        have c26b1 : (t187 != 0) = true := bne_iff_ne.mpr c26
        (first | rw [c26b0] | (simp only [i64_w, i32_w]; rw [c26b0]) | skip)
        have H' := Aside0.mk H
        clear H
        go_wp2
        go_meet
        case rel => exact ⟨_, (true), (by first | rfl | (simp; done) | (simp [*]; done)), H', ⟨by have := HJ4.out; first | omega | exact Nat.le_refl _⟩, ⟨by (with_reducible repeat (first | refine blk_drewN ?_ _ | refine blk_drew ?_ | refine blk_alloc ?_ _)); refine blk_far ?_ NB170_188.out _; (with_reducible repeat (first | refine blk_drewN ?_ _ | refine blk_drew ?_ | refine blk_alloc ?_ _)); refine blk_far ?_ NB170_188.out _; (with_reducible repeat (first | refine blk_drewN ?_ _ | refine blk_drew ?_ | refine blk_alloc ?_ _)); refine blk_far ?_ NB170_188.out _; (with_reducible repeat (first | refine blk_drewN ?_ _ | refine blk_drew ?_ | refine blk_alloc ?_ _)); refine blk_far ?_ NB170_188.out _; (with_reducible repeat (first | refine blk_drewN ?_ _ | refine blk_drew ?_ | refine blk_alloc ?_ _)); refine blk_far ?_ NB170_188.out _; (with_reducible repeat (first | refine blk_drewN ?_ _ | refine blk_drew ?_ | refine blk_alloc ?_ _)); refine blk_far ?_ NB170_188.out _; (with_reducible repeat (first | refine blk_drewN ?_ _ | refine blk_drew ?_ | refine blk_alloc ?_ _)); refine blk_far ?_ NB170_188.out _; (with_reducible repeat (first | refine blk_drewN ?_ _ | refine blk_drew ?_ | refine blk_alloc ?_ _)); refine blk_far ?_ NB170_188.out _; (with_reducible repeat (first | refine blk_drewN ?_ _ | refine blk_drew ?_ | refine blk_alloc ?_ _)); refine blk_far ?_ NB170_188.out _; (with_reducible repeat (first | refine blk_drewN ?_ _ | refine blk_drew ?_ | refine blk_alloc ?_ _)); refine blk_far ?_ NB170_188.out _; (with_reducible repeat (first | refine blk_drewN ?_ _ | refine blk_drew ?_ | refine blk_alloc ?_ _)); exact BK170.out⟩, ⟨by (with_reducible repeat (first | refine blk_drewN ?_ _ | refine blk_drew ?_ | refine blk_alloc ?_ _)); refine blk_put (cs := #[.int .i64 t176, .int .i64 t177, .bool t178, .bool t179, .int .i64 t180, .int .i64 t181, .int .i64 t182, .int .u32 t183, .int .u32 t184, .string (⟨#[]⟩ : ByteArray)]) ?_ 9 _ rfl; (with_reducible repeat (first | refine blk_drewN ?_ _ | refine blk_drew ?_ | refine blk_alloc ?_ _)); refine blk_put (cs := #[.int .i64 t176, .int .i64 t177, .bool t178, .bool t179, .int .i64 t180, .int .i64 t181, .int .i64 t182, .int .u32 t183, .int .u32 0, .string (⟨#[]⟩ : ByteArray)]) ?_ 8 _ rfl; (with_reducible repeat (first | refine blk_drewN ?_ _ | refine blk_drew ?_ | refine blk_alloc ?_ _)); refine blk_put (cs := #[.int .i64 t176, .int .i64 t177, .bool t178, .bool t179, .int .i64 t180, .int .i64 t181, .int .i64 t182, .int .u32 0, .int .u32 0, .string (⟨#[]⟩ : ByteArray)]) ?_ 7 _ rfl; (with_reducible repeat (first | refine blk_drewN ?_ _ | refine blk_drew ?_ | refine blk_alloc ?_ _)); refine blk_put (cs := #[.int .i64 t176, .int .i64 t177, .bool t178, .bool t179, .int .i64 t180, .int .i64 t181, .int .i64 0, .int .u32 0, .int .u32 0, .string (⟨#[]⟩ : ByteArray)]) ?_ 6 _ rfl; (with_reducible repeat (first | refine blk_drewN ?_ _ | refine blk_drew ?_ | refine blk_alloc ?_ _)); refine blk_put (cs := #[.int .i64 t176, .int .i64 t177, .bool t178, .bool t179, .int .i64 t180, .int .i64 0, .int .i64 0, .int .u32 0, .int .u32 0, .string (⟨#[]⟩ : ByteArray)]) ?_ 5 _ rfl; (with_reducible repeat (first | refine blk_drewN ?_ _ | refine blk_drew ?_ | refine blk_alloc ?_ _)); refine blk_put (cs := #[.int .i64 t176, .int .i64 t177, .bool t178, .bool t179, .int .i64 0, .int .i64 0, .int .i64 0, .int .u32 0, .int .u32 0, .string (⟨#[]⟩ : ByteArray)]) ?_ 4 _ rfl; (with_reducible repeat (first | refine blk_drewN ?_ _ | refine blk_drew ?_ | refine blk_alloc ?_ _)); refine blk_put (cs := #[.int .i64 t176, .int .i64 t177, .bool t178, .bool false, .int .i64 0, .int .i64 0, .int .i64 0, .int .u32 0, .int .u32 0, .string (⟨#[]⟩ : ByteArray)]) ?_ 3 _ rfl; (with_reducible repeat (first | refine blk_drewN ?_ _ | refine blk_drew ?_ | refine blk_alloc ?_ _)); refine blk_put (cs := #[.int .i64 t176, .int .i64 t177, .bool false, .bool false, .int .i64 0, .int .i64 0, .int .i64 0, .int .u32 0, .int .u32 0, .string (⟨#[]⟩ : ByteArray)]) ?_ 2 _ rfl; (with_reducible repeat (first | refine blk_drewN ?_ _ | refine blk_drew ?_ | refine blk_alloc ?_ _)); refine blk_put (cs := #[.int .i64 t176, .int .i64 0, .bool false, .bool false, .int .i64 0, .int .i64 0, .int .i64 0, .int .u32 0, .int .u32 0, .string (⟨#[]⟩ : ByteArray)]) ?_ 1 _ rfl; (with_reducible repeat (first | refine blk_drewN ?_ _ | refine blk_drew ?_ | refine blk_alloc ?_ _)); refine blk_put (cs := #[.int .i64 0, .int .i64 0, .bool false, .bool false, .int .i64 0, .int .i64 0, .int .i64 0, .int .u32 0, .int .u32 0, .string (⟨#[]⟩ : ByteArray)]) ?_ 0 _ rfl; (with_reducible repeat (first | refine blk_drewN ?_ _ | refine blk_drew ?_ | refine blk_alloc ?_ _)); exact BK188.out⟩, ⟨by repeat (first | (with_reducible first | exact HB.out | apply below_alloc | apply pw_below_drewN | apply below_drew1 | refine below_set ?_ GE170.out | refine below_set ?_ GE188.out) | exact HB.out)⟩⟩
      case rest =>
       clear HC19
       try clear c1
       try clear c2
       try clear p2
       try clear c3
       try clear c4
       try clear p6
       try clear c7
       try clear c7b0
       try clear c7b1
       try clear c9
       try clear c9b0
       try clear c9b1
       try clear c12
       try clear c15
       try clear c16
       try clear c16b0
       try clear c16b1
       try clear c17
       try clear c17b0
       try clear c17b1
       try clear c17b2
       try clear c18
       try clear c24
       try clear c26
       try clear c26b0
       try clear c26b1
       try clear c28
       try clear c29
       try clear c29b0
       try clear c29b1
       try clear c30
       try clear c35
       try clear c39
       try clear hcz10_0
       try clear hcz10_1
       try clear hcz10_2
       try clear hcz10_3
       try clear hcz10_4
       try clear hcz10_5
       try clear hcz10_6
       try clear hcz10_7
       try clear hcz10_8
       try clear hcz10_9
       try clear hcz11_0
       try clear hcz11_1
       try clear hcz11_2
       try clear hcz11_3
       try clear hcz11_4
       try clear hcz11_5
       try clear hcz11_6
       try clear hcz11_7
       try clear hcz11_8
       try clear hcz11_9
       try clear hcz20_0
       try clear hcz20_1
       try clear hcz20_2
       try clear hcz20_3
       try clear hcz20_4
       try clear hcz20_5
       try clear hcz20_6
       try clear hcz20_7
       try clear hcz20_8
       try clear hcz20_9
       try clear hcz25_0
       try clear hcz25_1
       try clear hcz25_2
       try clear hcz25_3
       try clear hcz25_4
       try clear hcz25_5
       try clear hcz25_6
       try clear hcz25_7
       try clear hcz25_8
       try clear hcz25_9
       try clear hcz31_0
       try clear hcz31_1
       try clear hcz31_2
       try clear hcz31_3
       try clear hcz31_4
       try clear hcz31_5
       try clear hcz31_6
       try clear hcz31_7
       try clear hcz31_8
       try clear hcz31_9
       try clear hcz32_0
       try clear hcz32_1
       try clear hcz32_2
       try clear hcz32_3
       try clear hcz32_4
       try clear hcz32_5
       try clear hcz32_6
       try clear hcz32_7
       try clear hcz32_8
       try clear hcz32_9
       try clear hcz34_0
       try clear hcz34_1
       try clear hcz34_2
       try clear hcz34_3
       try clear hcz34_4
       try clear hcz34_5
       try clear hcz34_6
       try clear hcz34_7
       try clear hcz34_8
       try clear hcz34_9
       try clear hcz36_0
       try clear hcz36_1
       try clear hcz36_2
       try clear hcz36_3
       try clear hcz36_4
       try clear hcz36_5
       try clear hcz36_6
       try clear hcz36_7
       try clear hcz36_8
       try clear hcz36_9
       try clear hcz37_0
       try clear hcz37_1
       try clear hcz37_2
       try clear hcz37_3
       try clear hcz37_4
       try clear hcz37_5
       try clear hcz37_6
       try clear hcz37_7
       try clear hcz37_8
       try clear hcz37_9
       try clear hcz40_0
       try clear hcz40_1
       try clear hcz40_2
       try clear hcz40_3
       try clear hcz40_4
       try clear hcz40_5
       try clear hcz40_6
       try clear hcz40_7
       try clear hcz40_8
       try clear hcz40_9
       try clear hcz41_0
       try clear hcz41_1
       try clear hcz41_2
       try clear hcz41_3
       try clear hcz41_4
       try clear hcz41_5
       try clear hcz41_6
       try clear hcz41_7
       try clear hcz41_8
       try clear hcz41_9
       try clear hcz8_0
       try clear hcz8_1
       try clear hcz8_2
       try clear hcz8_3
       try clear hcz8_4
       try clear hcz8_5
       try clear hcz8_6
       try clear hcz8_7
       try clear hcz8_8
       try clear hcz8_9
       try clear hfz10_0
       try clear hfz10_1
       try clear hfz10_2
       try clear hfz10_3
       try clear hfz10_4
       try clear hfz10_5
       try clear hfz10_6
       try clear hfz10_7
       try clear hfz10_8
       try clear hfz10_9
       try clear hfz11_0
       try clear hfz11_1
       try clear hfz11_2
       try clear hfz11_3
       try clear hfz11_4
       try clear hfz11_5
       try clear hfz11_6
       try clear hfz11_7
       try clear hfz11_8
       try clear hfz11_9
       try clear hfz20_0
       try clear hfz20_1
       try clear hfz20_2
       try clear hfz20_3
       try clear hfz20_4
       try clear hfz20_5
       try clear hfz20_6
       try clear hfz20_7
       try clear hfz20_8
       try clear hfz20_9
       try clear hfz25_0
       try clear hfz25_1
       try clear hfz25_2
       try clear hfz25_3
       try clear hfz25_4
       try clear hfz25_5
       try clear hfz25_6
       try clear hfz25_7
       try clear hfz25_8
       try clear hfz25_9
       try clear hfz31_0
       try clear hfz31_1
       try clear hfz31_2
       try clear hfz31_3
       try clear hfz31_4
       try clear hfz31_5
       try clear hfz31_6
       try clear hfz31_7
       try clear hfz31_8
       try clear hfz31_9
       try clear hfz32_0
       try clear hfz32_1
       try clear hfz32_2
       try clear hfz32_3
       try clear hfz32_4
       try clear hfz32_5
       try clear hfz32_6
       try clear hfz32_7
       try clear hfz32_8
       try clear hfz32_9
       try clear hfz34_0
       try clear hfz34_1
       try clear hfz34_2
       try clear hfz34_3
       try clear hfz34_4
       try clear hfz34_5
       try clear hfz34_6
       try clear hfz34_7
       try clear hfz34_8
       try clear hfz34_9
       try clear hfz36_0
       try clear hfz36_1
       try clear hfz36_2
       try clear hfz36_3
       try clear hfz36_4
       try clear hfz36_5
       try clear hfz36_6
       try clear hfz36_7
       try clear hfz36_8
       try clear hfz36_9
       try clear hfz37_0
       try clear hfz37_1
       try clear hfz37_2
       try clear hfz37_3
       try clear hfz37_4
       try clear hfz37_5
       try clear hfz37_6
       try clear hfz37_7
       try clear hfz37_8
       try clear hfz37_9
       try clear hfz40_0
       try clear hfz40_1
       try clear hfz40_2
       try clear hfz40_3
       try clear hfz40_4
       try clear hfz40_5
       try clear hfz40_6
       try clear hfz40_7
       try clear hfz40_8
       try clear hfz40_9
       try clear hfz41_0
       try clear hfz41_1
       try clear hfz41_2
       try clear hfz41_3
       try clear hfz41_4
       try clear hfz41_5
       try clear hfz41_6
       try clear hfz41_7
       try clear hfz41_8
       try clear hfz41_9
       try clear hfz8_0
       try clear hfz8_1
       try clear hfz8_2
       try clear hfz8_3
       try clear hfz8_4
       try clear hfz8_5
       try clear hfz8_6
       try clear hfz8_7
       try clear hfz8_8
       try clear hfz8_9
       try clear p2
       obtain ⟨kq, x90_18, rfl, HA, HJ18, BK170, BK188, HB⟩ := hcut
       cases kq with
       | zero => exact absurd HA.out (by simp [rampartlaw03_Ipv4Back.j1])
       | succ kj18 =>
        have H := HA.out
        clear HA
        simp only [rampartlaw03_Ipv4Back.j1] at H
        by_cases c43 : x90_18 = true
        ·
         subst c43
         have H1 : (some false) = some r := by rw [if_pos rfl] at H; exact H
         clear H
         have H := H1
         clear H1
         exact absurd ((Option.some.inj H).trans HR.out) (by decide)
        ·
         replace c43 := Bool.eq_false_iff.mpr c43
         subst c43
         have H1 : ((rampartlaw00_Place.f a3 (wrap64 (8 * (wrap64 (20 + (a0_9.size : Int)))))).bind fun t190 => (if 0 ≤ (wrap64 (Int.tdiv t190 8)) then (if (wrap64 (Int.tdiv t190 8)) < (t172.size : Int) then (if 0 ≤ (IntKind.u64.wrap (Int.tmod t190 8)) then ((gosem_cut_init.f t172 (wrap64 (Int.tdiv t190 8)) (Go.bits .xor .u8 (bt t172 (wrap64 (Int.tdiv t190 8))) (shl .u8 1 (IntKind.u64.wrap (Int.tmod t190 8))))).bind fun t191 => ((ipv4_Get.f kj18 t191).bind fun bt192 => ((rampartlaw00_Place.f a3 (t172.size : Int)).bind fun t205 => (if 0 ≤ t205 then (if t205 ≤ (t172.size : Int) then ((ipv4_Get.f kj18 (t172.extract 0 (t205 : Int).toNat)).bind fun bt206 => (if bt192.2.2.2.2.2.2.2.2.2.2.2 = 0 then (if t190 < 8 then (if bt206.2.2.2.2.2.2.2.2.2.2.2 = 0 then (some false) else ((rampartlaw03_awake.f kj18).bind fun t219 => (some t219))) else (some false)) else (if bt206.2.2.2.2.2.2.2.2.2.2.2 = 0 then (some false) else ((rampartlaw03_awake.f kj18).bind fun t220 => (some t220))))) else (none)) else (none))))) else (none)) else (none)) else (none))) = some r := by rw [if_neg (show ¬ (false = true) by decide)] at H; exact H
         clear H
         have H := H1
         clear H1
         replace H := Option.bind_eq_some_iff.mp H
         obtain ⟨t190, A440, H⟩ := H
         replace H : (if 0 ≤ (wrap64 (Int.tdiv t190 8)) then (if (wrap64 (Int.tdiv t190 8)) < (t172.size : Int) then (if 0 ≤ (IntKind.u64.wrap (Int.tmod t190 8)) then ((gosem_cut_init.f t172 (wrap64 (Int.tdiv t190 8)) (Go.bits .xor .u8 (bt t172 (wrap64 (Int.tdiv t190 8))) (shl .u8 1 (IntKind.u64.wrap (Int.tmod t190 8))))).bind fun t191 => ((ipv4_Get.f kj18 t191).bind fun bt192 => ((rampartlaw00_Place.f a3 (t172.size : Int)).bind fun t205 => (if 0 ≤ t205 then (if t205 ≤ (t172.size : Int) then ((ipv4_Get.f kj18 (t172.extract 0 (t205 : Int).toNat)).bind fun bt206 => (if bt192.2.2.2.2.2.2.2.2.2.2.2 = 0 then (if t190 < 8 then (if bt206.2.2.2.2.2.2.2.2.2.2.2 = 0 then (some false) else ((rampartlaw03_awake.f kj18).bind fun t219 => (some t219))) else (some false)) else (if bt206.2.2.2.2.2.2.2.2.2.2.2 = 0 then (some false) else ((rampartlaw03_awake.f kj18).bind fun t220 => (some t220))))) else (none)) else (none))))) else (none)) else (none)) else (none)) = some r := H
         have A44 := Aside0.mk A440
         clear A440
         obtain ⟨ji45, hji45⟩ : ∃ j_ : Int, (wrap64 (Int.tdiv t190 8)) = j_ := ⟨_, rfl⟩
         replace H : (if 0 ≤ (ji45) then (if (ji45) < (t172.size : Int) then (if 0 ≤ (IntKind.u64.wrap (Int.tmod t190 8)) then ((gosem_cut_init.f t172 (ji45) (Go.bits .xor .u8 (bt t172 (ji45)) (shl .u8 1 (IntKind.u64.wrap (Int.tmod t190 8))))).bind fun t191 => ((ipv4_Get.f kj18 t191).bind fun bt192 => ((rampartlaw00_Place.f a3 (t172.size : Int)).bind fun t205 => (if 0 ≤ t205 then (if t205 ≤ (t172.size : Int) then ((ipv4_Get.f kj18 (t172.extract 0 (t205 : Int).toNat)).bind fun bt206 => (if bt192.2.2.2.2.2.2.2.2.2.2.2 = 0 then (if t190 < 8 then (if bt206.2.2.2.2.2.2.2.2.2.2.2 = 0 then (some false) else ((rampartlaw03_awake.f kj18).bind fun t219 => (some t219))) else (some false)) else (if bt206.2.2.2.2.2.2.2.2.2.2.2 = 0 then (some false) else ((rampartlaw03_awake.f kj18).bind fun t220 => (some t220))))) else (none)) else (none))))) else (none)) else (none)) else (none)) = some r := by first | (rw [hji45] at H; exact H) | (simp only [hji45] at H ⊢; exact H)
         (try rw [hji45] at A44)
         have hji45w : (IntKind.i64.wrap (Int.tdiv t190 8)) = ji45 := (i64_w _).trans hji45
         by_cases c46 : 0 ≤ (ji45)
         ·
          rw [if_pos c46] at H
          have c46b0 : decide (0 ≤ (ji45)) = true := decide_eq_true c46
          clear c46
          by_cases c47 : (ji45) < (t172.size : Int)
          ·
           rw [if_pos c47] at H
           have c47b0 : decide ((ji45) < (t172.size : Int)) = true := decide_eq_true c47
           clear c47
           obtain ⟨ji49, hji49⟩ : ∃ j_ : Int, (IntKind.u64.wrap (Int.tmod t190 8)) = j_ := ⟨_, rfl⟩
           replace H : (if 0 ≤ (ji49) then ((gosem_cut_init.f t172 (ji45) (Go.bits .xor .u8 (bt t172 (ji45)) (shl .u8 1 (ji49)))).bind fun t191 => ((ipv4_Get.f kj18 t191).bind fun bt192 => ((rampartlaw00_Place.f a3 (t172.size : Int)).bind fun t205 => (if 0 ≤ t205 then (if t205 ≤ (t172.size : Int) then ((ipv4_Get.f kj18 (t172.extract 0 (t205 : Int).toNat)).bind fun bt206 => (if bt192.2.2.2.2.2.2.2.2.2.2.2 = 0 then (if t190 < 8 then (if bt206.2.2.2.2.2.2.2.2.2.2.2 = 0 then (some false) else ((rampartlaw03_awake.f kj18).bind fun t219 => (some t219))) else (some false)) else (if bt206.2.2.2.2.2.2.2.2.2.2.2 = 0 then (some false) else ((rampartlaw03_awake.f kj18).bind fun t220 => (some t220))))) else (none)) else (none))))) else (none)) = some r := by first | (rw [hji49] at H; exact H) | (simp only [hji49] at H ⊢; exact H)
           (try rw [hji49] at A44)
           by_cases c50 : 0 ≤ (ji49)
           ·
            rw [if_pos c50] at H
            have c50b0 := eq_true c50
            have c50b1 : decide (0 ≤ (ji49)) = true := decide_eq_true c50
            clear c50
            obtain ⟨ji51, hji51⟩ : ∃ j_ : Int, (shl .u8 1 (ji49)) = j_ := ⟨_, rfl⟩
            replace H : ((gosem_cut_init.f t172 (ji45) (Go.bits .xor .u8 (bt t172 (ji45)) (ji51))).bind fun t191 => ((ipv4_Get.f kj18 t191).bind fun bt192 => ((rampartlaw00_Place.f a3 (t172.size : Int)).bind fun t205 => (if 0 ≤ t205 then (if t205 ≤ (t172.size : Int) then ((ipv4_Get.f kj18 (t172.extract 0 (t205 : Int).toNat)).bind fun bt206 => (if bt192.2.2.2.2.2.2.2.2.2.2.2 = 0 then (if t190 < 8 then (if bt206.2.2.2.2.2.2.2.2.2.2.2 = 0 then (some false) else ((rampartlaw03_awake.f kj18).bind fun t219 => (some t219))) else (some false)) else (if bt206.2.2.2.2.2.2.2.2.2.2.2 = 0 then (some false) else ((rampartlaw03_awake.f kj18).bind fun t220 => (some t220))))) else (none)) else (none))))) = some r := by first | (rw [hji51] at H; exact H) | (simp only [hji51] at H ⊢; exact H)
            (try rw [hji51] at A44)
            have hji51_ : (IntKind.u8.wrap (1 * 2 ^ min (ji49).toNat 8)) = ji51 := hji51
            have hji51z : (ji49) ≤ 8 → (IntKind.u8.wrap (1 * 2 ^ (ji49).toNat)) = ji51 := shl_small hji51
            have hji51u : (IntKind.u8.wrap (2 ^ min (ji49).toNat 8)) = ji51 := by have h_ := hji51_; rw [Int.one_mul] at h_; exact h_
            have hji51v : (ji49) ≤ 8 → (IntKind.u8.wrap (2 ^ (ji49).toNat)) = ji51 := fun hle_ => by have h_ := hji51z hle_; rw [Int.one_mul] at h_; exact h_
            replace H := Option.bind_eq_some_iff.mp H
            obtain ⟨t191, A520, H⟩ := H
            replace H : ((ipv4_Get.f kj18 t191).bind fun bt192 => ((rampartlaw00_Place.f a3 (t172.size : Int)).bind fun t205 => (if 0 ≤ t205 then (if t205 ≤ (t172.size : Int) then ((ipv4_Get.f kj18 (t172.extract 0 (t205 : Int).toNat)).bind fun bt206 => (if bt192.2.2.2.2.2.2.2.2.2.2.2 = 0 then (if t190 < 8 then (if bt206.2.2.2.2.2.2.2.2.2.2.2 = 0 then (some false) else ((rampartlaw03_awake.f kj18).bind fun t219 => (some t219))) else (some false)) else (if bt206.2.2.2.2.2.2.2.2.2.2.2 = 0 then (some false) else ((rampartlaw03_awake.f kj18).bind fun t220 => (some t220))))) else (none)) else (none)))) = some r := H
            have A52 := Aside0.mk A520
            clear A520
            replace H := Option.bind_eq_some_iff.mp H
            obtain ⟨⟨t192, t193, t194, t195, t196, t197, t198, t199, t200, t201, t202, t203⟩, A530, H⟩ := H
            replace H : ((rampartlaw00_Place.f a3 (t172.size : Int)).bind fun t205 => (if 0 ≤ t205 then (if t205 ≤ (t172.size : Int) then ((ipv4_Get.f kj18 (t172.extract 0 (t205 : Int).toNat)).bind fun bt206 => (if t203 = 0 then (if t190 < 8 then (if bt206.2.2.2.2.2.2.2.2.2.2.2 = 0 then (some false) else ((rampartlaw03_awake.f kj18).bind fun t219 => (some t219))) else (some false)) else (if bt206.2.2.2.2.2.2.2.2.2.2.2 = 0 then (some false) else ((rampartlaw03_awake.f kj18).bind fun t220 => (some t220))))) else (none)) else (none))) = some r := H
            have A53 := Aside0.mk A530
            clear A530
            replace H := Option.bind_eq_some_iff.mp H
            obtain ⟨t205, A540, H⟩ := H
            replace H : (if 0 ≤ t205 then (if t205 ≤ (t172.size : Int) then ((ipv4_Get.f kj18 (t172.extract 0 (t205 : Int).toNat)).bind fun bt206 => (if t203 = 0 then (if t190 < 8 then (if bt206.2.2.2.2.2.2.2.2.2.2.2 = 0 then (some false) else ((rampartlaw03_awake.f kj18).bind fun t219 => (some t219))) else (some false)) else (if bt206.2.2.2.2.2.2.2.2.2.2.2 = 0 then (some false) else ((rampartlaw03_awake.f kj18).bind fun t220 => (some t220))))) else (none)) else (none)) = some r := H
            have A54 := Aside0.mk A540
            clear A540
            by_cases c55 : 0 ≤ t205
            ·
             rw [if_pos c55] at H
             have c55b0 := eq_true c55
             have c55b1 : decide (0 ≤ t205) = true := decide_eq_true c55
             clear c55
             by_cases c56 : t205 ≤ (t172.size : Int)
             ·
              rw [if_pos c56] at H
              have c56b0 := eq_true c56
              have c56b1 : decide (t205 ≤ (t172.size : Int)) = true := decide_eq_true c56
              clear c56
              replace H := Option.bind_eq_some_iff.mp H
              obtain ⟨⟨t206, t207, t208, t209, t210, t211, t212, t213, t214, t215, t216, t217⟩, A570, H⟩ := H
              replace H : (if t203 = 0 then (if t190 < 8 then (if t217 = 0 then (some false) else ((rampartlaw03_awake.f kj18).bind fun t219 => (some t219))) else (some false)) else (if t217 = 0 then (some false) else ((rampartlaw03_awake.f kj18).bind fun t220 => (some t220)))) = some r := H
              have A57 := Aside0.mk A570
              clear A570
              by_cases c58 : t203 = 0
              ·
               rw [if_pos c58] at H
               have c58b0 : (t203 == 0) = true := beq_iff_eq.mpr c58
               have c58b1 : (t203 != 0) = false := bne_eq_false_iff_eq.mpr c58
               clear c58
               by_cases c59 : t190 < 8
               ·
                rw [if_pos c59] at H
                have c59b0 : decide (t190 < 8) = true := decide_eq_true c59
                clear c59
                by_cases c60 : t217 = 0
                ·
                 rw [if_pos c60] at H
                 have c60b0 : (t217 == 0) = true := beq_iff_eq.mpr c60
                 have c60b1 : (t217 != 0) = false := bne_eq_false_iff_eq.mpr c60
                 clear c60
                 exact absurd ((Option.some.inj H).trans HR.out) (by decide)
                ·
                 rw [if_neg c60] at H
                 have c60b0 : (t217 == 0) = false := beq_eq_false_iff_ne.mpr c60
                 have c60b1 : (t217 != 0) = true := bne_iff_ne.mpr c60
                 replace H := Option.bind_eq_some_iff.mp H
                 obtain ⟨t219, A610, H⟩ := H
                 replace H : (some t219) = some r := H
                 have A61 := Aside0.mk A610
                 clear A610
                 obtain rfl := Option.some.inj H
                 have hnb62 := NB170_188.out
                 have hnc62 := NB188_170.out
                 have hcz63_0 : wc.cell? ⟨gb170, 0, none⟩ = some (.int .i64 a0_0) := (blk_cell BK170.out 0).trans rfl
                 have hcz63_1 : wc.cell? ⟨gb170, 1, none⟩ = some (.int .i64 a0_1) := (blk_cell BK170.out 1).trans rfl
                 have hcz63_2 : wc.cell? ⟨gb170, 2, none⟩ = some (.bool a0_2) := (blk_cell BK170.out 2).trans rfl
                 have hcz63_3 : wc.cell? ⟨gb170, 3, none⟩ = some (.bool a0_3) := (blk_cell BK170.out 3).trans rfl
                 have hcz63_4 : wc.cell? ⟨gb170, 4, none⟩ = some (.int .i64 a0_4) := (blk_cell BK170.out 4).trans rfl
                 have hcz63_5 : wc.cell? ⟨gb170, 5, none⟩ = some (.int .i64 a0_5) := (blk_cell BK170.out 5).trans rfl
                 have hcz63_6 : wc.cell? ⟨gb170, 6, none⟩ = some (.int .i64 a0_6) := (blk_cell BK170.out 6).trans rfl
                 have hcz63_7 : wc.cell? ⟨gb170, 7, none⟩ = some (.int .u32 a0_7) := (blk_cell BK170.out 7).trans rfl
                 have hcz63_8 : wc.cell? ⟨gb170, 8, none⟩ = some (.int .u32 a0_8) := (blk_cell BK170.out 8).trans rfl
                 have hcz63_9 : wc.cell? ⟨gb170, 9, none⟩ = some (.string a0_9) := (blk_cell BK170.out 9).trans rfl
                 have hfz63_0 := blk_frozen BK170.out 0
                 have hfz63_1 := blk_frozen BK170.out 1
                 have hfz63_2 := blk_frozen BK170.out 2
                 have hfz63_3 := blk_frozen BK170.out 3
                 have hfz63_4 := blk_frozen BK170.out 4
                 have hfz63_5 := blk_frozen BK170.out 5
                 have hfz63_6 := blk_frozen BK170.out 6
                 have hfz63_7 := blk_frozen BK170.out 7
                 have hfz63_8 := blk_frozen BK170.out 8
                 have hfz63_9 := blk_frozen BK170.out 9
                 have hconv8 := fun (s : ByteArray) (w : World) => Lib.run_convert_string_bytes (P := Try.prog) w 9 34 5 s Try.underlying9 Try.underlying34 Try.underlying5
                 go_wp2_with (first | ((with_reducible refine gate_dst (N := 92) rfl ?_); refine conv_event ?hg (N := 92) ?hd (s := t172) ?hr ?_; (case hd => rfl); (case hg => rfl); (case hr => first | (go_simp; done) | (go_simp; rfl)); intro g8 hg8 c8 w8 hrow8 hb8; have BB := Aside0.mk hrow8; have BL := Aside0.mk hb8; have GG := Aside0.mk (show wc.heap.size ≤ g8 from Nat.le_of_eq hg8.symm); clear hrow8 hg8 hb8; have h8_0 : w8.cell? ⟨gb170, 0, none⟩ = some (.int .i64 a0_0) := (blk_cell (blk_below BK170.out BL.out) 0).trans rfl; have h8_1 : w8.cell? ⟨gb170, 1, none⟩ = some (.int .i64 a0_1) := (blk_cell (blk_below BK170.out BL.out) 1).trans rfl; have h8_2 : w8.cell? ⟨gb170, 2, none⟩ = some (.bool a0_2) := (blk_cell (blk_below BK170.out BL.out) 2).trans rfl; have h8_3 : w8.cell? ⟨gb170, 3, none⟩ = some (.bool a0_3) := (blk_cell (blk_below BK170.out BL.out) 3).trans rfl; have h8_4 : w8.cell? ⟨gb170, 4, none⟩ = some (.int .i64 a0_4) := (blk_cell (blk_below BK170.out BL.out) 4).trans rfl; have h8_5 : w8.cell? ⟨gb170, 5, none⟩ = some (.int .i64 a0_5) := (blk_cell (blk_below BK170.out BL.out) 5).trans rfl; have h8_6 : w8.cell? ⟨gb170, 6, none⟩ = some (.int .i64 a0_6) := (blk_cell (blk_below BK170.out BL.out) 6).trans rfl; have h8_7 : w8.cell? ⟨gb170, 7, none⟩ = some (.int .u32 a0_7) := (blk_cell (blk_below BK170.out BL.out) 7).trans rfl; have h8_8 : w8.cell? ⟨gb170, 8, none⟩ = some (.int .u32 a0_8) := (blk_cell (blk_below BK170.out BL.out) 8).trans rfl; have h8_9 : w8.cell? ⟨gb170, 9, none⟩ = some (.string a0_9) := (blk_cell (blk_below BK170.out BL.out) 9).trans rfl;  skip) | ((with_reducible refine gate_callee (f := 23) rfl ?_); refine goesL_ (some 99) rfl rfl Try.func23 (by kernel_rfl) rfl #[.int .i64 a3, .int .i64 (wrap64 (8 * (wrap64 (20 + (a0_9.size : Int)))))] rfl (by (try simp only [List.map_toArray, List.map_cons, List.map_nil]); first | done | rfl | (simp only [List.length_drop, List.length_take]; rfl)) ?_; (with_reducible refine (rampartlaw00_Place.calls a3 (wrap64 (8 * (wrap64 (20 + (a0_9.size : Int))))) t190 _ A44.out).mono ?_); rintro e w' ⟨rfl, ⟨nd, rfl⟩⟩; refine ⟨_, rfl, ?_⟩; (try (rw [drewN_self wc]; generalize hq_ : World.drewN wc _ = wc; have n0_ : Aside0 (wc.heap[gb170]? = some (.cells #[.int .i64 a0_0, .int .i64 a0_1, .bool a0_2, .bool a0_3, .int .i64 a0_4, .int .i64 a0_5, .int .i64 a0_6, .int .u32 a0_7, .int .u32 a0_8, .string a0_9] 24 (0, 0))) := ⟨by rw [← hq_]; exact (by (with_reducible repeat (first | refine blk_drewN ?_ _ | refine blk_drew ?_ | refine blk_alloc ?_ _)); exact BK170.out)⟩; have n1_ : Aside0 (wc.heap[gb188]? = some (.cells #[.int .i64 t176, .int .i64 t177, .bool t178, .bool t179, .int .i64 t180, .int .i64 t181, .int .i64 t182, .int .u32 t183, .int .u32 t184, .string t185] 24 (0, 0))) := ⟨by rw [← hq_]; exact (by (with_reducible repeat (first | refine blk_drewN ?_ _ | refine blk_drew ?_ | refine blk_alloc ?_ _)); exact BK188.out)⟩; have n2_ : Aside0 (Below w.heap.size w wc) := ⟨by rw [← hq_]; exact (by repeat (first | (with_reducible first | exact HB.out | apply below_alloc | apply pw_below_drewN | apply below_drew1 | refine below_set ?_ GE170.out | refine below_set ?_ GE188.out) | exact HB.out))⟩; clear BK170 BK188 HB hq_; have BK170 := n0_; have BK188 := n1_; have HB := n2_; clear n0_ n1_ n2_)); have p48 : 0 ≤ ((ji45) : Int) := of_decide_eq_true (by first | (with_reducible assumption) | assumption); have q48 : (ji45) < (t172.size : Int) := of_decide_eq_true (by first | (with_reducible assumption) | assumption); have hx48 := bt_at t172 (ji45); have B1_ := row8_drewN BB.out nd; have hc8 := row8_cell B1_ p48 q48; have hf8 := row8_frozen B1_ p48 q48; have BS := Aside0.mk (row8_set B1_ p48 q48 (v := (Go.bits .xor .u8 (bt t172 (ji45)) (ji51))) (bits8_range _ _ _).1 (bits8_range _ _ _).2); have NDW := Aside0.mk (rfl : World.drewN w8 nd = World.drewN w8 nd); clear B1_; replace p48 := eq_true p48; replace q48 := eq_true q48) | ((with_reducible refine gate_dst (N := 116) rfl ?_); have T8 := set_eq A52.out; have hback := fun cap => row8_back (P := Try.prog) (show Row8 _ g8 t191 by rw [T8]; exact BS.out) t172.size cap (by rw [T8, bset_size]) Try.underlying34 Try.underlying5 Try.underlying9; refine back_event ?hg (N := 116) ?hd (s := t191) ?hr ?_; (case hd => rfl); (case hg => rfl); (case hr => first | (go_simp; done) | (go_simp; rfl)); intro w64 hw8; have hb : Below wc.heap.size wc w64 := (by rw [hw8]; exact below_set (pw_below_drewN BL.out nd) GG.out); clear hw8 hback; have n0_ := Aside0.mk (blk_below (g := gb170) (o := .cells #[.int .i64 a0_0, .int .i64 a0_1, .bool a0_2, .bool a0_3, .int .i64 a0_4, .int .i64 a0_5, .int .i64 a0_6, .int .u32 a0_7, .int .u32 a0_8, .string a0_9] 24 (0, 0)) (by (with_reducible repeat (first | refine blk_drewN ?_ _ | refine blk_drew ?_ | refine blk_alloc ?_ _)); exact BK170.out) hb); have n1_ := Aside0.mk (blk_below (g := gb188) (o := .cells #[.int .i64 t176, .int .i64 t177, .bool t178, .bool t179, .int .i64 t180, .int .i64 t181, .int .i64 t182, .int .u32 t183, .int .u32 t184, .string t185] 24 (0, 0)) (by (with_reducible repeat (first | refine blk_drewN ?_ _ | refine blk_drew ?_ | refine blk_alloc ?_ _)); exact BK188.out) hb); have n2_ := Aside0.mk (below_step (by repeat (first | (with_reducible first | exact HB.out | apply below_alloc | apply pw_below_drewN | apply below_drew1 | refine below_set ?_ GE170.out | refine below_set ?_ GE188.out) | exact HB.out)) hb); clear BK170; clear BK188; clear HB; have BK170 := n0_; have BK188 := n1_; have HB := n2_; clear n0_ n1_ n2_; (try clear hb); (try clear hb2); (try clear hk); (try clear hi)) | ((with_reducible refine gate_callee (f := 18) rfl ?_); refine goesL_ (some 117) rfl rfl Try.func18 (by kernel_rfl) rfl #[.string t191] rfl (by (try simp only [List.map_toArray, List.map_cons, List.map_nil]); first | done | rfl | (simp only [List.length_drop, List.length_take]; rfl)) ?_; (with_reducible refine (ipv4_Get.calls kj18 t191 t192 t193 t194 t195 t196 t197 t198 t199 t200 t201 t202 t203 _ A53.out).mono ?_); rintro e w65 ⟨rfl, hb⟩; refine ⟨_, rfl, ?_⟩; have n0_ := Aside0.mk (blk_below (g := gb170) (o := .cells #[.int .i64 a0_0, .int .i64 a0_1, .bool a0_2, .bool a0_3, .int .i64 a0_4, .int .i64 a0_5, .int .i64 a0_6, .int .u32 a0_7, .int .u32 a0_8, .string a0_9] 24 (0, 0)) (by (with_reducible repeat (first | refine blk_drewN ?_ _ | refine blk_drew ?_ | refine blk_alloc ?_ _)); exact BK170.out) hb); have n1_ := Aside0.mk (blk_below (g := gb188) (o := .cells #[.int .i64 t176, .int .i64 t177, .bool t178, .bool t179, .int .i64 t180, .int .i64 t181, .int .i64 t182, .int .u32 t183, .int .u32 t184, .string t185] 24 (0, 0)) (by (with_reducible repeat (first | refine blk_drewN ?_ _ | refine blk_drew ?_ | refine blk_alloc ?_ _)); exact BK188.out) hb); have n2_ := Aside0.mk (below_step (by repeat (first | (with_reducible first | exact HB.out | apply below_alloc | apply pw_below_drewN | apply below_drew1 | refine below_set ?_ GE170.out | refine below_set ?_ GE188.out) | exact HB.out)) hb); clear BK170; clear BK188; clear HB; have BK170 := n0_; have BK188 := n1_; have HB := n2_; clear n0_ n1_ n2_; (try clear hb); (try clear hb2); (try clear hk); (try clear hi)) | ((with_reducible refine gate_dst (N := 16) rfl ?_); (try (refine gate_guard (by rfl) ?_; dsimp only)); refine box_event ?hg (N := 16) ?hd (cs := #[.int .i64 0, .int .i64 0, .bool false, .bool false, .int .i64 0, .int .i64 0, .int .i64 0, .int .u32 0, .int .u32 0, .string (⟨#[]⟩ : ByteArray)]) (t := 24) ?hr ?_; (case hd => rfl); (case hg => rfl); (case hr => first | (go_simp; done) | (go_simp; rfl)); intro gb204 hg w66 hbox hb; have n0_ := Aside0.mk (blk_below (g := gb170) (o := .cells #[.int .i64 a0_0, .int .i64 a0_1, .bool a0_2, .bool a0_3, .int .i64 a0_4, .int .i64 a0_5, .int .i64 a0_6, .int .u32 a0_7, .int .u32 a0_8, .string a0_9] 24 (0, 0)) (by (with_reducible repeat (first | refine blk_drewN ?_ _ | refine blk_drew ?_ | refine blk_alloc ?_ _)); exact BK170.out) hb); have n1_ := Aside0.mk (blk_below (g := gb188) (o := .cells #[.int .i64 t176, .int .i64 t177, .bool t178, .bool t179, .int .i64 t180, .int .i64 t181, .int .i64 t182, .int .u32 t183, .int .u32 t184, .string t185] 24 (0, 0)) (by (with_reducible repeat (first | refine blk_drewN ?_ _ | refine blk_drew ?_ | refine blk_alloc ?_ _)); exact BK188.out) hb); have n2_ := Aside0.mk (below_step (by repeat (first | (with_reducible first | exact HB.out | apply below_alloc | apply pw_below_drewN | apply below_drew1 | refine below_set ?_ GE170.out | refine below_set ?_ GE188.out) | exact HB.out)) hb); have n3_ := Aside0.mk (hbox); have n4_ := Aside0.mk ((by rw [hg]; exact (below_size (by repeat (first | (with_reducible first | exact HB.out | apply below_alloc | apply pw_below_drewN | apply below_drew1 | refine below_set ?_ GE170.out | refine below_set ?_ GE188.out) | exact HB.out))) : w.heap.size ≤ gb204)); have n5_ := Aside0.mk ((by rw [hg]; exact (below_size (by repeat (first | (with_reducible first | exact HB.out | apply below_alloc | apply pw_below_drewN | apply below_drew1 | refine below_set ?_ GE170.out | refine below_set ?_ GE188.out) | exact HB.out))) : w.heap.size ≤ gb204)); have n6_ := Aside0.mk ((by rw [hg]; exact Nat.ne_of_lt (blk_lt (g := gb170) (o := .cells #[.int .i64 a0_0, .int .i64 a0_1, .bool a0_2, .bool a0_3, .int .i64 a0_4, .int .i64 a0_5, .int .i64 a0_6, .int .u32 a0_7, .int .u32 a0_8, .string a0_9] 24 (0, 0)) (by (with_reducible repeat (first | refine blk_drewN ?_ _ | refine blk_drew ?_ | refine blk_alloc ?_ _)); exact BK170.out)) : gb170 ≠ gb204)); have n7_ := Aside0.mk ((by rw [hg]; exact Nat.ne_of_gt (blk_lt (g := gb170) (o := .cells #[.int .i64 a0_0, .int .i64 a0_1, .bool a0_2, .bool a0_3, .int .i64 a0_4, .int .i64 a0_5, .int .i64 a0_6, .int .u32 a0_7, .int .u32 a0_8, .string a0_9] 24 (0, 0)) (by (with_reducible repeat (first | refine blk_drewN ?_ _ | refine blk_drew ?_ | refine blk_alloc ?_ _)); exact BK170.out)) : gb204 ≠ gb170)); have n8_ := Aside0.mk ((by rw [hg]; exact Nat.ne_of_lt (blk_lt (g := gb188) (o := .cells #[.int .i64 t176, .int .i64 t177, .bool t178, .bool t179, .int .i64 t180, .int .i64 t181, .int .i64 t182, .int .u32 t183, .int .u32 t184, .string t185] 24 (0, 0)) (by (with_reducible repeat (first | refine blk_drewN ?_ _ | refine blk_drew ?_ | refine blk_alloc ?_ _)); exact BK188.out)) : gb188 ≠ gb204)); have n9_ := Aside0.mk ((by rw [hg]; exact Nat.ne_of_gt (blk_lt (g := gb188) (o := .cells #[.int .i64 t176, .int .i64 t177, .bool t178, .bool t179, .int .i64 t180, .int .i64 t181, .int .i64 t182, .int .u32 t183, .int .u32 t184, .string t185] 24 (0, 0)) (by (with_reducible repeat (first | refine blk_drewN ?_ _ | refine blk_drew ?_ | refine blk_alloc ?_ _)); exact BK188.out)) : gb204 ≠ gb188)); clear BK170; clear BK188; clear HB; have BK170 := n0_; have BK188 := n1_; have HB := n2_; have BK204 := n3_; have GW204 := n4_; have GE204 := n5_; have NB170_204 := n6_; have NB204_170 := n7_; have NB188_204 := n8_; have NB204_188 := n9_; clear n0_ n1_ n2_ n3_ n4_ n5_ n6_ n7_ n8_ n9_; clear hb hbox hg; have hnb67 := NB204_170.out; have hnc67 := NB170_204.out; have hnb68 := NB204_188.out; have hnc68 := NB188_204.out; have hcz69_0 : w66.cell? ⟨gb204, 0, none⟩ = some (.int .i64 0) := (blk_cell BK204.out 0).trans rfl; have hcz69_1 : w66.cell? ⟨gb204, 1, none⟩ = some (.int .i64 0) := (blk_cell BK204.out 1).trans rfl; have hcz69_2 : w66.cell? ⟨gb204, 2, none⟩ = some (.bool false) := (blk_cell BK204.out 2).trans rfl; have hcz69_3 : w66.cell? ⟨gb204, 3, none⟩ = some (.bool false) := (blk_cell BK204.out 3).trans rfl; have hcz69_4 : w66.cell? ⟨gb204, 4, none⟩ = some (.int .i64 0) := (blk_cell BK204.out 4).trans rfl; have hcz69_5 : w66.cell? ⟨gb204, 5, none⟩ = some (.int .i64 0) := (blk_cell BK204.out 5).trans rfl; have hcz69_6 : w66.cell? ⟨gb204, 6, none⟩ = some (.int .i64 0) := (blk_cell BK204.out 6).trans rfl; have hcz69_7 : w66.cell? ⟨gb204, 7, none⟩ = some (.int .u32 0) := (blk_cell BK204.out 7).trans rfl; have hcz69_8 : w66.cell? ⟨gb204, 8, none⟩ = some (.int .u32 0) := (blk_cell BK204.out 8).trans rfl; have hcz69_9 : w66.cell? ⟨gb204, 9, none⟩ = some (.string (⟨#[]⟩ : ByteArray)) := (blk_cell BK204.out 9).trans rfl; have hfz69_0 := blk_frozen BK204.out 0; have hfz69_1 := blk_frozen BK204.out 1; have hfz69_2 := blk_frozen BK204.out 2; have hfz69_3 := blk_frozen BK204.out 3; have hfz69_4 := blk_frozen BK204.out 4; have hfz69_5 := blk_frozen BK204.out 5; have hfz69_6 := blk_frozen BK204.out 6; have hfz69_7 := blk_frozen BK204.out 7; have hfz69_8 := blk_frozen BK204.out 8; have hfz69_9 := blk_frozen BK204.out 9) | ((with_reducible refine gate_callee (f := 23) rfl ?_); refine goesL_ (some 126) rfl rfl Try.func23 (by kernel_rfl) rfl #[.int .i64 a3, .int .i64 (t172.size : Int)] rfl (by (try simp only [List.map_toArray, List.map_cons, List.map_nil]); first | done | rfl | (simp only [List.length_drop, List.length_take]; rfl)) ?_; (with_reducible refine (rampartlaw00_Place.calls a3 (t172.size : Int) t205 _ A54.out).mono ?_); rintro e w' ⟨rfl, ⟨nd, rfl⟩⟩; refine ⟨_, rfl, ?_⟩) | ((with_reducible refine gate_callee (f := 18) rfl ?_); refine goesL_ (some 128) rfl rfl Try.func18 (by kernel_rfl) rfl #[.string (t172.extract 0 (t205 : Int).toNat)] rfl (by (try simp only [List.map_toArray, List.map_cons, List.map_nil]); first | done | rfl | (simp only [List.length_drop, List.length_take]; rfl)) ?_; (with_reducible refine (ipv4_Get.calls kj18 (t172.extract 0 (t205 : Int).toNat) t206 t207 t208 t209 t210 t211 t212 t213 t214 t215 t216 t217 _ A57.out).mono ?_); rintro e w70 ⟨rfl, hb⟩; refine ⟨_, rfl, ?_⟩; have n0_ := Aside0.mk (blk_below (g := gb170) (o := .cells #[.int .i64 a0_0, .int .i64 a0_1, .bool a0_2, .bool a0_3, .int .i64 a0_4, .int .i64 a0_5, .int .i64 a0_6, .int .u32 a0_7, .int .u32 a0_8, .string a0_9] 24 (0, 0)) (by (with_reducible repeat (first | refine blk_drewN ?_ _ | refine blk_drew ?_ | refine blk_alloc ?_ _)); refine blk_far ?_ NB170_204.out _; (with_reducible repeat (first | refine blk_drewN ?_ _ | refine blk_drew ?_ | refine blk_alloc ?_ _)); refine blk_far ?_ NB170_204.out _; (with_reducible repeat (first | refine blk_drewN ?_ _ | refine blk_drew ?_ | refine blk_alloc ?_ _)); refine blk_far ?_ NB170_204.out _; (with_reducible repeat (first | refine blk_drewN ?_ _ | refine blk_drew ?_ | refine blk_alloc ?_ _)); refine blk_far ?_ NB170_204.out _; (with_reducible repeat (first | refine blk_drewN ?_ _ | refine blk_drew ?_ | refine blk_alloc ?_ _)); refine blk_far ?_ NB170_204.out _; (with_reducible repeat (first | refine blk_drewN ?_ _ | refine blk_drew ?_ | refine blk_alloc ?_ _)); refine blk_far ?_ NB170_204.out _; (with_reducible repeat (first | refine blk_drewN ?_ _ | refine blk_drew ?_ | refine blk_alloc ?_ _)); refine blk_far ?_ NB170_204.out _; (with_reducible repeat (first | refine blk_drewN ?_ _ | refine blk_drew ?_ | refine blk_alloc ?_ _)); refine blk_far ?_ NB170_204.out _; (with_reducible repeat (first | refine blk_drewN ?_ _ | refine blk_drew ?_ | refine blk_alloc ?_ _)); refine blk_far ?_ NB170_204.out _; (with_reducible repeat (first | refine blk_drewN ?_ _ | refine blk_drew ?_ | refine blk_alloc ?_ _)); refine blk_far ?_ NB170_204.out _; (with_reducible repeat (first | refine blk_drewN ?_ _ | refine blk_drew ?_ | refine blk_alloc ?_ _)); exact BK170.out) hb); have n1_ := Aside0.mk (blk_below (g := gb188) (o := .cells #[.int .i64 t176, .int .i64 t177, .bool t178, .bool t179, .int .i64 t180, .int .i64 t181, .int .i64 t182, .int .u32 t183, .int .u32 t184, .string t185] 24 (0, 0)) (by (with_reducible repeat (first | refine blk_drewN ?_ _ | refine blk_drew ?_ | refine blk_alloc ?_ _)); refine blk_far ?_ NB188_204.out _; (with_reducible repeat (first | refine blk_drewN ?_ _ | refine blk_drew ?_ | refine blk_alloc ?_ _)); refine blk_far ?_ NB188_204.out _; (with_reducible repeat (first | refine blk_drewN ?_ _ | refine blk_drew ?_ | refine blk_alloc ?_ _)); refine blk_far ?_ NB188_204.out _; (with_reducible repeat (first | refine blk_drewN ?_ _ | refine blk_drew ?_ | refine blk_alloc ?_ _)); refine blk_far ?_ NB188_204.out _; (with_reducible repeat (first | refine blk_drewN ?_ _ | refine blk_drew ?_ | refine blk_alloc ?_ _)); refine blk_far ?_ NB188_204.out _; (with_reducible repeat (first | refine blk_drewN ?_ _ | refine blk_drew ?_ | refine blk_alloc ?_ _)); refine blk_far ?_ NB188_204.out _; (with_reducible repeat (first | refine blk_drewN ?_ _ | refine blk_drew ?_ | refine blk_alloc ?_ _)); refine blk_far ?_ NB188_204.out _; (with_reducible repeat (first | refine blk_drewN ?_ _ | refine blk_drew ?_ | refine blk_alloc ?_ _)); refine blk_far ?_ NB188_204.out _; (with_reducible repeat (first | refine blk_drewN ?_ _ | refine blk_drew ?_ | refine blk_alloc ?_ _)); refine blk_far ?_ NB188_204.out _; (with_reducible repeat (first | refine blk_drewN ?_ _ | refine blk_drew ?_ | refine blk_alloc ?_ _)); refine blk_far ?_ NB188_204.out _; (with_reducible repeat (first | refine blk_drewN ?_ _ | refine blk_drew ?_ | refine blk_alloc ?_ _)); exact BK188.out) hb); have n2_ := Aside0.mk (blk_below (g := gb204) (o := .cells #[.int .i64 t192, .int .i64 t193, .bool t194, .bool t195, .int .i64 t196, .int .i64 t197, .int .i64 t198, .int .u32 t199, .int .u32 t200, .string t201] 24 (0, 0)) (by (with_reducible repeat (first | refine blk_drewN ?_ _ | refine blk_drew ?_ | refine blk_alloc ?_ _)); refine blk_put (cs := #[.int .i64 t192, .int .i64 t193, .bool t194, .bool t195, .int .i64 t196, .int .i64 t197, .int .i64 t198, .int .u32 t199, .int .u32 t200, .string (⟨#[]⟩ : ByteArray)]) ?_ 9 _ rfl; (with_reducible repeat (first | refine blk_drewN ?_ _ | refine blk_drew ?_ | refine blk_alloc ?_ _)); refine blk_put (cs := #[.int .i64 t192, .int .i64 t193, .bool t194, .bool t195, .int .i64 t196, .int .i64 t197, .int .i64 t198, .int .u32 t199, .int .u32 0, .string (⟨#[]⟩ : ByteArray)]) ?_ 8 _ rfl; (with_reducible repeat (first | refine blk_drewN ?_ _ | refine blk_drew ?_ | refine blk_alloc ?_ _)); refine blk_put (cs := #[.int .i64 t192, .int .i64 t193, .bool t194, .bool t195, .int .i64 t196, .int .i64 t197, .int .i64 t198, .int .u32 0, .int .u32 0, .string (⟨#[]⟩ : ByteArray)]) ?_ 7 _ rfl; (with_reducible repeat (first | refine blk_drewN ?_ _ | refine blk_drew ?_ | refine blk_alloc ?_ _)); refine blk_put (cs := #[.int .i64 t192, .int .i64 t193, .bool t194, .bool t195, .int .i64 t196, .int .i64 t197, .int .i64 0, .int .u32 0, .int .u32 0, .string (⟨#[]⟩ : ByteArray)]) ?_ 6 _ rfl; (with_reducible repeat (first | refine blk_drewN ?_ _ | refine blk_drew ?_ | refine blk_alloc ?_ _)); refine blk_put (cs := #[.int .i64 t192, .int .i64 t193, .bool t194, .bool t195, .int .i64 t196, .int .i64 0, .int .i64 0, .int .u32 0, .int .u32 0, .string (⟨#[]⟩ : ByteArray)]) ?_ 5 _ rfl; (with_reducible repeat (first | refine blk_drewN ?_ _ | refine blk_drew ?_ | refine blk_alloc ?_ _)); refine blk_put (cs := #[.int .i64 t192, .int .i64 t193, .bool t194, .bool t195, .int .i64 0, .int .i64 0, .int .i64 0, .int .u32 0, .int .u32 0, .string (⟨#[]⟩ : ByteArray)]) ?_ 4 _ rfl; (with_reducible repeat (first | refine blk_drewN ?_ _ | refine blk_drew ?_ | refine blk_alloc ?_ _)); refine blk_put (cs := #[.int .i64 t192, .int .i64 t193, .bool t194, .bool false, .int .i64 0, .int .i64 0, .int .i64 0, .int .u32 0, .int .u32 0, .string (⟨#[]⟩ : ByteArray)]) ?_ 3 _ rfl; (with_reducible repeat (first | refine blk_drewN ?_ _ | refine blk_drew ?_ | refine blk_alloc ?_ _)); refine blk_put (cs := #[.int .i64 t192, .int .i64 t193, .bool false, .bool false, .int .i64 0, .int .i64 0, .int .i64 0, .int .u32 0, .int .u32 0, .string (⟨#[]⟩ : ByteArray)]) ?_ 2 _ rfl; (with_reducible repeat (first | refine blk_drewN ?_ _ | refine blk_drew ?_ | refine blk_alloc ?_ _)); refine blk_put (cs := #[.int .i64 t192, .int .i64 0, .bool false, .bool false, .int .i64 0, .int .i64 0, .int .i64 0, .int .u32 0, .int .u32 0, .string (⟨#[]⟩ : ByteArray)]) ?_ 1 _ rfl; (with_reducible repeat (first | refine blk_drewN ?_ _ | refine blk_drew ?_ | refine blk_alloc ?_ _)); refine blk_put (cs := #[.int .i64 0, .int .i64 0, .bool false, .bool false, .int .i64 0, .int .i64 0, .int .i64 0, .int .u32 0, .int .u32 0, .string (⟨#[]⟩ : ByteArray)]) ?_ 0 _ rfl; (with_reducible repeat (first | refine blk_drewN ?_ _ | refine blk_drew ?_ | refine blk_alloc ?_ _)); exact BK204.out) hb); have n3_ := Aside0.mk (below_step (by repeat (first | (with_reducible first | exact HB.out | apply below_alloc | apply pw_below_drewN | apply below_drew1 | refine below_set ?_ GE170.out | refine below_set ?_ GE188.out | refine below_set ?_ GE204.out) | exact HB.out)) hb); clear BK170; clear BK188; clear BK204; clear HB; have BK170 := n0_; have BK188 := n1_; have BK204 := n2_; have HB := n3_; clear n0_ n1_ n2_ n3_; (try clear hb); (try clear hb2); (try clear hk); (try clear hi)) | ((with_reducible refine gate_dst (N := 19) rfl ?_); (try (refine gate_guard (by rfl) ?_; dsimp only)); refine box_event ?hg (N := 19) ?hd (cs := #[.int .i64 0, .int .i64 0, .bool false, .bool false, .int .i64 0, .int .i64 0, .int .i64 0, .int .u32 0, .int .u32 0, .string (⟨#[]⟩ : ByteArray)]) (t := 24) ?hr ?_; (case hd => rfl); (case hg => rfl); (case hr => first | (go_simp; done) | (go_simp; rfl)); intro gb218 hg w71 hbox hb; have n0_ := Aside0.mk (blk_below (g := gb170) (o := .cells #[.int .i64 a0_0, .int .i64 a0_1, .bool a0_2, .bool a0_3, .int .i64 a0_4, .int .i64 a0_5, .int .i64 a0_6, .int .u32 a0_7, .int .u32 a0_8, .string a0_9] 24 (0, 0)) (by (with_reducible repeat (first | refine blk_drewN ?_ _ | refine blk_drew ?_ | refine blk_alloc ?_ _)); exact BK170.out) hb); have n1_ := Aside0.mk (blk_below (g := gb188) (o := .cells #[.int .i64 t176, .int .i64 t177, .bool t178, .bool t179, .int .i64 t180, .int .i64 t181, .int .i64 t182, .int .u32 t183, .int .u32 t184, .string t185] 24 (0, 0)) (by (with_reducible repeat (first | refine blk_drewN ?_ _ | refine blk_drew ?_ | refine blk_alloc ?_ _)); exact BK188.out) hb); have n2_ := Aside0.mk (blk_below (g := gb204) (o := .cells #[.int .i64 t192, .int .i64 t193, .bool t194, .bool t195, .int .i64 t196, .int .i64 t197, .int .i64 t198, .int .u32 t199, .int .u32 t200, .string t201] 24 (0, 0)) (by (with_reducible repeat (first | refine blk_drewN ?_ _ | refine blk_drew ?_ | refine blk_alloc ?_ _)); exact BK204.out) hb); have n3_ := Aside0.mk (below_step (by repeat (first | (with_reducible first | exact HB.out | apply below_alloc | apply pw_below_drewN | apply below_drew1 | refine below_set ?_ GE170.out | refine below_set ?_ GE188.out | refine below_set ?_ GE204.out) | exact HB.out)) hb); have n4_ := Aside0.mk (hbox); have n5_ := Aside0.mk ((by rw [hg]; exact (below_size (by repeat (first | (with_reducible first | exact HB.out | apply below_alloc | apply pw_below_drewN | apply below_drew1 | refine below_set ?_ GE170.out | refine below_set ?_ GE188.out | refine below_set ?_ GE204.out) | exact HB.out))) : w.heap.size ≤ gb218)); have n6_ := Aside0.mk ((by rw [hg]; exact (below_size (by repeat (first | (with_reducible first | exact HB.out | apply below_alloc | apply pw_below_drewN | apply below_drew1 | refine below_set ?_ GE170.out | refine below_set ?_ GE188.out | refine below_set ?_ GE204.out) | exact HB.out))) : w.heap.size ≤ gb218)); have n7_ := Aside0.mk ((by rw [hg]; exact Nat.ne_of_lt (blk_lt (g := gb170) (o := .cells #[.int .i64 a0_0, .int .i64 a0_1, .bool a0_2, .bool a0_3, .int .i64 a0_4, .int .i64 a0_5, .int .i64 a0_6, .int .u32 a0_7, .int .u32 a0_8, .string a0_9] 24 (0, 0)) (by (with_reducible repeat (first | refine blk_drewN ?_ _ | refine blk_drew ?_ | refine blk_alloc ?_ _)); exact BK170.out)) : gb170 ≠ gb218)); have n8_ := Aside0.mk ((by rw [hg]; exact Nat.ne_of_gt (blk_lt (g := gb170) (o := .cells #[.int .i64 a0_0, .int .i64 a0_1, .bool a0_2, .bool a0_3, .int .i64 a0_4, .int .i64 a0_5, .int .i64 a0_6, .int .u32 a0_7, .int .u32 a0_8, .string a0_9] 24 (0, 0)) (by (with_reducible repeat (first | refine blk_drewN ?_ _ | refine blk_drew ?_ | refine blk_alloc ?_ _)); exact BK170.out)) : gb218 ≠ gb170)); have n9_ := Aside0.mk ((by rw [hg]; exact Nat.ne_of_lt (blk_lt (g := gb188) (o := .cells #[.int .i64 t176, .int .i64 t177, .bool t178, .bool t179, .int .i64 t180, .int .i64 t181, .int .i64 t182, .int .u32 t183, .int .u32 t184, .string t185] 24 (0, 0)) (by (with_reducible repeat (first | refine blk_drewN ?_ _ | refine blk_drew ?_ | refine blk_alloc ?_ _)); exact BK188.out)) : gb188 ≠ gb218)); have n10_ := Aside0.mk ((by rw [hg]; exact Nat.ne_of_gt (blk_lt (g := gb188) (o := .cells #[.int .i64 t176, .int .i64 t177, .bool t178, .bool t179, .int .i64 t180, .int .i64 t181, .int .i64 t182, .int .u32 t183, .int .u32 t184, .string t185] 24 (0, 0)) (by (with_reducible repeat (first | refine blk_drewN ?_ _ | refine blk_drew ?_ | refine blk_alloc ?_ _)); exact BK188.out)) : gb218 ≠ gb188)); have n11_ := Aside0.mk ((by rw [hg]; exact Nat.ne_of_lt (blk_lt (g := gb204) (o := .cells #[.int .i64 t192, .int .i64 t193, .bool t194, .bool t195, .int .i64 t196, .int .i64 t197, .int .i64 t198, .int .u32 t199, .int .u32 t200, .string t201] 24 (0, 0)) (by (with_reducible repeat (first | refine blk_drewN ?_ _ | refine blk_drew ?_ | refine blk_alloc ?_ _)); exact BK204.out)) : gb204 ≠ gb218)); have n12_ := Aside0.mk ((by rw [hg]; exact Nat.ne_of_gt (blk_lt (g := gb204) (o := .cells #[.int .i64 t192, .int .i64 t193, .bool t194, .bool t195, .int .i64 t196, .int .i64 t197, .int .i64 t198, .int .u32 t199, .int .u32 t200, .string t201] 24 (0, 0)) (by (with_reducible repeat (first | refine blk_drewN ?_ _ | refine blk_drew ?_ | refine blk_alloc ?_ _)); exact BK204.out)) : gb218 ≠ gb204)); clear BK170; clear BK188; clear BK204; clear HB; have BK170 := n0_; have BK188 := n1_; have BK204 := n2_; have HB := n3_; have BK218 := n4_; have GW218 := n5_; have GE218 := n6_; have NB170_218 := n7_; have NB218_170 := n8_; have NB188_218 := n9_; have NB218_188 := n10_; have NB204_218 := n11_; have NB218_204 := n12_; clear n0_ n1_ n2_ n3_ n4_ n5_ n6_ n7_ n8_ n9_ n10_ n11_ n12_; clear hb hbox hg; have hnb72 := NB218_170.out; have hnc72 := NB170_218.out; have hnb73 := NB218_188.out; have hnc73 := NB188_218.out; have hnb74 := NB218_204.out; have hnc74 := NB204_218.out; have hcz75_0 : w71.cell? ⟨gb218, 0, none⟩ = some (.int .i64 0) := (blk_cell BK218.out 0).trans rfl; have hcz75_1 : w71.cell? ⟨gb218, 1, none⟩ = some (.int .i64 0) := (blk_cell BK218.out 1).trans rfl; have hcz75_2 : w71.cell? ⟨gb218, 2, none⟩ = some (.bool false) := (blk_cell BK218.out 2).trans rfl; have hcz75_3 : w71.cell? ⟨gb218, 3, none⟩ = some (.bool false) := (blk_cell BK218.out 3).trans rfl; have hcz75_4 : w71.cell? ⟨gb218, 4, none⟩ = some (.int .i64 0) := (blk_cell BK218.out 4).trans rfl; have hcz75_5 : w71.cell? ⟨gb218, 5, none⟩ = some (.int .i64 0) := (blk_cell BK218.out 5).trans rfl; have hcz75_6 : w71.cell? ⟨gb218, 6, none⟩ = some (.int .i64 0) := (blk_cell BK218.out 6).trans rfl; have hcz75_7 : w71.cell? ⟨gb218, 7, none⟩ = some (.int .u32 0) := (blk_cell BK218.out 7).trans rfl; have hcz75_8 : w71.cell? ⟨gb218, 8, none⟩ = some (.int .u32 0) := (blk_cell BK218.out 8).trans rfl; have hcz75_9 : w71.cell? ⟨gb218, 9, none⟩ = some (.string (⟨#[]⟩ : ByteArray)) := (blk_cell BK218.out 9).trans rfl; have hfz75_0 := blk_frozen BK218.out 0; have hfz75_1 := blk_frozen BK218.out 1; have hfz75_2 := blk_frozen BK218.out 2; have hfz75_3 := blk_frozen BK218.out 3; have hfz75_4 := blk_frozen BK218.out 4; have hfz75_5 := blk_frozen BK218.out 5; have hfz75_6 := blk_frozen BK218.out 6; have hfz75_7 := blk_frozen BK218.out 7; have hfz75_8 := blk_frozen BK218.out 8; have hfz75_9 := blk_frozen BK218.out 9) | (go_at_call 15; (with_reducible refine (rampartlaw03_awake.calls kj18  t219 _ A61.out (by first | rfl | exact HR.out)).mono ?_); rintro e w76 ⟨rfl, hb⟩; have n0_ := Aside0.mk (blk_below (g := gb170) (o := .cells #[.int .i64 a0_0, .int .i64 a0_1, .bool a0_2, .bool a0_3, .int .i64 a0_4, .int .i64 a0_5, .int .i64 a0_6, .int .u32 a0_7, .int .u32 a0_8, .string a0_9] 24 (0, 0)) (by (with_reducible repeat (first | refine blk_drewN ?_ _ | refine blk_drew ?_ | refine blk_alloc ?_ _)); refine blk_far ?_ NB170_218.out _; (with_reducible repeat (first | refine blk_drewN ?_ _ | refine blk_drew ?_ | refine blk_alloc ?_ _)); refine blk_far ?_ NB170_218.out _; (with_reducible repeat (first | refine blk_drewN ?_ _ | refine blk_drew ?_ | refine blk_alloc ?_ _)); refine blk_far ?_ NB170_218.out _; (with_reducible repeat (first | refine blk_drewN ?_ _ | refine blk_drew ?_ | refine blk_alloc ?_ _)); refine blk_far ?_ NB170_218.out _; (with_reducible repeat (first | refine blk_drewN ?_ _ | refine blk_drew ?_ | refine blk_alloc ?_ _)); refine blk_far ?_ NB170_218.out _; (with_reducible repeat (first | refine blk_drewN ?_ _ | refine blk_drew ?_ | refine blk_alloc ?_ _)); refine blk_far ?_ NB170_218.out _; (with_reducible repeat (first | refine blk_drewN ?_ _ | refine blk_drew ?_ | refine blk_alloc ?_ _)); refine blk_far ?_ NB170_218.out _; (with_reducible repeat (first | refine blk_drewN ?_ _ | refine blk_drew ?_ | refine blk_alloc ?_ _)); refine blk_far ?_ NB170_218.out _; (with_reducible repeat (first | refine blk_drewN ?_ _ | refine blk_drew ?_ | refine blk_alloc ?_ _)); refine blk_far ?_ NB170_218.out _; (with_reducible repeat (first | refine blk_drewN ?_ _ | refine blk_drew ?_ | refine blk_alloc ?_ _)); refine blk_far ?_ NB170_218.out _; (with_reducible repeat (first | refine blk_drewN ?_ _ | refine blk_drew ?_ | refine blk_alloc ?_ _)); exact BK170.out) hb); have n1_ := Aside0.mk (blk_below (g := gb188) (o := .cells #[.int .i64 t176, .int .i64 t177, .bool t178, .bool t179, .int .i64 t180, .int .i64 t181, .int .i64 t182, .int .u32 t183, .int .u32 t184, .string t185] 24 (0, 0)) (by (with_reducible repeat (first | refine blk_drewN ?_ _ | refine blk_drew ?_ | refine blk_alloc ?_ _)); refine blk_far ?_ NB188_218.out _; (with_reducible repeat (first | refine blk_drewN ?_ _ | refine blk_drew ?_ | refine blk_alloc ?_ _)); refine blk_far ?_ NB188_218.out _; (with_reducible repeat (first | refine blk_drewN ?_ _ | refine blk_drew ?_ | refine blk_alloc ?_ _)); refine blk_far ?_ NB188_218.out _; (with_reducible repeat (first | refine blk_drewN ?_ _ | refine blk_drew ?_ | refine blk_alloc ?_ _)); refine blk_far ?_ NB188_218.out _; (with_reducible repeat (first | refine blk_drewN ?_ _ | refine blk_drew ?_ | refine blk_alloc ?_ _)); refine blk_far ?_ NB188_218.out _; (with_reducible repeat (first | refine blk_drewN ?_ _ | refine blk_drew ?_ | refine blk_alloc ?_ _)); refine blk_far ?_ NB188_218.out _; (with_reducible repeat (first | refine blk_drewN ?_ _ | refine blk_drew ?_ | refine blk_alloc ?_ _)); refine blk_far ?_ NB188_218.out _; (with_reducible repeat (first | refine blk_drewN ?_ _ | refine blk_drew ?_ | refine blk_alloc ?_ _)); refine blk_far ?_ NB188_218.out _; (with_reducible repeat (first | refine blk_drewN ?_ _ | refine blk_drew ?_ | refine blk_alloc ?_ _)); refine blk_far ?_ NB188_218.out _; (with_reducible repeat (first | refine blk_drewN ?_ _ | refine blk_drew ?_ | refine blk_alloc ?_ _)); refine blk_far ?_ NB188_218.out _; (with_reducible repeat (first | refine blk_drewN ?_ _ | refine blk_drew ?_ | refine blk_alloc ?_ _)); exact BK188.out) hb); have n2_ := Aside0.mk (blk_below (g := gb204) (o := .cells #[.int .i64 t192, .int .i64 t193, .bool t194, .bool t195, .int .i64 t196, .int .i64 t197, .int .i64 t198, .int .u32 t199, .int .u32 t200, .string t201] 24 (0, 0)) (by (with_reducible repeat (first | refine blk_drewN ?_ _ | refine blk_drew ?_ | refine blk_alloc ?_ _)); refine blk_far ?_ NB204_218.out _; (with_reducible repeat (first | refine blk_drewN ?_ _ | refine blk_drew ?_ | refine blk_alloc ?_ _)); refine blk_far ?_ NB204_218.out _; (with_reducible repeat (first | refine blk_drewN ?_ _ | refine blk_drew ?_ | refine blk_alloc ?_ _)); refine blk_far ?_ NB204_218.out _; (with_reducible repeat (first | refine blk_drewN ?_ _ | refine blk_drew ?_ | refine blk_alloc ?_ _)); refine blk_far ?_ NB204_218.out _; (with_reducible repeat (first | refine blk_drewN ?_ _ | refine blk_drew ?_ | refine blk_alloc ?_ _)); refine blk_far ?_ NB204_218.out _; (with_reducible repeat (first | refine blk_drewN ?_ _ | refine blk_drew ?_ | refine blk_alloc ?_ _)); refine blk_far ?_ NB204_218.out _; (with_reducible repeat (first | refine blk_drewN ?_ _ | refine blk_drew ?_ | refine blk_alloc ?_ _)); refine blk_far ?_ NB204_218.out _; (with_reducible repeat (first | refine blk_drewN ?_ _ | refine blk_drew ?_ | refine blk_alloc ?_ _)); refine blk_far ?_ NB204_218.out _; (with_reducible repeat (first | refine blk_drewN ?_ _ | refine blk_drew ?_ | refine blk_alloc ?_ _)); refine blk_far ?_ NB204_218.out _; (with_reducible repeat (first | refine blk_drewN ?_ _ | refine blk_drew ?_ | refine blk_alloc ?_ _)); refine blk_far ?_ NB204_218.out _; (with_reducible repeat (first | refine blk_drewN ?_ _ | refine blk_drew ?_ | refine blk_alloc ?_ _)); exact BK204.out) hb); have n3_ := Aside0.mk (blk_below (g := gb218) (o := .cells #[.int .i64 t206, .int .i64 t207, .bool t208, .bool t209, .int .i64 t210, .int .i64 t211, .int .i64 t212, .int .u32 t213, .int .u32 t214, .string t215] 24 (0, 0)) (by (with_reducible repeat (first | refine blk_drewN ?_ _ | refine blk_drew ?_ | refine blk_alloc ?_ _)); refine blk_put (cs := #[.int .i64 t206, .int .i64 t207, .bool t208, .bool t209, .int .i64 t210, .int .i64 t211, .int .i64 t212, .int .u32 t213, .int .u32 t214, .string (⟨#[]⟩ : ByteArray)]) ?_ 9 _ rfl; (with_reducible repeat (first | refine blk_drewN ?_ _ | refine blk_drew ?_ | refine blk_alloc ?_ _)); refine blk_put (cs := #[.int .i64 t206, .int .i64 t207, .bool t208, .bool t209, .int .i64 t210, .int .i64 t211, .int .i64 t212, .int .u32 t213, .int .u32 0, .string (⟨#[]⟩ : ByteArray)]) ?_ 8 _ rfl; (with_reducible repeat (first | refine blk_drewN ?_ _ | refine blk_drew ?_ | refine blk_alloc ?_ _)); refine blk_put (cs := #[.int .i64 t206, .int .i64 t207, .bool t208, .bool t209, .int .i64 t210, .int .i64 t211, .int .i64 t212, .int .u32 0, .int .u32 0, .string (⟨#[]⟩ : ByteArray)]) ?_ 7 _ rfl; (with_reducible repeat (first | refine blk_drewN ?_ _ | refine blk_drew ?_ | refine blk_alloc ?_ _)); refine blk_put (cs := #[.int .i64 t206, .int .i64 t207, .bool t208, .bool t209, .int .i64 t210, .int .i64 t211, .int .i64 0, .int .u32 0, .int .u32 0, .string (⟨#[]⟩ : ByteArray)]) ?_ 6 _ rfl; (with_reducible repeat (first | refine blk_drewN ?_ _ | refine blk_drew ?_ | refine blk_alloc ?_ _)); refine blk_put (cs := #[.int .i64 t206, .int .i64 t207, .bool t208, .bool t209, .int .i64 t210, .int .i64 0, .int .i64 0, .int .u32 0, .int .u32 0, .string (⟨#[]⟩ : ByteArray)]) ?_ 5 _ rfl; (with_reducible repeat (first | refine blk_drewN ?_ _ | refine blk_drew ?_ | refine blk_alloc ?_ _)); refine blk_put (cs := #[.int .i64 t206, .int .i64 t207, .bool t208, .bool t209, .int .i64 0, .int .i64 0, .int .i64 0, .int .u32 0, .int .u32 0, .string (⟨#[]⟩ : ByteArray)]) ?_ 4 _ rfl; (with_reducible repeat (first | refine blk_drewN ?_ _ | refine blk_drew ?_ | refine blk_alloc ?_ _)); refine blk_put (cs := #[.int .i64 t206, .int .i64 t207, .bool t208, .bool false, .int .i64 0, .int .i64 0, .int .i64 0, .int .u32 0, .int .u32 0, .string (⟨#[]⟩ : ByteArray)]) ?_ 3 _ rfl; (with_reducible repeat (first | refine blk_drewN ?_ _ | refine blk_drew ?_ | refine blk_alloc ?_ _)); refine blk_put (cs := #[.int .i64 t206, .int .i64 t207, .bool false, .bool false, .int .i64 0, .int .i64 0, .int .i64 0, .int .u32 0, .int .u32 0, .string (⟨#[]⟩ : ByteArray)]) ?_ 2 _ rfl; (with_reducible repeat (first | refine blk_drewN ?_ _ | refine blk_drew ?_ | refine blk_alloc ?_ _)); refine blk_put (cs := #[.int .i64 t206, .int .i64 0, .bool false, .bool false, .int .i64 0, .int .i64 0, .int .i64 0, .int .u32 0, .int .u32 0, .string (⟨#[]⟩ : ByteArray)]) ?_ 1 _ rfl; (with_reducible repeat (first | refine blk_drewN ?_ _ | refine blk_drew ?_ | refine blk_alloc ?_ _)); refine blk_put (cs := #[.int .i64 0, .int .i64 0, .bool false, .bool false, .int .i64 0, .int .i64 0, .int .i64 0, .int .u32 0, .int .u32 0, .string (⟨#[]⟩ : ByteArray)]) ?_ 0 _ rfl; (with_reducible repeat (first | refine blk_drewN ?_ _ | refine blk_drew ?_ | refine blk_alloc ?_ _)); exact BK218.out) hb); have n4_ := Aside0.mk (below_step (by repeat (first | (with_reducible first | exact HB.out | apply below_alloc | apply pw_below_drewN | apply below_drew1 | refine below_set ?_ GE170.out | refine below_set ?_ GE188.out | refine below_set ?_ GE204.out | refine below_set ?_ GE218.out) | exact HB.out)) hb); clear BK170; clear BK188; clear BK204; clear BK218; clear HB; have BK170 := n0_; have BK188 := n1_; have BK204 := n2_; have BK218 := n3_; have HB := n4_; clear n0_ n1_ n2_ n3_ n4_; (try clear hb); (try clear hb2); (try clear hk); (try clear hi)))
                 go_ret
                 exact ⟨by first | rfl | (simp [errW_none, errW_some] <;> rfl) | (simp only [← hji45, ← hji49, ← hji51]; first | rfl | (simp [errW_none, errW_some] <;> rfl)) | (simp [*, errW_none, errW_some] <;> rfl), by repeat (first | (with_reducible first | exact HB.out | apply below_alloc | apply pw_below_drewN | apply below_drew1 | refine below_set ?_ GE170.out | refine below_set ?_ GE188.out | refine below_set ?_ GE204.out | refine below_set ?_ GE218.out) | exact HB.out)⟩
               ·
                rw [if_neg c59] at H
                have c59b0 : decide (t190 < 8) = false := decide_eq_false c59
                clear c59
                exact absurd ((Option.some.inj H).trans HR.out) (by decide)
              ·
               rw [if_neg c58] at H
               have c58b0 : (t203 == 0) = false := beq_eq_false_iff_ne.mpr c58
               have c58b1 : (t203 != 0) = true := bne_iff_ne.mpr c58
               by_cases c77 : t217 = 0
               ·
                rw [if_pos c77] at H
                have c77b0 : (t217 == 0) = true := beq_iff_eq.mpr c77
                have c77b1 : (t217 != 0) = false := bne_eq_false_iff_eq.mpr c77
                clear c77
                exact absurd ((Option.some.inj H).trans HR.out) (by decide)
               ·
                rw [if_neg c77] at H
                have c77b0 : (t217 == 0) = false := beq_eq_false_iff_ne.mpr c77
                have c77b1 : (t217 != 0) = true := bne_iff_ne.mpr c77
                replace H := Option.bind_eq_some_iff.mp H
                obtain ⟨t220, A780, H⟩ := H
                replace H : (some t220) = some r := H
                have A78 := Aside0.mk A780
                clear A780
                obtain rfl := Option.some.inj H
                have hnb79 := NB170_188.out
                have hnc79 := NB188_170.out
                have hcz80_0 : wc.cell? ⟨gb170, 0, none⟩ = some (.int .i64 a0_0) := (blk_cell BK170.out 0).trans rfl
                have hcz80_1 : wc.cell? ⟨gb170, 1, none⟩ = some (.int .i64 a0_1) := (blk_cell BK170.out 1).trans rfl
                have hcz80_2 : wc.cell? ⟨gb170, 2, none⟩ = some (.bool a0_2) := (blk_cell BK170.out 2).trans rfl
                have hcz80_3 : wc.cell? ⟨gb170, 3, none⟩ = some (.bool a0_3) := (blk_cell BK170.out 3).trans rfl
                have hcz80_4 : wc.cell? ⟨gb170, 4, none⟩ = some (.int .i64 a0_4) := (blk_cell BK170.out 4).trans rfl
                have hcz80_5 : wc.cell? ⟨gb170, 5, none⟩ = some (.int .i64 a0_5) := (blk_cell BK170.out 5).trans rfl
                have hcz80_6 : wc.cell? ⟨gb170, 6, none⟩ = some (.int .i64 a0_6) := (blk_cell BK170.out 6).trans rfl
                have hcz80_7 : wc.cell? ⟨gb170, 7, none⟩ = some (.int .u32 a0_7) := (blk_cell BK170.out 7).trans rfl
                have hcz80_8 : wc.cell? ⟨gb170, 8, none⟩ = some (.int .u32 a0_8) := (blk_cell BK170.out 8).trans rfl
                have hcz80_9 : wc.cell? ⟨gb170, 9, none⟩ = some (.string a0_9) := (blk_cell BK170.out 9).trans rfl
                have hfz80_0 := blk_frozen BK170.out 0
                have hfz80_1 := blk_frozen BK170.out 1
                have hfz80_2 := blk_frozen BK170.out 2
                have hfz80_3 := blk_frozen BK170.out 3
                have hfz80_4 := blk_frozen BK170.out 4
                have hfz80_5 := blk_frozen BK170.out 5
                have hfz80_6 := blk_frozen BK170.out 6
                have hfz80_7 := blk_frozen BK170.out 7
                have hfz80_8 := blk_frozen BK170.out 8
                have hfz80_9 := blk_frozen BK170.out 9
                have hconv8 := fun (s : ByteArray) (w : World) => Lib.run_convert_string_bytes (P := Try.prog) w 9 34 5 s Try.underlying9 Try.underlying34 Try.underlying5
                go_wp2_with (first | ((with_reducible refine gate_dst (N := 92) rfl ?_); refine conv_event ?hg (N := 92) ?hd (s := t172) ?hr ?_; (case hd => rfl); (case hg => rfl); (case hr => first | (go_simp; done) | (go_simp; rfl)); intro g8 hg8 c8 w8 hrow8 hb8; have BB := Aside0.mk hrow8; have BL := Aside0.mk hb8; have GG := Aside0.mk (show wc.heap.size ≤ g8 from Nat.le_of_eq hg8.symm); clear hrow8 hg8 hb8; have h8_0 : w8.cell? ⟨gb170, 0, none⟩ = some (.int .i64 a0_0) := (blk_cell (blk_below BK170.out BL.out) 0).trans rfl; have h8_1 : w8.cell? ⟨gb170, 1, none⟩ = some (.int .i64 a0_1) := (blk_cell (blk_below BK170.out BL.out) 1).trans rfl; have h8_2 : w8.cell? ⟨gb170, 2, none⟩ = some (.bool a0_2) := (blk_cell (blk_below BK170.out BL.out) 2).trans rfl; have h8_3 : w8.cell? ⟨gb170, 3, none⟩ = some (.bool a0_3) := (blk_cell (blk_below BK170.out BL.out) 3).trans rfl; have h8_4 : w8.cell? ⟨gb170, 4, none⟩ = some (.int .i64 a0_4) := (blk_cell (blk_below BK170.out BL.out) 4).trans rfl; have h8_5 : w8.cell? ⟨gb170, 5, none⟩ = some (.int .i64 a0_5) := (blk_cell (blk_below BK170.out BL.out) 5).trans rfl; have h8_6 : w8.cell? ⟨gb170, 6, none⟩ = some (.int .i64 a0_6) := (blk_cell (blk_below BK170.out BL.out) 6).trans rfl; have h8_7 : w8.cell? ⟨gb170, 7, none⟩ = some (.int .u32 a0_7) := (blk_cell (blk_below BK170.out BL.out) 7).trans rfl; have h8_8 : w8.cell? ⟨gb170, 8, none⟩ = some (.int .u32 a0_8) := (blk_cell (blk_below BK170.out BL.out) 8).trans rfl; have h8_9 : w8.cell? ⟨gb170, 9, none⟩ = some (.string a0_9) := (blk_cell (blk_below BK170.out BL.out) 9).trans rfl;  skip) | ((with_reducible refine gate_callee (f := 23) rfl ?_); refine goesL_ (some 99) rfl rfl Try.func23 (by kernel_rfl) rfl #[.int .i64 a3, .int .i64 (wrap64 (8 * (wrap64 (20 + (a0_9.size : Int)))))] rfl (by (try simp only [List.map_toArray, List.map_cons, List.map_nil]); first | done | rfl | (simp only [List.length_drop, List.length_take]; rfl)) ?_; (with_reducible refine (rampartlaw00_Place.calls a3 (wrap64 (8 * (wrap64 (20 + (a0_9.size : Int))))) t190 _ A44.out).mono ?_); rintro e w' ⟨rfl, ⟨nd, rfl⟩⟩; refine ⟨_, rfl, ?_⟩; (try (rw [drewN_self wc]; generalize hq_ : World.drewN wc _ = wc; have n0_ : Aside0 (wc.heap[gb170]? = some (.cells #[.int .i64 a0_0, .int .i64 a0_1, .bool a0_2, .bool a0_3, .int .i64 a0_4, .int .i64 a0_5, .int .i64 a0_6, .int .u32 a0_7, .int .u32 a0_8, .string a0_9] 24 (0, 0))) := ⟨by rw [← hq_]; exact (by (with_reducible repeat (first | refine blk_drewN ?_ _ | refine blk_drew ?_ | refine blk_alloc ?_ _)); exact BK170.out)⟩; have n1_ : Aside0 (wc.heap[gb188]? = some (.cells #[.int .i64 t176, .int .i64 t177, .bool t178, .bool t179, .int .i64 t180, .int .i64 t181, .int .i64 t182, .int .u32 t183, .int .u32 t184, .string t185] 24 (0, 0))) := ⟨by rw [← hq_]; exact (by (with_reducible repeat (first | refine blk_drewN ?_ _ | refine blk_drew ?_ | refine blk_alloc ?_ _)); exact BK188.out)⟩; have n2_ : Aside0 (Below w.heap.size w wc) := ⟨by rw [← hq_]; exact (by repeat (first | (with_reducible first | exact HB.out | apply below_alloc | apply pw_below_drewN | apply below_drew1 | refine below_set ?_ GE170.out | refine below_set ?_ GE188.out) | exact HB.out))⟩; clear BK170 BK188 HB hq_; have BK170 := n0_; have BK188 := n1_; have HB := n2_; clear n0_ n1_ n2_)); have p48 : 0 ≤ ((ji45) : Int) := of_decide_eq_true (by first | (with_reducible assumption) | assumption); have q48 : (ji45) < (t172.size : Int) := of_decide_eq_true (by first | (with_reducible assumption) | assumption); have hx48 := bt_at t172 (ji45); have B1_ := row8_drewN BB.out nd; have hc8 := row8_cell B1_ p48 q48; have hf8 := row8_frozen B1_ p48 q48; have BS := Aside0.mk (row8_set B1_ p48 q48 (v := (Go.bits .xor .u8 (bt t172 (ji45)) (ji51))) (bits8_range _ _ _).1 (bits8_range _ _ _).2); have NDW := Aside0.mk (rfl : World.drewN w8 nd = World.drewN w8 nd); clear B1_; replace p48 := eq_true p48; replace q48 := eq_true q48) | ((with_reducible refine gate_dst (N := 116) rfl ?_); have T8 := set_eq A52.out; have hback := fun cap => row8_back (P := Try.prog) (show Row8 _ g8 t191 by rw [T8]; exact BS.out) t172.size cap (by rw [T8, bset_size]) Try.underlying34 Try.underlying5 Try.underlying9; refine back_event ?hg (N := 116) ?hd (s := t191) ?hr ?_; (case hd => rfl); (case hg => rfl); (case hr => first | (go_simp; done) | (go_simp; rfl)); intro w81 hw8; have hb : Below wc.heap.size wc w81 := (by rw [hw8]; exact below_set (pw_below_drewN BL.out nd) GG.out); clear hw8 hback; have n0_ := Aside0.mk (blk_below (g := gb170) (o := .cells #[.int .i64 a0_0, .int .i64 a0_1, .bool a0_2, .bool a0_3, .int .i64 a0_4, .int .i64 a0_5, .int .i64 a0_6, .int .u32 a0_7, .int .u32 a0_8, .string a0_9] 24 (0, 0)) (by (with_reducible repeat (first | refine blk_drewN ?_ _ | refine blk_drew ?_ | refine blk_alloc ?_ _)); exact BK170.out) hb); have n1_ := Aside0.mk (blk_below (g := gb188) (o := .cells #[.int .i64 t176, .int .i64 t177, .bool t178, .bool t179, .int .i64 t180, .int .i64 t181, .int .i64 t182, .int .u32 t183, .int .u32 t184, .string t185] 24 (0, 0)) (by (with_reducible repeat (first | refine blk_drewN ?_ _ | refine blk_drew ?_ | refine blk_alloc ?_ _)); exact BK188.out) hb); have n2_ := Aside0.mk (below_step (by repeat (first | (with_reducible first | exact HB.out | apply below_alloc | apply pw_below_drewN | apply below_drew1 | refine below_set ?_ GE170.out | refine below_set ?_ GE188.out) | exact HB.out)) hb); clear BK170; clear BK188; clear HB; have BK170 := n0_; have BK188 := n1_; have HB := n2_; clear n0_ n1_ n2_; (try clear hb); (try clear hb2); (try clear hk); (try clear hi)) | ((with_reducible refine gate_callee (f := 18) rfl ?_); refine goesL_ (some 117) rfl rfl Try.func18 (by kernel_rfl) rfl #[.string t191] rfl (by (try simp only [List.map_toArray, List.map_cons, List.map_nil]); first | done | rfl | (simp only [List.length_drop, List.length_take]; rfl)) ?_; (with_reducible refine (ipv4_Get.calls kj18 t191 t192 t193 t194 t195 t196 t197 t198 t199 t200 t201 t202 t203 _ A53.out).mono ?_); rintro e w82 ⟨rfl, hb⟩; refine ⟨_, rfl, ?_⟩; have n0_ := Aside0.mk (blk_below (g := gb170) (o := .cells #[.int .i64 a0_0, .int .i64 a0_1, .bool a0_2, .bool a0_3, .int .i64 a0_4, .int .i64 a0_5, .int .i64 a0_6, .int .u32 a0_7, .int .u32 a0_8, .string a0_9] 24 (0, 0)) (by (with_reducible repeat (first | refine blk_drewN ?_ _ | refine blk_drew ?_ | refine blk_alloc ?_ _)); exact BK170.out) hb); have n1_ := Aside0.mk (blk_below (g := gb188) (o := .cells #[.int .i64 t176, .int .i64 t177, .bool t178, .bool t179, .int .i64 t180, .int .i64 t181, .int .i64 t182, .int .u32 t183, .int .u32 t184, .string t185] 24 (0, 0)) (by (with_reducible repeat (first | refine blk_drewN ?_ _ | refine blk_drew ?_ | refine blk_alloc ?_ _)); exact BK188.out) hb); have n2_ := Aside0.mk (below_step (by repeat (first | (with_reducible first | exact HB.out | apply below_alloc | apply pw_below_drewN | apply below_drew1 | refine below_set ?_ GE170.out | refine below_set ?_ GE188.out) | exact HB.out)) hb); clear BK170; clear BK188; clear HB; have BK170 := n0_; have BK188 := n1_; have HB := n2_; clear n0_ n1_ n2_; (try clear hb); (try clear hb2); (try clear hk); (try clear hi)) | ((with_reducible refine gate_dst (N := 16) rfl ?_); (try (refine gate_guard (by rfl) ?_; dsimp only)); refine box_event ?hg (N := 16) ?hd (cs := #[.int .i64 0, .int .i64 0, .bool false, .bool false, .int .i64 0, .int .i64 0, .int .i64 0, .int .u32 0, .int .u32 0, .string (⟨#[]⟩ : ByteArray)]) (t := 24) ?hr ?_; (case hd => rfl); (case hg => rfl); (case hr => first | (go_simp; done) | (go_simp; rfl)); intro gb204 hg w83 hbox hb; have n0_ := Aside0.mk (blk_below (g := gb170) (o := .cells #[.int .i64 a0_0, .int .i64 a0_1, .bool a0_2, .bool a0_3, .int .i64 a0_4, .int .i64 a0_5, .int .i64 a0_6, .int .u32 a0_7, .int .u32 a0_8, .string a0_9] 24 (0, 0)) (by (with_reducible repeat (first | refine blk_drewN ?_ _ | refine blk_drew ?_ | refine blk_alloc ?_ _)); exact BK170.out) hb); have n1_ := Aside0.mk (blk_below (g := gb188) (o := .cells #[.int .i64 t176, .int .i64 t177, .bool t178, .bool t179, .int .i64 t180, .int .i64 t181, .int .i64 t182, .int .u32 t183, .int .u32 t184, .string t185] 24 (0, 0)) (by (with_reducible repeat (first | refine blk_drewN ?_ _ | refine blk_drew ?_ | refine blk_alloc ?_ _)); exact BK188.out) hb); have n2_ := Aside0.mk (below_step (by repeat (first | (with_reducible first | exact HB.out | apply below_alloc | apply pw_below_drewN | apply below_drew1 | refine below_set ?_ GE170.out | refine below_set ?_ GE188.out) | exact HB.out)) hb); have n3_ := Aside0.mk (hbox); have n4_ := Aside0.mk ((by rw [hg]; exact (below_size (by repeat (first | (with_reducible first | exact HB.out | apply below_alloc | apply pw_below_drewN | apply below_drew1 | refine below_set ?_ GE170.out | refine below_set ?_ GE188.out) | exact HB.out))) : w.heap.size ≤ gb204)); have n5_ := Aside0.mk ((by rw [hg]; exact (below_size (by repeat (first | (with_reducible first | exact HB.out | apply below_alloc | apply pw_below_drewN | apply below_drew1 | refine below_set ?_ GE170.out | refine below_set ?_ GE188.out) | exact HB.out))) : w.heap.size ≤ gb204)); have n6_ := Aside0.mk ((by rw [hg]; exact Nat.ne_of_lt (blk_lt (g := gb170) (o := .cells #[.int .i64 a0_0, .int .i64 a0_1, .bool a0_2, .bool a0_3, .int .i64 a0_4, .int .i64 a0_5, .int .i64 a0_6, .int .u32 a0_7, .int .u32 a0_8, .string a0_9] 24 (0, 0)) (by (with_reducible repeat (first | refine blk_drewN ?_ _ | refine blk_drew ?_ | refine blk_alloc ?_ _)); exact BK170.out)) : gb170 ≠ gb204)); have n7_ := Aside0.mk ((by rw [hg]; exact Nat.ne_of_gt (blk_lt (g := gb170) (o := .cells #[.int .i64 a0_0, .int .i64 a0_1, .bool a0_2, .bool a0_3, .int .i64 a0_4, .int .i64 a0_5, .int .i64 a0_6, .int .u32 a0_7, .int .u32 a0_8, .string a0_9] 24 (0, 0)) (by (with_reducible repeat (first | refine blk_drewN ?_ _ | refine blk_drew ?_ | refine blk_alloc ?_ _)); exact BK170.out)) : gb204 ≠ gb170)); have n8_ := Aside0.mk ((by rw [hg]; exact Nat.ne_of_lt (blk_lt (g := gb188) (o := .cells #[.int .i64 t176, .int .i64 t177, .bool t178, .bool t179, .int .i64 t180, .int .i64 t181, .int .i64 t182, .int .u32 t183, .int .u32 t184, .string t185] 24 (0, 0)) (by (with_reducible repeat (first | refine blk_drewN ?_ _ | refine blk_drew ?_ | refine blk_alloc ?_ _)); exact BK188.out)) : gb188 ≠ gb204)); have n9_ := Aside0.mk ((by rw [hg]; exact Nat.ne_of_gt (blk_lt (g := gb188) (o := .cells #[.int .i64 t176, .int .i64 t177, .bool t178, .bool t179, .int .i64 t180, .int .i64 t181, .int .i64 t182, .int .u32 t183, .int .u32 t184, .string t185] 24 (0, 0)) (by (with_reducible repeat (first | refine blk_drewN ?_ _ | refine blk_drew ?_ | refine blk_alloc ?_ _)); exact BK188.out)) : gb204 ≠ gb188)); clear BK170; clear BK188; clear HB; have BK170 := n0_; have BK188 := n1_; have HB := n2_; have BK204 := n3_; have GW204 := n4_; have GE204 := n5_; have NB170_204 := n6_; have NB204_170 := n7_; have NB188_204 := n8_; have NB204_188 := n9_; clear n0_ n1_ n2_ n3_ n4_ n5_ n6_ n7_ n8_ n9_; clear hb hbox hg; have hnb84 := NB204_170.out; have hnc84 := NB170_204.out; have hnb85 := NB204_188.out; have hnc85 := NB188_204.out; have hcz86_0 : w83.cell? ⟨gb204, 0, none⟩ = some (.int .i64 0) := (blk_cell BK204.out 0).trans rfl; have hcz86_1 : w83.cell? ⟨gb204, 1, none⟩ = some (.int .i64 0) := (blk_cell BK204.out 1).trans rfl; have hcz86_2 : w83.cell? ⟨gb204, 2, none⟩ = some (.bool false) := (blk_cell BK204.out 2).trans rfl; have hcz86_3 : w83.cell? ⟨gb204, 3, none⟩ = some (.bool false) := (blk_cell BK204.out 3).trans rfl; have hcz86_4 : w83.cell? ⟨gb204, 4, none⟩ = some (.int .i64 0) := (blk_cell BK204.out 4).trans rfl; have hcz86_5 : w83.cell? ⟨gb204, 5, none⟩ = some (.int .i64 0) := (blk_cell BK204.out 5).trans rfl; have hcz86_6 : w83.cell? ⟨gb204, 6, none⟩ = some (.int .i64 0) := (blk_cell BK204.out 6).trans rfl; have hcz86_7 : w83.cell? ⟨gb204, 7, none⟩ = some (.int .u32 0) := (blk_cell BK204.out 7).trans rfl; have hcz86_8 : w83.cell? ⟨gb204, 8, none⟩ = some (.int .u32 0) := (blk_cell BK204.out 8).trans rfl; have hcz86_9 : w83.cell? ⟨gb204, 9, none⟩ = some (.string (⟨#[]⟩ : ByteArray)) := (blk_cell BK204.out 9).trans rfl; have hfz86_0 := blk_frozen BK204.out 0; have hfz86_1 := blk_frozen BK204.out 1; have hfz86_2 := blk_frozen BK204.out 2; have hfz86_3 := blk_frozen BK204.out 3; have hfz86_4 := blk_frozen BK204.out 4; have hfz86_5 := blk_frozen BK204.out 5; have hfz86_6 := blk_frozen BK204.out 6; have hfz86_7 := blk_frozen BK204.out 7; have hfz86_8 := blk_frozen BK204.out 8; have hfz86_9 := blk_frozen BK204.out 9) | ((with_reducible refine gate_callee (f := 23) rfl ?_); refine goesL_ (some 126) rfl rfl Try.func23 (by kernel_rfl) rfl #[.int .i64 a3, .int .i64 (t172.size : Int)] rfl (by (try simp only [List.map_toArray, List.map_cons, List.map_nil]); first | done | rfl | (simp only [List.length_drop, List.length_take]; rfl)) ?_; (with_reducible refine (rampartlaw00_Place.calls a3 (t172.size : Int) t205 _ A54.out).mono ?_); rintro e w' ⟨rfl, ⟨nd, rfl⟩⟩; refine ⟨_, rfl, ?_⟩) | ((with_reducible refine gate_callee (f := 18) rfl ?_); refine goesL_ (some 128) rfl rfl Try.func18 (by kernel_rfl) rfl #[.string (t172.extract 0 (t205 : Int).toNat)] rfl (by (try simp only [List.map_toArray, List.map_cons, List.map_nil]); first | done | rfl | (simp only [List.length_drop, List.length_take]; rfl)) ?_; (with_reducible refine (ipv4_Get.calls kj18 (t172.extract 0 (t205 : Int).toNat) t206 t207 t208 t209 t210 t211 t212 t213 t214 t215 t216 t217 _ A57.out).mono ?_); rintro e w87 ⟨rfl, hb⟩; refine ⟨_, rfl, ?_⟩; have n0_ := Aside0.mk (blk_below (g := gb170) (o := .cells #[.int .i64 a0_0, .int .i64 a0_1, .bool a0_2, .bool a0_3, .int .i64 a0_4, .int .i64 a0_5, .int .i64 a0_6, .int .u32 a0_7, .int .u32 a0_8, .string a0_9] 24 (0, 0)) (by (with_reducible repeat (first | refine blk_drewN ?_ _ | refine blk_drew ?_ | refine blk_alloc ?_ _)); refine blk_far ?_ NB170_204.out _; (with_reducible repeat (first | refine blk_drewN ?_ _ | refine blk_drew ?_ | refine blk_alloc ?_ _)); refine blk_far ?_ NB170_204.out _; (with_reducible repeat (first | refine blk_drewN ?_ _ | refine blk_drew ?_ | refine blk_alloc ?_ _)); refine blk_far ?_ NB170_204.out _; (with_reducible repeat (first | refine blk_drewN ?_ _ | refine blk_drew ?_ | refine blk_alloc ?_ _)); refine blk_far ?_ NB170_204.out _; (with_reducible repeat (first | refine blk_drewN ?_ _ | refine blk_drew ?_ | refine blk_alloc ?_ _)); refine blk_far ?_ NB170_204.out _; (with_reducible repeat (first | refine blk_drewN ?_ _ | refine blk_drew ?_ | refine blk_alloc ?_ _)); refine blk_far ?_ NB170_204.out _; (with_reducible repeat (first | refine blk_drewN ?_ _ | refine blk_drew ?_ | refine blk_alloc ?_ _)); refine blk_far ?_ NB170_204.out _; (with_reducible repeat (first | refine blk_drewN ?_ _ | refine blk_drew ?_ | refine blk_alloc ?_ _)); refine blk_far ?_ NB170_204.out _; (with_reducible repeat (first | refine blk_drewN ?_ _ | refine blk_drew ?_ | refine blk_alloc ?_ _)); refine blk_far ?_ NB170_204.out _; (with_reducible repeat (first | refine blk_drewN ?_ _ | refine blk_drew ?_ | refine blk_alloc ?_ _)); refine blk_far ?_ NB170_204.out _; (with_reducible repeat (first | refine blk_drewN ?_ _ | refine blk_drew ?_ | refine blk_alloc ?_ _)); exact BK170.out) hb); have n1_ := Aside0.mk (blk_below (g := gb188) (o := .cells #[.int .i64 t176, .int .i64 t177, .bool t178, .bool t179, .int .i64 t180, .int .i64 t181, .int .i64 t182, .int .u32 t183, .int .u32 t184, .string t185] 24 (0, 0)) (by (with_reducible repeat (first | refine blk_drewN ?_ _ | refine blk_drew ?_ | refine blk_alloc ?_ _)); refine blk_far ?_ NB188_204.out _; (with_reducible repeat (first | refine blk_drewN ?_ _ | refine blk_drew ?_ | refine blk_alloc ?_ _)); refine blk_far ?_ NB188_204.out _; (with_reducible repeat (first | refine blk_drewN ?_ _ | refine blk_drew ?_ | refine blk_alloc ?_ _)); refine blk_far ?_ NB188_204.out _; (with_reducible repeat (first | refine blk_drewN ?_ _ | refine blk_drew ?_ | refine blk_alloc ?_ _)); refine blk_far ?_ NB188_204.out _; (with_reducible repeat (first | refine blk_drewN ?_ _ | refine blk_drew ?_ | refine blk_alloc ?_ _)); refine blk_far ?_ NB188_204.out _; (with_reducible repeat (first | refine blk_drewN ?_ _ | refine blk_drew ?_ | refine blk_alloc ?_ _)); refine blk_far ?_ NB188_204.out _; (with_reducible repeat (first | refine blk_drewN ?_ _ | refine blk_drew ?_ | refine blk_alloc ?_ _)); refine blk_far ?_ NB188_204.out _; (with_reducible repeat (first | refine blk_drewN ?_ _ | refine blk_drew ?_ | refine blk_alloc ?_ _)); refine blk_far ?_ NB188_204.out _; (with_reducible repeat (first | refine blk_drewN ?_ _ | refine blk_drew ?_ | refine blk_alloc ?_ _)); refine blk_far ?_ NB188_204.out _; (with_reducible repeat (first | refine blk_drewN ?_ _ | refine blk_drew ?_ | refine blk_alloc ?_ _)); refine blk_far ?_ NB188_204.out _; (with_reducible repeat (first | refine blk_drewN ?_ _ | refine blk_drew ?_ | refine blk_alloc ?_ _)); exact BK188.out) hb); have n2_ := Aside0.mk (blk_below (g := gb204) (o := .cells #[.int .i64 t192, .int .i64 t193, .bool t194, .bool t195, .int .i64 t196, .int .i64 t197, .int .i64 t198, .int .u32 t199, .int .u32 t200, .string t201] 24 (0, 0)) (by (with_reducible repeat (first | refine blk_drewN ?_ _ | refine blk_drew ?_ | refine blk_alloc ?_ _)); refine blk_put (cs := #[.int .i64 t192, .int .i64 t193, .bool t194, .bool t195, .int .i64 t196, .int .i64 t197, .int .i64 t198, .int .u32 t199, .int .u32 t200, .string (⟨#[]⟩ : ByteArray)]) ?_ 9 _ rfl; (with_reducible repeat (first | refine blk_drewN ?_ _ | refine blk_drew ?_ | refine blk_alloc ?_ _)); refine blk_put (cs := #[.int .i64 t192, .int .i64 t193, .bool t194, .bool t195, .int .i64 t196, .int .i64 t197, .int .i64 t198, .int .u32 t199, .int .u32 0, .string (⟨#[]⟩ : ByteArray)]) ?_ 8 _ rfl; (with_reducible repeat (first | refine blk_drewN ?_ _ | refine blk_drew ?_ | refine blk_alloc ?_ _)); refine blk_put (cs := #[.int .i64 t192, .int .i64 t193, .bool t194, .bool t195, .int .i64 t196, .int .i64 t197, .int .i64 t198, .int .u32 0, .int .u32 0, .string (⟨#[]⟩ : ByteArray)]) ?_ 7 _ rfl; (with_reducible repeat (first | refine blk_drewN ?_ _ | refine blk_drew ?_ | refine blk_alloc ?_ _)); refine blk_put (cs := #[.int .i64 t192, .int .i64 t193, .bool t194, .bool t195, .int .i64 t196, .int .i64 t197, .int .i64 0, .int .u32 0, .int .u32 0, .string (⟨#[]⟩ : ByteArray)]) ?_ 6 _ rfl; (with_reducible repeat (first | refine blk_drewN ?_ _ | refine blk_drew ?_ | refine blk_alloc ?_ _)); refine blk_put (cs := #[.int .i64 t192, .int .i64 t193, .bool t194, .bool t195, .int .i64 t196, .int .i64 0, .int .i64 0, .int .u32 0, .int .u32 0, .string (⟨#[]⟩ : ByteArray)]) ?_ 5 _ rfl; (with_reducible repeat (first | refine blk_drewN ?_ _ | refine blk_drew ?_ | refine blk_alloc ?_ _)); refine blk_put (cs := #[.int .i64 t192, .int .i64 t193, .bool t194, .bool t195, .int .i64 0, .int .i64 0, .int .i64 0, .int .u32 0, .int .u32 0, .string (⟨#[]⟩ : ByteArray)]) ?_ 4 _ rfl; (with_reducible repeat (first | refine blk_drewN ?_ _ | refine blk_drew ?_ | refine blk_alloc ?_ _)); refine blk_put (cs := #[.int .i64 t192, .int .i64 t193, .bool t194, .bool false, .int .i64 0, .int .i64 0, .int .i64 0, .int .u32 0, .int .u32 0, .string (⟨#[]⟩ : ByteArray)]) ?_ 3 _ rfl; (with_reducible repeat (first | refine blk_drewN ?_ _ | refine blk_drew ?_ | refine blk_alloc ?_ _)); refine blk_put (cs := #[.int .i64 t192, .int .i64 t193, .bool false, .bool false, .int .i64 0, .int .i64 0, .int .i64 0, .int .u32 0, .int .u32 0, .string (⟨#[]⟩ : ByteArray)]) ?_ 2 _ rfl; (with_reducible repeat (first | refine blk_drewN ?_ _ | refine blk_drew ?_ | refine blk_alloc ?_ _)); refine blk_put (cs := #[.int .i64 t192, .int .i64 0, .bool false, .bool false, .int .i64 0, .int .i64 0, .int .i64 0, .int .u32 0, .int .u32 0, .string (⟨#[]⟩ : ByteArray)]) ?_ 1 _ rfl; (with_reducible repeat (first | refine blk_drewN ?_ _ | refine blk_drew ?_ | refine blk_alloc ?_ _)); refine blk_put (cs := #[.int .i64 0, .int .i64 0, .bool false, .bool false, .int .i64 0, .int .i64 0, .int .i64 0, .int .u32 0, .int .u32 0, .string (⟨#[]⟩ : ByteArray)]) ?_ 0 _ rfl; (with_reducible repeat (first | refine blk_drewN ?_ _ | refine blk_drew ?_ | refine blk_alloc ?_ _)); exact BK204.out) hb); have n3_ := Aside0.mk (below_step (by repeat (first | (with_reducible first | exact HB.out | apply below_alloc | apply pw_below_drewN | apply below_drew1 | refine below_set ?_ GE170.out | refine below_set ?_ GE188.out | refine below_set ?_ GE204.out) | exact HB.out)) hb); clear BK170; clear BK188; clear BK204; clear HB; have BK170 := n0_; have BK188 := n1_; have BK204 := n2_; have HB := n3_; clear n0_ n1_ n2_ n3_; (try clear hb); (try clear hb2); (try clear hk); (try clear hi)) | ((with_reducible refine gate_dst (N := 19) rfl ?_); (try (refine gate_guard (by rfl) ?_; dsimp only)); refine box_event ?hg (N := 19) ?hd (cs := #[.int .i64 0, .int .i64 0, .bool false, .bool false, .int .i64 0, .int .i64 0, .int .i64 0, .int .u32 0, .int .u32 0, .string (⟨#[]⟩ : ByteArray)]) (t := 24) ?hr ?_; (case hd => rfl); (case hg => rfl); (case hr => first | (go_simp; done) | (go_simp; rfl)); intro gb218 hg w88 hbox hb; have n0_ := Aside0.mk (blk_below (g := gb170) (o := .cells #[.int .i64 a0_0, .int .i64 a0_1, .bool a0_2, .bool a0_3, .int .i64 a0_4, .int .i64 a0_5, .int .i64 a0_6, .int .u32 a0_7, .int .u32 a0_8, .string a0_9] 24 (0, 0)) (by (with_reducible repeat (first | refine blk_drewN ?_ _ | refine blk_drew ?_ | refine blk_alloc ?_ _)); exact BK170.out) hb); have n1_ := Aside0.mk (blk_below (g := gb188) (o := .cells #[.int .i64 t176, .int .i64 t177, .bool t178, .bool t179, .int .i64 t180, .int .i64 t181, .int .i64 t182, .int .u32 t183, .int .u32 t184, .string t185] 24 (0, 0)) (by (with_reducible repeat (first | refine blk_drewN ?_ _ | refine blk_drew ?_ | refine blk_alloc ?_ _)); exact BK188.out) hb); have n2_ := Aside0.mk (blk_below (g := gb204) (o := .cells #[.int .i64 t192, .int .i64 t193, .bool t194, .bool t195, .int .i64 t196, .int .i64 t197, .int .i64 t198, .int .u32 t199, .int .u32 t200, .string t201] 24 (0, 0)) (by (with_reducible repeat (first | refine blk_drewN ?_ _ | refine blk_drew ?_ | refine blk_alloc ?_ _)); exact BK204.out) hb); have n3_ := Aside0.mk (below_step (by repeat (first | (with_reducible first | exact HB.out | apply below_alloc | apply pw_below_drewN | apply below_drew1 | refine below_set ?_ GE170.out | refine below_set ?_ GE188.out | refine below_set ?_ GE204.out) | exact HB.out)) hb); have n4_ := Aside0.mk (hbox); have n5_ := Aside0.mk ((by rw [hg]; exact (below_size (by repeat (first | (with_reducible first | exact HB.out | apply below_alloc | apply pw_below_drewN | apply below_drew1 | refine below_set ?_ GE170.out | refine below_set ?_ GE188.out | refine below_set ?_ GE204.out) | exact HB.out))) : w.heap.size ≤ gb218)); have n6_ := Aside0.mk ((by rw [hg]; exact (below_size (by repeat (first | (with_reducible first | exact HB.out | apply below_alloc | apply pw_below_drewN | apply below_drew1 | refine below_set ?_ GE170.out | refine below_set ?_ GE188.out | refine below_set ?_ GE204.out) | exact HB.out))) : w.heap.size ≤ gb218)); have n7_ := Aside0.mk ((by rw [hg]; exact Nat.ne_of_lt (blk_lt (g := gb170) (o := .cells #[.int .i64 a0_0, .int .i64 a0_1, .bool a0_2, .bool a0_3, .int .i64 a0_4, .int .i64 a0_5, .int .i64 a0_6, .int .u32 a0_7, .int .u32 a0_8, .string a0_9] 24 (0, 0)) (by (with_reducible repeat (first | refine blk_drewN ?_ _ | refine blk_drew ?_ | refine blk_alloc ?_ _)); exact BK170.out)) : gb170 ≠ gb218)); have n8_ := Aside0.mk ((by rw [hg]; exact Nat.ne_of_gt (blk_lt (g := gb170) (o := .cells #[.int .i64 a0_0, .int .i64 a0_1, .bool a0_2, .bool a0_3, .int .i64 a0_4, .int .i64 a0_5, .int .i64 a0_6, .int .u32 a0_7, .int .u32 a0_8, .string a0_9] 24 (0, 0)) (by (with_reducible repeat (first | refine blk_drewN ?_ _ | refine blk_drew ?_ | refine blk_alloc ?_ _)); exact BK170.out)) : gb218 ≠ gb170)); have n9_ := Aside0.mk ((by rw [hg]; exact Nat.ne_of_lt (blk_lt (g := gb188) (o := .cells #[.int .i64 t176, .int .i64 t177, .bool t178, .bool t179, .int .i64 t180, .int .i64 t181, .int .i64 t182, .int .u32 t183, .int .u32 t184, .string t185] 24 (0, 0)) (by (with_reducible repeat (first | refine blk_drewN ?_ _ | refine blk_drew ?_ | refine blk_alloc ?_ _)); exact BK188.out)) : gb188 ≠ gb218)); have n10_ := Aside0.mk ((by rw [hg]; exact Nat.ne_of_gt (blk_lt (g := gb188) (o := .cells #[.int .i64 t176, .int .i64 t177, .bool t178, .bool t179, .int .i64 t180, .int .i64 t181, .int .i64 t182, .int .u32 t183, .int .u32 t184, .string t185] 24 (0, 0)) (by (with_reducible repeat (first | refine blk_drewN ?_ _ | refine blk_drew ?_ | refine blk_alloc ?_ _)); exact BK188.out)) : gb218 ≠ gb188)); have n11_ := Aside0.mk ((by rw [hg]; exact Nat.ne_of_lt (blk_lt (g := gb204) (o := .cells #[.int .i64 t192, .int .i64 t193, .bool t194, .bool t195, .int .i64 t196, .int .i64 t197, .int .i64 t198, .int .u32 t199, .int .u32 t200, .string t201] 24 (0, 0)) (by (with_reducible repeat (first | refine blk_drewN ?_ _ | refine blk_drew ?_ | refine blk_alloc ?_ _)); exact BK204.out)) : gb204 ≠ gb218)); have n12_ := Aside0.mk ((by rw [hg]; exact Nat.ne_of_gt (blk_lt (g := gb204) (o := .cells #[.int .i64 t192, .int .i64 t193, .bool t194, .bool t195, .int .i64 t196, .int .i64 t197, .int .i64 t198, .int .u32 t199, .int .u32 t200, .string t201] 24 (0, 0)) (by (with_reducible repeat (first | refine blk_drewN ?_ _ | refine blk_drew ?_ | refine blk_alloc ?_ _)); exact BK204.out)) : gb218 ≠ gb204)); clear BK170; clear BK188; clear BK204; clear HB; have BK170 := n0_; have BK188 := n1_; have BK204 := n2_; have HB := n3_; have BK218 := n4_; have GW218 := n5_; have GE218 := n6_; have NB170_218 := n7_; have NB218_170 := n8_; have NB188_218 := n9_; have NB218_188 := n10_; have NB204_218 := n11_; have NB218_204 := n12_; clear n0_ n1_ n2_ n3_ n4_ n5_ n6_ n7_ n8_ n9_ n10_ n11_ n12_; clear hb hbox hg; have hnb89 := NB218_170.out; have hnc89 := NB170_218.out; have hnb90 := NB218_188.out; have hnc90 := NB188_218.out; have hnb91 := NB218_204.out; have hnc91 := NB204_218.out; have hcz92_0 : w88.cell? ⟨gb218, 0, none⟩ = some (.int .i64 0) := (blk_cell BK218.out 0).trans rfl; have hcz92_1 : w88.cell? ⟨gb218, 1, none⟩ = some (.int .i64 0) := (blk_cell BK218.out 1).trans rfl; have hcz92_2 : w88.cell? ⟨gb218, 2, none⟩ = some (.bool false) := (blk_cell BK218.out 2).trans rfl; have hcz92_3 : w88.cell? ⟨gb218, 3, none⟩ = some (.bool false) := (blk_cell BK218.out 3).trans rfl; have hcz92_4 : w88.cell? ⟨gb218, 4, none⟩ = some (.int .i64 0) := (blk_cell BK218.out 4).trans rfl; have hcz92_5 : w88.cell? ⟨gb218, 5, none⟩ = some (.int .i64 0) := (blk_cell BK218.out 5).trans rfl; have hcz92_6 : w88.cell? ⟨gb218, 6, none⟩ = some (.int .i64 0) := (blk_cell BK218.out 6).trans rfl; have hcz92_7 : w88.cell? ⟨gb218, 7, none⟩ = some (.int .u32 0) := (blk_cell BK218.out 7).trans rfl; have hcz92_8 : w88.cell? ⟨gb218, 8, none⟩ = some (.int .u32 0) := (blk_cell BK218.out 8).trans rfl; have hcz92_9 : w88.cell? ⟨gb218, 9, none⟩ = some (.string (⟨#[]⟩ : ByteArray)) := (blk_cell BK218.out 9).trans rfl; have hfz92_0 := blk_frozen BK218.out 0; have hfz92_1 := blk_frozen BK218.out 1; have hfz92_2 := blk_frozen BK218.out 2; have hfz92_3 := blk_frozen BK218.out 3; have hfz92_4 := blk_frozen BK218.out 4; have hfz92_5 := blk_frozen BK218.out 5; have hfz92_6 := blk_frozen BK218.out 6; have hfz92_7 := blk_frozen BK218.out 7; have hfz92_8 := blk_frozen BK218.out 8; have hfz92_9 := blk_frozen BK218.out 9) | (go_at_call 15; (with_reducible refine (rampartlaw03_awake.calls kj18  t220 _ A78.out (by first | rfl | exact HR.out)).mono ?_); rintro e w93 ⟨rfl, hb⟩; have n0_ := Aside0.mk (blk_below (g := gb170) (o := .cells #[.int .i64 a0_0, .int .i64 a0_1, .bool a0_2, .bool a0_3, .int .i64 a0_4, .int .i64 a0_5, .int .i64 a0_6, .int .u32 a0_7, .int .u32 a0_8, .string a0_9] 24 (0, 0)) (by (with_reducible repeat (first | refine blk_drewN ?_ _ | refine blk_drew ?_ | refine blk_alloc ?_ _)); refine blk_far ?_ NB170_218.out _; (with_reducible repeat (first | refine blk_drewN ?_ _ | refine blk_drew ?_ | refine blk_alloc ?_ _)); refine blk_far ?_ NB170_218.out _; (with_reducible repeat (first | refine blk_drewN ?_ _ | refine blk_drew ?_ | refine blk_alloc ?_ _)); refine blk_far ?_ NB170_218.out _; (with_reducible repeat (first | refine blk_drewN ?_ _ | refine blk_drew ?_ | refine blk_alloc ?_ _)); refine blk_far ?_ NB170_218.out _; (with_reducible repeat (first | refine blk_drewN ?_ _ | refine blk_drew ?_ | refine blk_alloc ?_ _)); refine blk_far ?_ NB170_218.out _; (with_reducible repeat (first | refine blk_drewN ?_ _ | refine blk_drew ?_ | refine blk_alloc ?_ _)); refine blk_far ?_ NB170_218.out _; (with_reducible repeat (first | refine blk_drewN ?_ _ | refine blk_drew ?_ | refine blk_alloc ?_ _)); refine blk_far ?_ NB170_218.out _; (with_reducible repeat (first | refine blk_drewN ?_ _ | refine blk_drew ?_ | refine blk_alloc ?_ _)); refine blk_far ?_ NB170_218.out _; (with_reducible repeat (first | refine blk_drewN ?_ _ | refine blk_drew ?_ | refine blk_alloc ?_ _)); refine blk_far ?_ NB170_218.out _; (with_reducible repeat (first | refine blk_drewN ?_ _ | refine blk_drew ?_ | refine blk_alloc ?_ _)); refine blk_far ?_ NB170_218.out _; (with_reducible repeat (first | refine blk_drewN ?_ _ | refine blk_drew ?_ | refine blk_alloc ?_ _)); exact BK170.out) hb); have n1_ := Aside0.mk (blk_below (g := gb188) (o := .cells #[.int .i64 t176, .int .i64 t177, .bool t178, .bool t179, .int .i64 t180, .int .i64 t181, .int .i64 t182, .int .u32 t183, .int .u32 t184, .string t185] 24 (0, 0)) (by (with_reducible repeat (first | refine blk_drewN ?_ _ | refine blk_drew ?_ | refine blk_alloc ?_ _)); refine blk_far ?_ NB188_218.out _; (with_reducible repeat (first | refine blk_drewN ?_ _ | refine blk_drew ?_ | refine blk_alloc ?_ _)); refine blk_far ?_ NB188_218.out _; (with_reducible repeat (first | refine blk_drewN ?_ _ | refine blk_drew ?_ | refine blk_alloc ?_ _)); refine blk_far ?_ NB188_218.out _; (with_reducible repeat (first | refine blk_drewN ?_ _ | refine blk_drew ?_ | refine blk_alloc ?_ _)); refine blk_far ?_ NB188_218.out _; (with_reducible repeat (first | refine blk_drewN ?_ _ | refine blk_drew ?_ | refine blk_alloc ?_ _)); refine blk_far ?_ NB188_218.out _; (with_reducible repeat (first | refine blk_drewN ?_ _ | refine blk_drew ?_ | refine blk_alloc ?_ _)); refine blk_far ?_ NB188_218.out _; (with_reducible repeat (first | refine blk_drewN ?_ _ | refine blk_drew ?_ | refine blk_alloc ?_ _)); refine blk_far ?_ NB188_218.out _; (with_reducible repeat (first | refine blk_drewN ?_ _ | refine blk_drew ?_ | refine blk_alloc ?_ _)); refine blk_far ?_ NB188_218.out _; (with_reducible repeat (first | refine blk_drewN ?_ _ | refine blk_drew ?_ | refine blk_alloc ?_ _)); refine blk_far ?_ NB188_218.out _; (with_reducible repeat (first | refine blk_drewN ?_ _ | refine blk_drew ?_ | refine blk_alloc ?_ _)); refine blk_far ?_ NB188_218.out _; (with_reducible repeat (first | refine blk_drewN ?_ _ | refine blk_drew ?_ | refine blk_alloc ?_ _)); exact BK188.out) hb); have n2_ := Aside0.mk (blk_below (g := gb204) (o := .cells #[.int .i64 t192, .int .i64 t193, .bool t194, .bool t195, .int .i64 t196, .int .i64 t197, .int .i64 t198, .int .u32 t199, .int .u32 t200, .string t201] 24 (0, 0)) (by (with_reducible repeat (first | refine blk_drewN ?_ _ | refine blk_drew ?_ | refine blk_alloc ?_ _)); refine blk_far ?_ NB204_218.out _; (with_reducible repeat (first | refine blk_drewN ?_ _ | refine blk_drew ?_ | refine blk_alloc ?_ _)); refine blk_far ?_ NB204_218.out _; (with_reducible repeat (first | refine blk_drewN ?_ _ | refine blk_drew ?_ | refine blk_alloc ?_ _)); refine blk_far ?_ NB204_218.out _; (with_reducible repeat (first | refine blk_drewN ?_ _ | refine blk_drew ?_ | refine blk_alloc ?_ _)); refine blk_far ?_ NB204_218.out _; (with_reducible repeat (first | refine blk_drewN ?_ _ | refine blk_drew ?_ | refine blk_alloc ?_ _)); refine blk_far ?_ NB204_218.out _; (with_reducible repeat (first | refine blk_drewN ?_ _ | refine blk_drew ?_ | refine blk_alloc ?_ _)); refine blk_far ?_ NB204_218.out _; (with_reducible repeat (first | refine blk_drewN ?_ _ | refine blk_drew ?_ | refine blk_alloc ?_ _)); refine blk_far ?_ NB204_218.out _; (with_reducible repeat (first | refine blk_drewN ?_ _ | refine blk_drew ?_ | refine blk_alloc ?_ _)); refine blk_far ?_ NB204_218.out _; (with_reducible repeat (first | refine blk_drewN ?_ _ | refine blk_drew ?_ | refine blk_alloc ?_ _)); refine blk_far ?_ NB204_218.out _; (with_reducible repeat (first | refine blk_drewN ?_ _ | refine blk_drew ?_ | refine blk_alloc ?_ _)); refine blk_far ?_ NB204_218.out _; (with_reducible repeat (first | refine blk_drewN ?_ _ | refine blk_drew ?_ | refine blk_alloc ?_ _)); exact BK204.out) hb); have n3_ := Aside0.mk (blk_below (g := gb218) (o := .cells #[.int .i64 t206, .int .i64 t207, .bool t208, .bool t209, .int .i64 t210, .int .i64 t211, .int .i64 t212, .int .u32 t213, .int .u32 t214, .string t215] 24 (0, 0)) (by (with_reducible repeat (first | refine blk_drewN ?_ _ | refine blk_drew ?_ | refine blk_alloc ?_ _)); refine blk_put (cs := #[.int .i64 t206, .int .i64 t207, .bool t208, .bool t209, .int .i64 t210, .int .i64 t211, .int .i64 t212, .int .u32 t213, .int .u32 t214, .string (⟨#[]⟩ : ByteArray)]) ?_ 9 _ rfl; (with_reducible repeat (first | refine blk_drewN ?_ _ | refine blk_drew ?_ | refine blk_alloc ?_ _)); refine blk_put (cs := #[.int .i64 t206, .int .i64 t207, .bool t208, .bool t209, .int .i64 t210, .int .i64 t211, .int .i64 t212, .int .u32 t213, .int .u32 0, .string (⟨#[]⟩ : ByteArray)]) ?_ 8 _ rfl; (with_reducible repeat (first | refine blk_drewN ?_ _ | refine blk_drew ?_ | refine blk_alloc ?_ _)); refine blk_put (cs := #[.int .i64 t206, .int .i64 t207, .bool t208, .bool t209, .int .i64 t210, .int .i64 t211, .int .i64 t212, .int .u32 0, .int .u32 0, .string (⟨#[]⟩ : ByteArray)]) ?_ 7 _ rfl; (with_reducible repeat (first | refine blk_drewN ?_ _ | refine blk_drew ?_ | refine blk_alloc ?_ _)); refine blk_put (cs := #[.int .i64 t206, .int .i64 t207, .bool t208, .bool t209, .int .i64 t210, .int .i64 t211, .int .i64 0, .int .u32 0, .int .u32 0, .string (⟨#[]⟩ : ByteArray)]) ?_ 6 _ rfl; (with_reducible repeat (first | refine blk_drewN ?_ _ | refine blk_drew ?_ | refine blk_alloc ?_ _)); refine blk_put (cs := #[.int .i64 t206, .int .i64 t207, .bool t208, .bool t209, .int .i64 t210, .int .i64 0, .int .i64 0, .int .u32 0, .int .u32 0, .string (⟨#[]⟩ : ByteArray)]) ?_ 5 _ rfl; (with_reducible repeat (first | refine blk_drewN ?_ _ | refine blk_drew ?_ | refine blk_alloc ?_ _)); refine blk_put (cs := #[.int .i64 t206, .int .i64 t207, .bool t208, .bool t209, .int .i64 0, .int .i64 0, .int .i64 0, .int .u32 0, .int .u32 0, .string (⟨#[]⟩ : ByteArray)]) ?_ 4 _ rfl; (with_reducible repeat (first | refine blk_drewN ?_ _ | refine blk_drew ?_ | refine blk_alloc ?_ _)); refine blk_put (cs := #[.int .i64 t206, .int .i64 t207, .bool t208, .bool false, .int .i64 0, .int .i64 0, .int .i64 0, .int .u32 0, .int .u32 0, .string (⟨#[]⟩ : ByteArray)]) ?_ 3 _ rfl; (with_reducible repeat (first | refine blk_drewN ?_ _ | refine blk_drew ?_ | refine blk_alloc ?_ _)); refine blk_put (cs := #[.int .i64 t206, .int .i64 t207, .bool false, .bool false, .int .i64 0, .int .i64 0, .int .i64 0, .int .u32 0, .int .u32 0, .string (⟨#[]⟩ : ByteArray)]) ?_ 2 _ rfl; (with_reducible repeat (first | refine blk_drewN ?_ _ | refine blk_drew ?_ | refine blk_alloc ?_ _)); refine blk_put (cs := #[.int .i64 t206, .int .i64 0, .bool false, .bool false, .int .i64 0, .int .i64 0, .int .i64 0, .int .u32 0, .int .u32 0, .string (⟨#[]⟩ : ByteArray)]) ?_ 1 _ rfl; (with_reducible repeat (first | refine blk_drewN ?_ _ | refine blk_drew ?_ | refine blk_alloc ?_ _)); refine blk_put (cs := #[.int .i64 0, .int .i64 0, .bool false, .bool false, .int .i64 0, .int .i64 0, .int .i64 0, .int .u32 0, .int .u32 0, .string (⟨#[]⟩ : ByteArray)]) ?_ 0 _ rfl; (with_reducible repeat (first | refine blk_drewN ?_ _ | refine blk_drew ?_ | refine blk_alloc ?_ _)); exact BK218.out) hb); have n4_ := Aside0.mk (below_step (by repeat (first | (with_reducible first | exact HB.out | apply below_alloc | apply pw_below_drewN | apply below_drew1 | refine below_set ?_ GE170.out | refine below_set ?_ GE188.out | refine below_set ?_ GE204.out | refine below_set ?_ GE218.out) | exact HB.out)) hb); clear BK170; clear BK188; clear BK204; clear BK218; clear HB; have BK170 := n0_; have BK188 := n1_; have BK204 := n2_; have BK218 := n3_; have HB := n4_; clear n0_ n1_ n2_ n3_ n4_; (try clear hb); (try clear hb2); (try clear hk); (try clear hi)))
                go_ret
                exact ⟨by first | rfl | (simp [errW_none, errW_some] <;> rfl) | (simp only [← hji45, ← hji49, ← hji51]; first | rfl | (simp [errW_none, errW_some] <;> rfl)) | (simp [*, errW_none, errW_some] <;> rfl), by repeat (first | (with_reducible first | exact HB.out | apply below_alloc | apply pw_below_drewN | apply below_drew1 | refine below_set ?_ GE170.out | refine below_set ?_ GE188.out | refine below_set ?_ GE204.out | refine below_set ?_ GE218.out) | exact HB.out)⟩
             ·
              rw [if_neg c56] at H
              exact absurd H (by simp)
            ·
             rw [if_neg c55] at H
             exact absurd H (by simp)
           ·
            rw [if_neg c50] at H
            exact absurd H (by simp)
          ·
           rw [if_neg c47] at H
           exact absurd H (by simp)
         ·
          rw [if_neg c46] at H
          exact absurd H (by simp)
     ·
      rw [if_neg c17] at H
      exact absurd H (by simp)
    ·
     rw [if_neg c16] at H
     have c16b0 : (t173 == 0) = false := beq_eq_false_iff_ne.mpr c16
     have c16b1 : (t173 != 0) = true := bne_iff_ne.mpr c16
     by_cases c94 : t172.toList = ([] : List UInt8)
     ·
      rw [if_pos c94] at H
      have c94b0 : (t172.toList == ([] : List UInt8)) = true := beq_iff_eq.mpr c94
      have c94b1 : (t172.toList != ([] : List UInt8)) = false := bne_eq_false_iff_eq.mpr c94
      clear c94
      replace H := Option.bind_eq_some_iff.mp H
      obtain ⟨t174, A950, H⟩ := H
      replace H : (if ((t173 == 1) == (!t174)) = true then ((rampartlaw03_awake.f kj4).bind fun t175 => (some t175)) else (some false)) = some r := H
      have A95 := Aside0.mk A950
      clear A950
      by_cases c96 : ((t173 == 1) == (!t174)) = true
      ·
       rw [if_pos c96] at H
       have c96b0 : ((t173 == 1) == (!t174)) = true := c96
       (try (have c96b1 : decide ((t173 == 1) = (!t174)) = true := by simpa using c96))
       (try (have c96b2 : ((t173 == 1) == (!t174)) = true := by simpa using c96))
       clear c96
       replace H := Option.bind_eq_some_iff.mp H
       obtain ⟨t175, A970, H⟩ := H
       replace H : (some t175) = some r := H
       have A97 := Aside0.mk A970
       clear A970
       obtain rfl := Option.some.inj H
       have hcz98_0 : wc.cell? ⟨gb170, 0, none⟩ = some (.int .i64 a0_0) := (blk_cell BK170.out 0).trans rfl
       have hcz98_1 : wc.cell? ⟨gb170, 1, none⟩ = some (.int .i64 a0_1) := (blk_cell BK170.out 1).trans rfl
       have hcz98_2 : wc.cell? ⟨gb170, 2, none⟩ = some (.bool a0_2) := (blk_cell BK170.out 2).trans rfl
       have hcz98_3 : wc.cell? ⟨gb170, 3, none⟩ = some (.bool a0_3) := (blk_cell BK170.out 3).trans rfl
       have hcz98_4 : wc.cell? ⟨gb170, 4, none⟩ = some (.int .i64 a0_4) := (blk_cell BK170.out 4).trans rfl
       have hcz98_5 : wc.cell? ⟨gb170, 5, none⟩ = some (.int .i64 a0_5) := (blk_cell BK170.out 5).trans rfl
       have hcz98_6 : wc.cell? ⟨gb170, 6, none⟩ = some (.int .i64 a0_6) := (blk_cell BK170.out 6).trans rfl
       have hcz98_7 : wc.cell? ⟨gb170, 7, none⟩ = some (.int .u32 a0_7) := (blk_cell BK170.out 7).trans rfl
       have hcz98_8 : wc.cell? ⟨gb170, 8, none⟩ = some (.int .u32 a0_8) := (blk_cell BK170.out 8).trans rfl
       have hcz98_9 : wc.cell? ⟨gb170, 9, none⟩ = some (.string a0_9) := (blk_cell BK170.out 9).trans rfl
       have hfz98_0 := blk_frozen BK170.out 0
       have hfz98_1 := blk_frozen BK170.out 1
       have hfz98_2 := blk_frozen BK170.out 2
       have hfz98_3 := blk_frozen BK170.out 3
       have hfz98_4 := blk_frozen BK170.out 4
       have hfz98_5 := blk_frozen BK170.out 5
       have hfz98_6 := blk_frozen BK170.out 6
       have hfz98_7 := blk_frozen BK170.out 7
       have hfz98_8 := blk_frozen BK170.out 8
       have hfz98_9 := blk_frozen BK170.out 9
       go_wp2_with (first | ((with_reducible refine gate_callee (f := 16) rfl ?_); refine goesL_ (some 40) rfl rfl Try.func16 (by kernel_rfl) rfl #[.agg #[.int .i64 a0_0, .int .i64 a0_1, .bool a0_2, .bool a0_3, .int .i64 a0_4, .int .i64 a0_5, .int .i64 a0_6, .int .u32 a0_7, .int .u32 a0_8, .string a0_9], .string a1] rfl (by (try simp only [List.map_toArray, List.map_cons, List.map_nil]); first | done | rfl | (simp only [List.length_drop, List.length_take]; rfl)) ?_; (with_reducible refine (ipv4_Put.calls kj4 a0_0 a0_1 a0_2 a0_3 a0_4 a0_5 a0_6 a0_7 a0_8 a0_9 a1 t172 t173 _ A15.out).mono ?_); rintro e w99 ⟨rfl, hb⟩; refine ⟨_, rfl, ?_⟩; have n0_ := Aside0.mk (blk_below (g := gb170) (o := .cells #[.int .i64 a0_0, .int .i64 a0_1, .bool a0_2, .bool a0_3, .int .i64 a0_4, .int .i64 a0_5, .int .i64 a0_6, .int .u32 a0_7, .int .u32 a0_8, .string a0_9] 24 (0, 0)) (by (with_reducible repeat (first | refine blk_drewN ?_ _ | refine blk_drew ?_ | refine blk_alloc ?_ _)); exact BK170.out) hb); have n1_ := Aside0.mk (below_step (by repeat (first | (with_reducible first | exact HB.out | apply below_alloc | apply pw_below_drewN | apply below_drew1 | refine below_set ?_ GE170.out) | exact HB.out)) hb); clear BK170; clear HB; have BK170 := n0_; have HB := n1_; clear n0_ n1_; (try clear hb); (try clear hb2); (try clear hk); (try clear hi); have hcz100_0 : w99.cell? ⟨gb170, 0, none⟩ = some (.int .i64 a0_0) := (blk_cell BK170.out 0).trans rfl; have hcz100_1 : w99.cell? ⟨gb170, 1, none⟩ = some (.int .i64 a0_1) := (blk_cell BK170.out 1).trans rfl; have hcz100_2 : w99.cell? ⟨gb170, 2, none⟩ = some (.bool a0_2) := (blk_cell BK170.out 2).trans rfl; have hcz100_3 : w99.cell? ⟨gb170, 3, none⟩ = some (.bool a0_3) := (blk_cell BK170.out 3).trans rfl; have hcz100_4 : w99.cell? ⟨gb170, 4, none⟩ = some (.int .i64 a0_4) := (blk_cell BK170.out 4).trans rfl; have hcz100_5 : w99.cell? ⟨gb170, 5, none⟩ = some (.int .i64 a0_5) := (blk_cell BK170.out 5).trans rfl; have hcz100_6 : w99.cell? ⟨gb170, 6, none⟩ = some (.int .i64 a0_6) := (blk_cell BK170.out 6).trans rfl; have hcz100_7 : w99.cell? ⟨gb170, 7, none⟩ = some (.int .u32 a0_7) := (blk_cell BK170.out 7).trans rfl; have hcz100_8 : w99.cell? ⟨gb170, 8, none⟩ = some (.int .u32 a0_8) := (blk_cell BK170.out 8).trans rfl; have hcz100_9 : w99.cell? ⟨gb170, 9, none⟩ = some (.string a0_9) := (blk_cell BK170.out 9).trans rfl; have hfz100_0 := blk_frozen BK170.out 0; have hfz100_1 := blk_frozen BK170.out 1; have hfz100_2 := blk_frozen BK170.out 2; have hfz100_3 := blk_frozen BK170.out 3; have hfz100_4 := blk_frozen BK170.out 4; have hfz100_5 := blk_frozen BK170.out 5; have hfz100_6 := blk_frozen BK170.out 6; have hfz100_7 := blk_frozen BK170.out 7; have hfz100_8 := blk_frozen BK170.out 8; have hfz100_9 := blk_frozen BK170.out 9) | (go_at_call 20; (with_reducible refine (ipv4_Check.calls a0_0 a0_1 a0_2 a0_3 a0_4 a0_5 a0_6 a0_7 a0_8 a0_9 t174 _ A95.out).mono ?_); rintro e w101 ⟨rfl, hb⟩; have n0_ := Aside0.mk (blk_below (g := gb170) (o := .cells #[.int .i64 a0_0, .int .i64 a0_1, .bool a0_2, .bool a0_3, .int .i64 a0_4, .int .i64 a0_5, .int .i64 a0_6, .int .u32 a0_7, .int .u32 a0_8, .string a0_9] 24 (0, 0)) (by (with_reducible repeat (first | refine blk_drewN ?_ _ | refine blk_drew ?_ | refine blk_alloc ?_ _)); exact BK170.out) hb); have n1_ := Aside0.mk (below_step (by repeat (first | (with_reducible first | exact HB.out | apply below_alloc | apply pw_below_drewN | apply below_drew1 | refine below_set ?_ GE170.out) | exact HB.out)) hb); clear BK170; clear HB; have BK170 := n0_; have HB := n1_; clear n0_ n1_; (try clear hb); (try clear hb2); (try clear hk); (try clear hi)) | (go_at_call 15; (with_reducible refine (rampartlaw03_awake.calls kj4  t175 _ A97.out (by first | rfl | exact HR.out)).mono ?_); rintro e w102 ⟨rfl, hb⟩; have n0_ := Aside0.mk (blk_below (g := gb170) (o := .cells #[.int .i64 a0_0, .int .i64 a0_1, .bool a0_2, .bool a0_3, .int .i64 a0_4, .int .i64 a0_5, .int .i64 a0_6, .int .u32 a0_7, .int .u32 a0_8, .string a0_9] 24 (0, 0)) (by (with_reducible repeat (first | refine blk_drewN ?_ _ | refine blk_drew ?_ | refine blk_alloc ?_ _)); exact BK170.out) hb); have n1_ := Aside0.mk (below_step (by repeat (first | (with_reducible first | exact HB.out | apply below_alloc | apply pw_below_drewN | apply below_drew1 | refine below_set ?_ GE170.out) | exact HB.out)) hb); clear BK170; clear HB; have BK170 := n0_; have HB := n1_; clear n0_ n1_; (try clear hb); (try clear hb2); (try clear hk); (try clear hi)))
       go_ret
       exact ⟨by first | rfl | (simp [errW_none, errW_some] <;> rfl) | (simp [*, errW_none, errW_some] <;> rfl), by repeat (first | (with_reducible first | exact HB.out | apply below_alloc | apply pw_below_drewN | apply below_drew1 | refine below_set ?_ GE170.out) | exact HB.out)⟩
      ·
       rw [if_neg c96] at H
       have c96b0 : ((t173 == 1) == (!t174)) = false := by simpa using c96
       (try (have c96b1 : decide ((t173 == 1) = (!t174)) = false := by simpa using c96))
       (try (have c96b2 : ((t173 == 1) == (!t174)) = false := by simpa using c96))
       (try (have c96b3 : ¬ ((t173 == 1) = (!t174)) := by simpa using c96))
       clear c96
       exact absurd ((Option.some.inj H).trans HR.out) (by decide)
     ·
      rw [if_neg c94] at H
      have c94b0 : (t172.toList == ([] : List UInt8)) = false := beq_eq_false_iff_ne.mpr c94
      have c94b1 : (t172.toList != ([] : List UInt8)) = true := bne_iff_ne.mpr c94
      exact absurd ((Option.some.inj H).trans HR.out) (by decide)


end Go.Proofs.Ytgolimfljndnmaa.HB
