/- What is proved: each Go function of this text answers as the plain Lean function beside it (a law: its given row, out of the plain statement). Conditions: those that stand in each theorem. Written by my drive.py, which calls the printer of the kit for what that covers. -/
import Derived.Test.YtgolimfljndnmaaHFx0
import Derived.Test.YtgolimfljndnmaaHFx1
import Derived.Test.YtgolimfljndnmaaHFx4
import Derived.Test.YtgolimfljndnmaaHFx6
import Derived.Test.YtgolimfljndnmaaHFx8
import Derived.Test.YtgolimfljndnmaaHFx9
import Derived.Test.YtgolimfljndnmaaHFx10
namespace Go.Proofs.Ytgolimfljndnmaa.HF
open Go.RowKit Go.Proofs.YtgolimfljndnmaaW.PrintWords Go.Proofs.YtgolimfljndnmaaW.PrintLast Go.Proofs.YtgolimfljndnmaaW.PrintMore
attribute [local go_sem] max2_int min2_int max_two min_two max_three min_three max_four min_four   -- for this text's walks alone
set_option linter.unusedVariables false
set_option linter.unusedSimpArgs false

/-! ### rampartlaw05_DgramBack: function 13 -/
theorem bset_size (s : ByteArray) (i : Nat) (v : Int) : (bset s i v).size = s.size := by
 show (s.data.toList.set i _).toArray.size = _
 simp
def cells8 (s : ByteArray) (pad : Nat) : Array Value := (s.data.map fun b => Value.int .u8 b.toNat) ++ Array.replicate pad (.int .u8 0)
/-- Block g holds the bytes s, then zeros; its mark lies behind its last cell. -/
def Row8 (w : World) (g : Nat) (s : ByteArray) : Prop := ∃ pad : Nat, w.heap[g]? = some (.cells (cells8 s pad) 5 ((cells8 s pad).size, (cells8 s pad).size + 1))
theorem cells8_size (s : ByteArray) (pad : Nat) : (cells8 s pad).size = s.size + pad := by simp [cells8]
theorem row8_new (w : World) (s : ByteArray) : Row8 (Lib.bytesWorld w 5 s) w.heap.size s := ⟨_, Lib.bytesWorld_at_new w 5 s⟩
theorem row8_move {w w' : World} {g : Nat} {s : ByteArray} (h : Row8 w g s) (hm : w'.heap[g]? = w.heap[g]?) : Row8 w' g s := by
 obtain ⟨p, hp⟩ := h
 exact ⟨p, hm.trans hp⟩
theorem row8_lt {w : World} {g : Nat} {s : ByteArray} (h : Row8 w g s) : g < w.heap.size := by
 obtain ⟨p, hp⟩ := h
 exact (Array.getElem?_eq_some_iff.1 hp).1
theorem row8_below {w w' : World} {g : Nat} {s : ByteArray} (h : Row8 w g s) (hb : Below w.heap.size w w') : Row8 w' g s := row8_move h (hb.block g (row8_lt h))
theorem row8_drewN {w : World} {g : Nat} {s : ByteArray} (h : Row8 w g s) (n : Nat) : Row8 (w.drewN n) g s := row8_below h (pw_below_drewN (Below.refl _ _) n)
theorem row8_cell {w : World} {g : Nat} {s : ByteArray} (h : Row8 w g s) {i : Int} (h0 : 0 ≤ i) (h1 : i < (s.size : Int)) : w.cell? ⟨g, i.toNat, none⟩ = some (.int .u8 (bt s i)) := by
 obtain ⟨p, hp⟩ := h
 have hi : i.toNat < s.size := by omega
 have hb := bt_at s i
 have e : w.cell? ⟨g, i.toNat, none⟩ = (cells8 s p)[i.toNat]? := by simp [World.cell?, hp]
 rw [e, cells8, Array.getElem?_append_left (by simpa using hi)]
 rw [Array.getElem?_map, Array.getElem?_eq_getElem (show i.toNat < s.data.size from hi)]
 show some (Value.int .u8 ((s.data[i.toNat]).toNat : Int)) = _
 rw [← hb hi]
 rfl
theorem row8_frozen {w : World} {g : Nat} {s : ByteArray} (h : Row8 w g s) {i : Int} (h0 : 0 ≤ i) (h1 : i < (s.size : Int)) : w.frozen? ⟨g, i.toNat, none⟩ = false := by
 obtain ⟨p, hp⟩ := h
 have hz := cells8_size s p
 simp only [World.frozen?, hp]
 rw [hz]
 simp
 omega
theorem row8_set {w : World} {g : Nat} {s : ByteArray} (h : Row8 w g s) {i : Int} (h0 : 0 ≤ i) (h1 : i < (s.size : Int)) {v : Int} (hv0 : 0 ≤ v) (hv1 : v < 256) : Row8 (w.setCell ⟨g, i.toNat, none⟩ (.int .u8 v)) g (bset s i.toNat v) := by
 obtain ⟨p, hp⟩ := h
 have hi : i.toNat < s.size := by omega
 have hz := cells8_size s p
 have hz2 : (cells8 (bset s i.toNat v) p).size = (cells8 s p).size := by rw [cells8_size, cells8_size, bset_size]
 have hc : (cells8 s p).setIfInBounds i.toNat (.int .u8 v) = cells8 (bset s i.toNat v) p := by
  have hvn : ((UInt8.ofNat v.toNat).toNat : Int) = v := by
   rw [UInt8.toNat_ofNat', Nat.mod_eq_of_lt (by omega)]
   omega
  apply Array.ext_getElem?
  intro j
  rw [Array.getElem?_setIfInBounds]
  have hs : s.data.size = s.size := rfl
  have hb : (bset s i.toNat v).data = s.data.set i.toNat (UInt8.ofNat v.toNat) hi := by
   apply Array.ext'
   simp [bset]
  by_cases hj : i.toNat = j
  ·
   subst hj
   rw [if_pos rfl, if_pos (by rw [hz]; omega), cells8, hb, Array.getElem?_append_left (by simpa using hi)]
   simp
   omega
  ·
   rw [if_neg hj]
   unfold cells8
   rw [hb]
   by_cases hjs : j < s.size
   ·
    rw [Array.getElem?_append_left (by simpa using hjs), Array.getElem?_append_left (by simpa using hjs)]
    simp [hj]
   ·
    rw [Array.getElem?_append_right (by simpa using Nat.le_of_not_lt hjs), Array.getElem?_append_right (by simpa using Nat.le_of_not_lt hjs)]
    simp
 refine ⟨p, ?_⟩
 rw [hz2, ← hc]
 simp [World.setCell, Array.getElem?_modify, hp]
theorem row8_back {P : Program} {w : World} {g : Nat} {s : ByteArray} (h : Row8 w g s) (n cap : Nat) (hn : n = s.size) (hs : P.underlying 34 = some (.slice 5)) (he : P.underlying 5 = some (.int .u8)) (hd : P.underlying 9 = some .string) :
  (convert 34 9 (.slice (some ⟨g, 0, none⟩) n cap)).run P w = .ok (.string s) w := by
 subst hn
 have := run_convert_bytes_back (P := P) w 34 9 5 ⟨g, 0, none⟩ cap s.data.toList hs he hd (fun j hj => by
  have hj' : j < s.size := by simpa using hj
  have hc := row8_cell h (i := (j : Int)) (by omega) (by omega)
  have hb := bt_at s (j : Int)
  rw [Int.toNat_natCast] at hc hb
  have e : (⟨g, 0, none⟩ : Addr).add j = ⟨g, j, none⟩ := by simp [Addr.add]; omega
  rw [e, hc, ← hb hj']
  rfl)
 have hl : s.data.toList.length = s.size := by simp
 rw [hl] at this
 rw [this]
theorem conv_event {P : Program} {ops : Array Oper} {Q : Exit → Act → World → Prop} {rest : List Oper} {o : Oper} {a : Act} {W : World} (hgd : o.guard = none) {N : Tmp} (_hd : o.dst = some N) {s : ByteArray}
  (hrun : (execOp a.eval o).run P W = .ok (.value (.slice (some ⟨W.heap.size, 0, none⟩) s.size (grownCap W s.size 0 5))) (Lib.bytesWorld W 5 s))
  (h : ∀ g, g = W.heap.size → ∀ c w1, Row8 w1 g s → Below W.heap.size W w1 → wpList P ops Q rest (a.put o.dst (.slice (some ⟨g, 0, none⟩) s.size c)) w1) : wpList P ops Q (o :: rest) a W :=
 Kd.event_run hgd hrun (h _ rfl _ _ (row8_new W s) (by
  refine ⟨rfl, rfl, rfl, ?_, fun i hi => Lib.bytesWorld_at_old W 5 s i hi⟩
  rw [Lib.bytesWorld_size]; omega))
theorem back_event {P : Program} {ops : Array Oper} {Q : Exit → Act → World → Prop} {rest : List Oper} {o : Oper} {a : Act} {W : World} (hgd : o.guard = none) {N : Tmp} (_hd : o.dst = some N) {s : ByteArray}
  (hrun : (execOp a.eval o).run P W = .ok (.value (.string s)) W) (h : ∀ w1, w1 = W → wpList P ops Q rest (a.put o.dst (.string s)) w1) : wpList P ops Q (o :: rest) a W :=
 Kd.event_run hgd hrun (h W rfl)
theorem set_eq {s t : ByteArray} {i v : Int} (h : gosem_cut_init.f s i v = some t) : t = bset s i.toNat v := by
 unfold gosem_cut_init.f at h
 split at h
 ·
  exact (Option.some.inj h).symm
 ·
  cases h
theorem set_bounds {s t : ByteArray} {i v : Int} (h : gosem_cut_init.f s i v = some t) : 0 ≤ i ∧ i < (s.size : Int) := by
 unfold gosem_cut_init.f at h
 split at h
 ·
  assumption
 ·
  cases h
theorem bits8_range (op : BinOp) (x y : Int) : 0 ≤ Go.bits op .u8 x y ∧ Go.bits op .u8 x y < 256 := by
 unfold Go.bits
 split <;> (try rw [IntKind.wrap_u8]) <;> omega

theorem row8_other {w : World} {g g' i : Nat} {s : ByteArray} {v : Value} (h : Row8 w g s) (hne : g ≠ g') : Row8 (w.setCell ⟨g', i, none⟩ v) g s :=
 row8_move h (by simp [World.setCell, Array.getElem?_modify, Ne.symm hne])
theorem back_row {P : Program} {ops : Array Oper} {Q : Exit → Act → World → Prop} {rest : List Oper} {o : Oper} {a : Act} {W : World} (hgd : o.guard = none) {N : Tmp} (_hd : o.dst = some N) {g n : Nat} {s : ByteArray}
  (hs : P.underlying 34 = some (.slice 5)) (he : P.underlying 5 = some (.int .u8)) (hd9 : P.underlying 9 = some .string) (hrow : Row8 W g s) (hn : n = s.size)
  (hrun : (∀ cap, (convert 34 9 (.slice (some ⟨g, 0, none⟩) n cap)).run P W = .ok (.string s) W) → (execOp a.eval o).run P W = .ok (.value (.string s)) W) (h : ∀ w1, w1 = W → wpList P ops Q rest (a.put o.dst (.string s)) w1) : wpList P ops Q (o :: rest) a W :=
 Kd.event_run hgd (hrun (fun cap => row8_back hrow n cap hn hs he hd9)) (h W rfl)
/-! ### rampartlaw05_DgramBack: function 13 -/
def rampartlaw05_DgramBack.j0 : Nat → Int → Int → ByteArray → Int → ByteArray → ByteArray → Bool → Option (Bool)
 | 0, _, _, _, _, _, _, _ => none
 | k + 1, x0, x1, x3, x4, x11, x13, x151 => if x151 = true then (some false) else (if (x3.size : Int) = 0 then ((rampartlaw05_awake.f k).bind fun t201 => (some t201)) else ((rampartlaw00_Place.f x4 (wrap64 (8 * (x3.size : Int)))).bind fun t202 => (if 0 ≤ (wrap64 (8 + (wrap64 (Int.tdiv t202 8)))) then (if (wrap64 (8 + (wrap64 (Int.tdiv t202 8)))) < (x11.size : Int) then (if 0 ≤ (IntKind.u64.wrap (Int.tmod t202 8)) then ((gosem_cut_init.f x11 (wrap64 (8 + (wrap64 (Int.tdiv t202 8)))) (Go.bits .xor .u8 (bt x11 (wrap64 (8 + (wrap64 (Int.tdiv t202 8))))) (shl .u8 1 (IntKind.u64.wrap (Int.tmod t202 8))))).bind fun t203 => (if (wrap64 (8 + (wrap64 (Int.tdiv t202 8)))) < (x13.size : Int) then ((gosem_cut_init.f x13 (wrap64 (8 + (wrap64 (Int.tdiv t202 8)))) (Go.bits .xor .u8 (bt x13 (wrap64 (8 + (wrap64 (Int.tdiv t202 8))))) (shl .u8 1 (IntKind.u64.wrap (Int.tmod t202 8))))).bind fun t204 => ((dgram_GetUDP.f k x0 x1 t203).bind fun bt205 => ((dgram_GetICMP.f k t204).bind fun bt213 => (if bt205.2.2.2.2.2.2 = 4 then (if bt213.2.2.2.2.2.2 = 4 then ((rampartlaw05_awake.f k).bind fun t221 => (some t221)) else (some false)) else (some false))))) else (none))) else (none)) else (none)) else (none))))
def rampartlaw05_DgramBack.f (k : Nat) (a0 : Int) (a1 : Int) (a2_0 : Int) (a2_1 : Int) (a2_2 : Int) (a2_3 : Int) (a2_4 : Int) (a3 : ByteArray) (a4 : Int) : Option (Bool) := if (a3.size : Int) > 1900 then ((rampartlaw05_awake.f k).bind fun t176 => (some t176)) else ((rampartlaw00_Place.f a2_0 65536).bind fun t177 => ((rampartlaw00_Place.f a2_1 65536).bind fun t178 => ((rampartlaw00_Place.f a2_2 256).bind fun t179 => ((rampartlaw00_Place.f a2_3 256).bind fun t180 => ((dgram_PutUDP.f k a0 a1 t177 t178 t179 t180 a2_4 a3).bind fun bt181 => ((dgram_PutICMP.f k t177 t178 t179 t180 a2_4 a3).bind fun bt183 => ((dgram_GetUDP.f k a0 a1 bt181.1).bind fun bt185 => ((dgram_GetICMP.f k bt183.1).bind fun bt193 => (if bt181.2 = 0 then (if bt183.2 = 0 then (if bt185.2.2.2.2.2.2 = 0 then (if bt193.2.2.2.2.2.2 = 0 then (if bt185.2.2.2.2.2.1.toList = a3.toList then (if bt193.2.2.2.2.2.1.toList = a3.toList then (if bt185.1 = t177 then (if bt185.2.1 = t178 then (if bt193.2.2.1 = t179 then (if bt193.2.2.2.1 = t180 then (if bt193.2.2.2.2.1 = a2_4 then (if (bt181.1.size : Int) = (wrap64 (8 + (a3.size : Int))) then (rampartlaw05_DgramBack.j0 k a0 a1 a3 a4 bt181.1 bt183.1 ((bt183.1.size : Int) != (wrap64 (8 + (a3.size : Int))))) else (rampartlaw05_DgramBack.j0 k a0 a1 a3 a4 bt181.1 bt183.1 true)) else (rampartlaw05_DgramBack.j0 k a0 a1 a3 a4 bt181.1 bt183.1 true)) else (rampartlaw05_DgramBack.j0 k a0 a1 a3 a4 bt181.1 bt183.1 true)) else (rampartlaw05_DgramBack.j0 k a0 a1 a3 a4 bt181.1 bt183.1 true)) else (rampartlaw05_DgramBack.j0 k a0 a1 a3 a4 bt181.1 bt183.1 true)) else (rampartlaw05_DgramBack.j0 k a0 a1 a3 a4 bt181.1 bt183.1 true)) else (rampartlaw05_DgramBack.j0 k a0 a1 a3 a4 bt181.1 bt183.1 true)) else (rampartlaw05_DgramBack.j0 k a0 a1 a3 a4 bt181.1 bt183.1 true)) else (rampartlaw05_DgramBack.j0 k a0 a1 a3 a4 bt181.1 bt183.1 true)) else (rampartlaw05_DgramBack.j0 k a0 a1 a3 a4 bt181.1 bt183.1 true)) else (rampartlaw05_DgramBack.j0 k a0 a1 a3 a4 bt181.1 bt183.1 true)) else (rampartlaw05_DgramBack.j0 k a0 a1 a3 a4 bt181.1 bt183.1 true))))))))))
theorem rampartlaw05_DgramBack.mono_l : ∀ k, (∀ y0 y1 y2 y3 y4 y5 y6, LeO (rampartlaw05_DgramBack.j0 k y0 y1 y2 y3 y4 y5 y6) (rampartlaw05_DgramBack.j0 (k + 1) y0 y1 y2 y3 y4 y5 y6))
 | 0 => fun _ _ _ _ _ _ _ r h => by simp [rampartlaw05_DgramBack.j0] at h
 | k + 1 => by
  have ih0 := rampartlaw05_DgramBack.mono_l k
  ·
   intro y0 y1 y2 y3 y4 y5 y6
   unfold rampartlaw05_DgramBack.j0
   repeat' first
   | (with_reducible exact ih0 _ _ _ _ _ _ _)
   | (with_reducible exact dgram_GetICMP.mono _ _)
   | (with_reducible exact dgram_GetUDP.mono _ _ _ _)
   | (with_reducible exact dgram_PutICMP.mono _ _ _ _ _ _ _)
   | (with_reducible exact dgram_PutUDP.mono _ _ _ _ _ _ _ _ _)
   | (with_reducible exact rampartlaw05_awake.mono _)
   | (with_reducible exact LeO.refl _)
   | (with_reducible exact LeO.none _)
   | (with_reducible refine LeO.ite ?_ ?_)
   | (with_reducible refine LeO.bind ?_ (fun _ => ?_))
   | exact ih0 _ _ _ _ _ _ _
   | exact dgram_GetICMP.mono _ _
   | exact dgram_GetUDP.mono _ _ _ _
   | exact dgram_PutICMP.mono _ _ _ _ _ _ _
   | exact dgram_PutUDP.mono _ _ _ _ _ _ _ _ _
   | exact rampartlaw05_awake.mono _
   | exact LeO.none _
   | refine LeO.ite ?_ ?_
   | refine LeO.bind ?_ (fun _ => ?_)
theorem rampartlaw05_DgramBack.mono : ∀ a0 a1 a2 a3 a4 a5 a6 a7 a8 k, LeO (rampartlaw05_DgramBack.f k a0 a1 a2 a3 a4 a5 a6 a7 a8) (rampartlaw05_DgramBack.f (k + 1) a0 a1 a2 a3 a4 a5 a6 a7 a8) := by
 intro a0 a1 a2 a3 a4 a5 a6 a7 a8 k
 have ih0 := rampartlaw05_DgramBack.mono_l k
 unfold rampartlaw05_DgramBack.f
 repeat' first
   | (with_reducible exact ih0 _ _ _ _ _ _ _)
   | (with_reducible exact dgram_GetICMP.mono _ _)
   | (with_reducible exact dgram_GetUDP.mono _ _ _ _)
   | (with_reducible exact dgram_PutICMP.mono _ _ _ _ _ _ _)
   | (with_reducible exact dgram_PutUDP.mono _ _ _ _ _ _ _ _ _)
   | (with_reducible exact rampartlaw05_awake.mono _)
   | (with_reducible exact LeO.refl _)
   | (with_reducible exact LeO.none _)
   | (with_reducible refine LeO.ite ?_ ?_)
   | (with_reducible refine LeO.bind ?_ (fun _ => ?_))
   | exact ih0 _ _ _ _ _ _ _
   | exact dgram_GetICMP.mono _ _
   | exact dgram_GetUDP.mono _ _ _ _
   | exact dgram_PutICMP.mono _ _ _ _ _ _ _
   | exact dgram_PutUDP.mono _ _ _ _ _ _ _ _ _
   | exact rampartlaw05_awake.mono _
   | exact LeO.none _
   | refine LeO.ite ?_ ?_
   | refine LeO.bind ?_ (fun _ => ?_)
def rampartlaw05_DgramBack.T3 : Bool × List (List Nat × List Nat) := (true, [([], []), ([0], [0]), ([1], [1]), ([], []), ([3], [3]), ([4, 2], [4]), ([], []), ([6], [6]), ([7, 5], [7]), ([], []), ([9], [9]), ([10, 8], [10]), ([], []), ([12], [12]), ([2, 5, 8, 11, 13], [2, 5, 8, 11, 13]), ([14, 11, 0, 1, 2, 3, 4, 5, 6, 7, 8, 9, 10, 11, 12, 13, 14], [14])])
def rampartlaw05_DgramBack.B3 : List Nat := [0, 1, 3, 0, 8, 31, 0, 64, 255, 0, 512, 2047, 0, 4096, 16383, 32767]
theorem rampartlaw05_DgramBack.tab3 : rtab .any (opsOf Try.f13 3) = rampartlaw05_DgramBack.T3 := by kernel_rfl
theorem rampartlaw05_DgramBack.bits3 : waitsOk rampartlaw05_DgramBack.T3.2 rampartlaw05_DgramBack.B3 = true := by kernel_rfl
theorem rampartlaw05_DgramBack.j0_no {k : Nat} {y0 : Int} {y1 : Int} {y2 : ByteArray} {y3 : Int} {y4 : ByteArray} {y5 : ByteArray} {r : Bool} (hr : r = true) : ¬ (rampartlaw05_DgramBack.j0 k y0 y1 y2 y3 y4 y5 true = some r) := by
 subst hr
 cases k with
 | zero => intro h; simp only [rampartlaw05_DgramBack.j0] at h; cases h
 | succ k => intro h; simp only [rampartlaw05_DgramBack.j0, if_true] at h; cases h
set_option maxHeartbeats 8000000 in
set_option maxRecDepth 100000 in
theorem rampartlaw05_DgramBack.calls (k : Nat) (a0 : Int) (a1 : Int) (a2_0 : Int) (a2_1 : Int) (a2_2 : Int) (a2_3 : Int) (a2_4 : Int) (a3 : ByteArray) (a4 : Int) (r : Bool) (w : World) (h : rampartlaw05_DgramBack.f k a0 a1 a2_0 a2_1 a2_2 a2_3 a2_4 a3 a4 = some r) (HR0 : r = true) :
  Calls Try.prog 13 #[.int .u32 a0, .int .u32 a1, .agg #[.int .i64 a2_0, .int .i64 a2_1, .int .i64 a2_2, .int .i64 a2_3, .int .u32 a2_4], .string a3, .int .i64 a4] w fun e w' => e = .returned (.bool r) ∧ Below w.heap.size w w' := by
 have HR := Aside0.mk HR0
 clear HR0
 have hu53 := Try.underlying53
 have HB := Aside0.mk (Below.refl w.heap.size w)
 have H : (if (a3.size : Int) > 1900 then ((rampartlaw05_awake.f k).bind fun t176 => (some t176)) else ((rampartlaw00_Place.f a2_0 65536).bind fun t177 => ((rampartlaw00_Place.f a2_1 65536).bind fun t178 => ((rampartlaw00_Place.f a2_2 256).bind fun t179 => ((rampartlaw00_Place.f a2_3 256).bind fun t180 => ((dgram_PutUDP.f k a0 a1 t177 t178 t179 t180 a2_4 a3).bind fun bt181 => ((dgram_PutICMP.f k t177 t178 t179 t180 a2_4 a3).bind fun bt183 => ((dgram_GetUDP.f k a0 a1 bt181.1).bind fun bt185 => ((dgram_GetICMP.f k bt183.1).bind fun bt193 => (if bt181.2 = 0 then (if bt183.2 = 0 then (if bt185.2.2.2.2.2.2 = 0 then (if bt193.2.2.2.2.2.2 = 0 then (if bt185.2.2.2.2.2.1.toList = a3.toList then (if bt193.2.2.2.2.2.1.toList = a3.toList then (if bt185.1 = t177 then (if bt185.2.1 = t178 then (if bt193.2.2.1 = t179 then (if bt193.2.2.2.1 = t180 then (if bt193.2.2.2.2.1 = a2_4 then (if (bt181.1.size : Int) = (wrap64 (8 + (a3.size : Int))) then (rampartlaw05_DgramBack.j0 k a0 a1 a3 a4 bt181.1 bt183.1 ((bt183.1.size : Int) != (wrap64 (8 + (a3.size : Int))))) else (rampartlaw05_DgramBack.j0 k a0 a1 a3 a4 bt181.1 bt183.1 true)) else (rampartlaw05_DgramBack.j0 k a0 a1 a3 a4 bt181.1 bt183.1 true)) else (rampartlaw05_DgramBack.j0 k a0 a1 a3 a4 bt181.1 bt183.1 true)) else (rampartlaw05_DgramBack.j0 k a0 a1 a3 a4 bt181.1 bt183.1 true)) else (rampartlaw05_DgramBack.j0 k a0 a1 a3 a4 bt181.1 bt183.1 true)) else (rampartlaw05_DgramBack.j0 k a0 a1 a3 a4 bt181.1 bt183.1 true)) else (rampartlaw05_DgramBack.j0 k a0 a1 a3 a4 bt181.1 bt183.1 true)) else (rampartlaw05_DgramBack.j0 k a0 a1 a3 a4 bt181.1 bt183.1 true)) else (rampartlaw05_DgramBack.j0 k a0 a1 a3 a4 bt181.1 bt183.1 true)) else (rampartlaw05_DgramBack.j0 k a0 a1 a3 a4 bt181.1 bt183.1 true)) else (rampartlaw05_DgramBack.j0 k a0 a1 a3 a4 bt181.1 bt183.1 true)) else (rampartlaw05_DgramBack.j0 k a0 a1 a3 a4 bt181.1 bt183.1 true))))))))))) = some r := h
 clear h
 by_cases c6 : (a3.size : Int) > 1900
 ·
  rw [if_pos c6] at H
  have c6b0 : decide (1900 < (a3.size : Int)) = true := decide_eq_true c6
  have c6b1 : decide (1900 < a3.size) = true := decide_eq_true (by omega)
  clear c6
  replace H := Option.bind_eq_some_iff.mp H
  obtain ⟨t176, A70, H⟩ := H
  replace H : (some t176) = some r := H
  have A7 := Aside0.mk A70
  clear A70
  obtain rfl := Option.some.inj H
  go_enter Try.func13, Try.ntmps13
  go_wp2_with (first | ((with_reducible refine gate_dst (N := 7) rfl ?_); (try (refine gate_guard (by rfl) ?_; dsimp only)); refine box_event ?hg (N := 7) ?hd (cs := #[.int .i64 a2_0, .int .i64 a2_1, .int .i64 a2_2, .int .i64 a2_3, .int .u32 a2_4]) (t := 53) ?hr ?_; (case hd => rfl); (case hg => rfl); (case hr => first | (go_simp; done) | (go_simp; rfl)); intro gb175 hg w8 hbox hb; have n0_ := Aside0.mk (below_step (by repeat (first | (with_reducible first | exact HB.out | apply below_alloc | apply pw_below_drewN | apply below_drew1) | exact HB.out)) hb); have n1_ := Aside0.mk (hbox); have n2_ := Aside0.mk ((by rw [hg]; exact (below_size (by repeat (first | (with_reducible first | exact HB.out | apply below_alloc | apply pw_below_drewN | apply below_drew1) | exact HB.out))) : w.heap.size ≤ gb175)); have n3_ := Aside0.mk ((by rw [hg]; exact (below_size (by repeat (first | (with_reducible first | exact HB.out | apply below_alloc | apply pw_below_drewN | apply below_drew1) | exact HB.out))) : w.heap.size ≤ gb175)); clear HB; have HB := n0_; have BK175 := n1_; have GW175 := n2_; have GE175 := n3_; clear n0_ n1_ n2_ n3_; clear hb hbox hg) | ((with_reducible refine gate_callee (f := 32) rfl ?_); refine goesL_ (some 33) rfl rfl Try.func32 (by kernel_rfl) rfl #[] rfl (by (try simp only [List.map_toArray, List.map_cons, List.map_nil]); first | done | rfl | (simp only [List.length_drop, List.length_take]; rfl)) ?_; (with_reducible refine (rampartlaw05_awake.calls k  t176 _ A7.out (by first | rfl | exact HR.out)).mono ?_); rintro e w9 ⟨rfl, hb⟩; refine ⟨_, rfl, ?_⟩; have n0_ := Aside0.mk (blk_below (g := gb175) (o := .cells #[.int .i64 a2_0, .int .i64 a2_1, .int .i64 a2_2, .int .i64 a2_3, .int .u32 a2_4] 53 (0, 0)) (by (with_reducible repeat (first | refine blk_drewN ?_ _ | refine blk_drew ?_ | refine blk_alloc ?_ _)); exact BK175.out) hb); have n1_ := Aside0.mk (below_step (by repeat (first | (with_reducible first | exact HB.out | apply below_alloc | apply pw_below_drewN | apply below_drew1 | refine below_set ?_ GE175.out) | exact HB.out)) hb); clear BK175; clear HB; have BK175 := n0_; have HB := n1_; clear n0_ n1_; (try clear hb); (try clear hb2); (try clear hk); (try clear hi)))
  go_ret
  exact ⟨by first | rfl | (simp [errW_none, errW_some] <;> rfl) | (simp [*, errW_none, errW_some] <;> rfl), by repeat (first | (with_reducible first | exact HB.out | apply below_alloc | apply pw_below_drewN | apply below_drew1 | refine below_set ?_ GE175.out) | exact HB.out)⟩
 ·
  rw [if_neg c6] at H
  have c6b0 : decide (1900 < (a3.size : Int)) = false := decide_eq_false c6
  have c6b1 : decide (1900 < a3.size) = false := decide_eq_false (by omega)
  clear c6
  replace H := Option.bind_eq_some_iff.mp H
  obtain ⟨t177, A100, H⟩ := H
  replace H : ((rampartlaw00_Place.f a2_1 65536).bind fun t178 => ((rampartlaw00_Place.f a2_2 256).bind fun t179 => ((rampartlaw00_Place.f a2_3 256).bind fun t180 => ((dgram_PutUDP.f k a0 a1 t177 t178 t179 t180 a2_4 a3).bind fun bt181 => ((dgram_PutICMP.f k t177 t178 t179 t180 a2_4 a3).bind fun bt183 => ((dgram_GetUDP.f k a0 a1 bt181.1).bind fun bt185 => ((dgram_GetICMP.f k bt183.1).bind fun bt193 => (if bt181.2 = 0 then (if bt183.2 = 0 then (if bt185.2.2.2.2.2.2 = 0 then (if bt193.2.2.2.2.2.2 = 0 then (if bt185.2.2.2.2.2.1.toList = a3.toList then (if bt193.2.2.2.2.2.1.toList = a3.toList then (if bt185.1 = t177 then (if bt185.2.1 = t178 then (if bt193.2.2.1 = t179 then (if bt193.2.2.2.1 = t180 then (if bt193.2.2.2.2.1 = a2_4 then (if (bt181.1.size : Int) = (wrap64 (8 + (a3.size : Int))) then (rampartlaw05_DgramBack.j0 k a0 a1 a3 a4 bt181.1 bt183.1 ((bt183.1.size : Int) != (wrap64 (8 + (a3.size : Int))))) else (rampartlaw05_DgramBack.j0 k a0 a1 a3 a4 bt181.1 bt183.1 true)) else (rampartlaw05_DgramBack.j0 k a0 a1 a3 a4 bt181.1 bt183.1 true)) else (rampartlaw05_DgramBack.j0 k a0 a1 a3 a4 bt181.1 bt183.1 true)) else (rampartlaw05_DgramBack.j0 k a0 a1 a3 a4 bt181.1 bt183.1 true)) else (rampartlaw05_DgramBack.j0 k a0 a1 a3 a4 bt181.1 bt183.1 true)) else (rampartlaw05_DgramBack.j0 k a0 a1 a3 a4 bt181.1 bt183.1 true)) else (rampartlaw05_DgramBack.j0 k a0 a1 a3 a4 bt181.1 bt183.1 true)) else (rampartlaw05_DgramBack.j0 k a0 a1 a3 a4 bt181.1 bt183.1 true)) else (rampartlaw05_DgramBack.j0 k a0 a1 a3 a4 bt181.1 bt183.1 true)) else (rampartlaw05_DgramBack.j0 k a0 a1 a3 a4 bt181.1 bt183.1 true)) else (rampartlaw05_DgramBack.j0 k a0 a1 a3 a4 bt181.1 bt183.1 true)) else (rampartlaw05_DgramBack.j0 k a0 a1 a3 a4 bt181.1 bt183.1 true))))))))) = some r := H
  have A10 := Aside0.mk A100
  clear A100
  replace H := Option.bind_eq_some_iff.mp H
  obtain ⟨t178, A110, H⟩ := H
  replace H : ((rampartlaw00_Place.f a2_2 256).bind fun t179 => ((rampartlaw00_Place.f a2_3 256).bind fun t180 => ((dgram_PutUDP.f k a0 a1 t177 t178 t179 t180 a2_4 a3).bind fun bt181 => ((dgram_PutICMP.f k t177 t178 t179 t180 a2_4 a3).bind fun bt183 => ((dgram_GetUDP.f k a0 a1 bt181.1).bind fun bt185 => ((dgram_GetICMP.f k bt183.1).bind fun bt193 => (if bt181.2 = 0 then (if bt183.2 = 0 then (if bt185.2.2.2.2.2.2 = 0 then (if bt193.2.2.2.2.2.2 = 0 then (if bt185.2.2.2.2.2.1.toList = a3.toList then (if bt193.2.2.2.2.2.1.toList = a3.toList then (if bt185.1 = t177 then (if bt185.2.1 = t178 then (if bt193.2.2.1 = t179 then (if bt193.2.2.2.1 = t180 then (if bt193.2.2.2.2.1 = a2_4 then (if (bt181.1.size : Int) = (wrap64 (8 + (a3.size : Int))) then (rampartlaw05_DgramBack.j0 k a0 a1 a3 a4 bt181.1 bt183.1 ((bt183.1.size : Int) != (wrap64 (8 + (a3.size : Int))))) else (rampartlaw05_DgramBack.j0 k a0 a1 a3 a4 bt181.1 bt183.1 true)) else (rampartlaw05_DgramBack.j0 k a0 a1 a3 a4 bt181.1 bt183.1 true)) else (rampartlaw05_DgramBack.j0 k a0 a1 a3 a4 bt181.1 bt183.1 true)) else (rampartlaw05_DgramBack.j0 k a0 a1 a3 a4 bt181.1 bt183.1 true)) else (rampartlaw05_DgramBack.j0 k a0 a1 a3 a4 bt181.1 bt183.1 true)) else (rampartlaw05_DgramBack.j0 k a0 a1 a3 a4 bt181.1 bt183.1 true)) else (rampartlaw05_DgramBack.j0 k a0 a1 a3 a4 bt181.1 bt183.1 true)) else (rampartlaw05_DgramBack.j0 k a0 a1 a3 a4 bt181.1 bt183.1 true)) else (rampartlaw05_DgramBack.j0 k a0 a1 a3 a4 bt181.1 bt183.1 true)) else (rampartlaw05_DgramBack.j0 k a0 a1 a3 a4 bt181.1 bt183.1 true)) else (rampartlaw05_DgramBack.j0 k a0 a1 a3 a4 bt181.1 bt183.1 true)) else (rampartlaw05_DgramBack.j0 k a0 a1 a3 a4 bt181.1 bt183.1 true)))))))) = some r := H
  have A11 := Aside0.mk A110
  clear A110
  replace H := Option.bind_eq_some_iff.mp H
  obtain ⟨t179, A120, H⟩ := H
  replace H : ((rampartlaw00_Place.f a2_3 256).bind fun t180 => ((dgram_PutUDP.f k a0 a1 t177 t178 t179 t180 a2_4 a3).bind fun bt181 => ((dgram_PutICMP.f k t177 t178 t179 t180 a2_4 a3).bind fun bt183 => ((dgram_GetUDP.f k a0 a1 bt181.1).bind fun bt185 => ((dgram_GetICMP.f k bt183.1).bind fun bt193 => (if bt181.2 = 0 then (if bt183.2 = 0 then (if bt185.2.2.2.2.2.2 = 0 then (if bt193.2.2.2.2.2.2 = 0 then (if bt185.2.2.2.2.2.1.toList = a3.toList then (if bt193.2.2.2.2.2.1.toList = a3.toList then (if bt185.1 = t177 then (if bt185.2.1 = t178 then (if bt193.2.2.1 = t179 then (if bt193.2.2.2.1 = t180 then (if bt193.2.2.2.2.1 = a2_4 then (if (bt181.1.size : Int) = (wrap64 (8 + (a3.size : Int))) then (rampartlaw05_DgramBack.j0 k a0 a1 a3 a4 bt181.1 bt183.1 ((bt183.1.size : Int) != (wrap64 (8 + (a3.size : Int))))) else (rampartlaw05_DgramBack.j0 k a0 a1 a3 a4 bt181.1 bt183.1 true)) else (rampartlaw05_DgramBack.j0 k a0 a1 a3 a4 bt181.1 bt183.1 true)) else (rampartlaw05_DgramBack.j0 k a0 a1 a3 a4 bt181.1 bt183.1 true)) else (rampartlaw05_DgramBack.j0 k a0 a1 a3 a4 bt181.1 bt183.1 true)) else (rampartlaw05_DgramBack.j0 k a0 a1 a3 a4 bt181.1 bt183.1 true)) else (rampartlaw05_DgramBack.j0 k a0 a1 a3 a4 bt181.1 bt183.1 true)) else (rampartlaw05_DgramBack.j0 k a0 a1 a3 a4 bt181.1 bt183.1 true)) else (rampartlaw05_DgramBack.j0 k a0 a1 a3 a4 bt181.1 bt183.1 true)) else (rampartlaw05_DgramBack.j0 k a0 a1 a3 a4 bt181.1 bt183.1 true)) else (rampartlaw05_DgramBack.j0 k a0 a1 a3 a4 bt181.1 bt183.1 true)) else (rampartlaw05_DgramBack.j0 k a0 a1 a3 a4 bt181.1 bt183.1 true)) else (rampartlaw05_DgramBack.j0 k a0 a1 a3 a4 bt181.1 bt183.1 true))))))) = some r := H
  have A12 := Aside0.mk A120
  clear A120
  replace H := Option.bind_eq_some_iff.mp H
  obtain ⟨t180, A130, H⟩ := H
  replace H : ((dgram_PutUDP.f k a0 a1 t177 t178 t179 t180 a2_4 a3).bind fun bt181 => ((dgram_PutICMP.f k t177 t178 t179 t180 a2_4 a3).bind fun bt183 => ((dgram_GetUDP.f k a0 a1 bt181.1).bind fun bt185 => ((dgram_GetICMP.f k bt183.1).bind fun bt193 => (if bt181.2 = 0 then (if bt183.2 = 0 then (if bt185.2.2.2.2.2.2 = 0 then (if bt193.2.2.2.2.2.2 = 0 then (if bt185.2.2.2.2.2.1.toList = a3.toList then (if bt193.2.2.2.2.2.1.toList = a3.toList then (if bt185.1 = t177 then (if bt185.2.1 = t178 then (if bt193.2.2.1 = t179 then (if bt193.2.2.2.1 = t180 then (if bt193.2.2.2.2.1 = a2_4 then (if (bt181.1.size : Int) = (wrap64 (8 + (a3.size : Int))) then (rampartlaw05_DgramBack.j0 k a0 a1 a3 a4 bt181.1 bt183.1 ((bt183.1.size : Int) != (wrap64 (8 + (a3.size : Int))))) else (rampartlaw05_DgramBack.j0 k a0 a1 a3 a4 bt181.1 bt183.1 true)) else (rampartlaw05_DgramBack.j0 k a0 a1 a3 a4 bt181.1 bt183.1 true)) else (rampartlaw05_DgramBack.j0 k a0 a1 a3 a4 bt181.1 bt183.1 true)) else (rampartlaw05_DgramBack.j0 k a0 a1 a3 a4 bt181.1 bt183.1 true)) else (rampartlaw05_DgramBack.j0 k a0 a1 a3 a4 bt181.1 bt183.1 true)) else (rampartlaw05_DgramBack.j0 k a0 a1 a3 a4 bt181.1 bt183.1 true)) else (rampartlaw05_DgramBack.j0 k a0 a1 a3 a4 bt181.1 bt183.1 true)) else (rampartlaw05_DgramBack.j0 k a0 a1 a3 a4 bt181.1 bt183.1 true)) else (rampartlaw05_DgramBack.j0 k a0 a1 a3 a4 bt181.1 bt183.1 true)) else (rampartlaw05_DgramBack.j0 k a0 a1 a3 a4 bt181.1 bt183.1 true)) else (rampartlaw05_DgramBack.j0 k a0 a1 a3 a4 bt181.1 bt183.1 true)) else (rampartlaw05_DgramBack.j0 k a0 a1 a3 a4 bt181.1 bt183.1 true)))))) = some r := H
  have A13 := Aside0.mk A130
  clear A130
  replace H := Option.bind_eq_some_iff.mp H
  obtain ⟨⟨t181, t182⟩, A140, H⟩ := H
  replace H : ((dgram_PutICMP.f k t177 t178 t179 t180 a2_4 a3).bind fun bt183 => ((dgram_GetUDP.f k a0 a1 t181).bind fun bt185 => ((dgram_GetICMP.f k bt183.1).bind fun bt193 => (if t182 = 0 then (if bt183.2 = 0 then (if bt185.2.2.2.2.2.2 = 0 then (if bt193.2.2.2.2.2.2 = 0 then (if bt185.2.2.2.2.2.1.toList = a3.toList then (if bt193.2.2.2.2.2.1.toList = a3.toList then (if bt185.1 = t177 then (if bt185.2.1 = t178 then (if bt193.2.2.1 = t179 then (if bt193.2.2.2.1 = t180 then (if bt193.2.2.2.2.1 = a2_4 then (if (t181.size : Int) = (wrap64 (8 + (a3.size : Int))) then (rampartlaw05_DgramBack.j0 k a0 a1 a3 a4 t181 bt183.1 ((bt183.1.size : Int) != (wrap64 (8 + (a3.size : Int))))) else (rampartlaw05_DgramBack.j0 k a0 a1 a3 a4 t181 bt183.1 true)) else (rampartlaw05_DgramBack.j0 k a0 a1 a3 a4 t181 bt183.1 true)) else (rampartlaw05_DgramBack.j0 k a0 a1 a3 a4 t181 bt183.1 true)) else (rampartlaw05_DgramBack.j0 k a0 a1 a3 a4 t181 bt183.1 true)) else (rampartlaw05_DgramBack.j0 k a0 a1 a3 a4 t181 bt183.1 true)) else (rampartlaw05_DgramBack.j0 k a0 a1 a3 a4 t181 bt183.1 true)) else (rampartlaw05_DgramBack.j0 k a0 a1 a3 a4 t181 bt183.1 true)) else (rampartlaw05_DgramBack.j0 k a0 a1 a3 a4 t181 bt183.1 true)) else (rampartlaw05_DgramBack.j0 k a0 a1 a3 a4 t181 bt183.1 true)) else (rampartlaw05_DgramBack.j0 k a0 a1 a3 a4 t181 bt183.1 true)) else (rampartlaw05_DgramBack.j0 k a0 a1 a3 a4 t181 bt183.1 true)) else (rampartlaw05_DgramBack.j0 k a0 a1 a3 a4 t181 bt183.1 true))))) = some r := H
  have A14 := Aside0.mk A140
  clear A140
  replace H := Option.bind_eq_some_iff.mp H
  obtain ⟨⟨t183, t184⟩, A150, H⟩ := H
  replace H : ((dgram_GetUDP.f k a0 a1 t181).bind fun bt185 => ((dgram_GetICMP.f k t183).bind fun bt193 => (if t182 = 0 then (if t184 = 0 then (if bt185.2.2.2.2.2.2 = 0 then (if bt193.2.2.2.2.2.2 = 0 then (if bt185.2.2.2.2.2.1.toList = a3.toList then (if bt193.2.2.2.2.2.1.toList = a3.toList then (if bt185.1 = t177 then (if bt185.2.1 = t178 then (if bt193.2.2.1 = t179 then (if bt193.2.2.2.1 = t180 then (if bt193.2.2.2.2.1 = a2_4 then (if (t181.size : Int) = (wrap64 (8 + (a3.size : Int))) then (rampartlaw05_DgramBack.j0 k a0 a1 a3 a4 t181 t183 ((t183.size : Int) != (wrap64 (8 + (a3.size : Int))))) else (rampartlaw05_DgramBack.j0 k a0 a1 a3 a4 t181 t183 true)) else (rampartlaw05_DgramBack.j0 k a0 a1 a3 a4 t181 t183 true)) else (rampartlaw05_DgramBack.j0 k a0 a1 a3 a4 t181 t183 true)) else (rampartlaw05_DgramBack.j0 k a0 a1 a3 a4 t181 t183 true)) else (rampartlaw05_DgramBack.j0 k a0 a1 a3 a4 t181 t183 true)) else (rampartlaw05_DgramBack.j0 k a0 a1 a3 a4 t181 t183 true)) else (rampartlaw05_DgramBack.j0 k a0 a1 a3 a4 t181 t183 true)) else (rampartlaw05_DgramBack.j0 k a0 a1 a3 a4 t181 t183 true)) else (rampartlaw05_DgramBack.j0 k a0 a1 a3 a4 t181 t183 true)) else (rampartlaw05_DgramBack.j0 k a0 a1 a3 a4 t181 t183 true)) else (rampartlaw05_DgramBack.j0 k a0 a1 a3 a4 t181 t183 true)) else (rampartlaw05_DgramBack.j0 k a0 a1 a3 a4 t181 t183 true)))) = some r := H
  have A15 := Aside0.mk A150
  clear A150
  replace H := Option.bind_eq_some_iff.mp H
  obtain ⟨⟨t185, t186, t187, t188, t189, t190, t191⟩, A160, H⟩ := H
  replace H : ((dgram_GetICMP.f k t183).bind fun bt193 => (if t182 = 0 then (if t184 = 0 then (if t191 = 0 then (if bt193.2.2.2.2.2.2 = 0 then (if t190.toList = a3.toList then (if bt193.2.2.2.2.2.1.toList = a3.toList then (if t185 = t177 then (if t186 = t178 then (if bt193.2.2.1 = t179 then (if bt193.2.2.2.1 = t180 then (if bt193.2.2.2.2.1 = a2_4 then (if (t181.size : Int) = (wrap64 (8 + (a3.size : Int))) then (rampartlaw05_DgramBack.j0 k a0 a1 a3 a4 t181 t183 ((t183.size : Int) != (wrap64 (8 + (a3.size : Int))))) else (rampartlaw05_DgramBack.j0 k a0 a1 a3 a4 t181 t183 true)) else (rampartlaw05_DgramBack.j0 k a0 a1 a3 a4 t181 t183 true)) else (rampartlaw05_DgramBack.j0 k a0 a1 a3 a4 t181 t183 true)) else (rampartlaw05_DgramBack.j0 k a0 a1 a3 a4 t181 t183 true)) else (rampartlaw05_DgramBack.j0 k a0 a1 a3 a4 t181 t183 true)) else (rampartlaw05_DgramBack.j0 k a0 a1 a3 a4 t181 t183 true)) else (rampartlaw05_DgramBack.j0 k a0 a1 a3 a4 t181 t183 true)) else (rampartlaw05_DgramBack.j0 k a0 a1 a3 a4 t181 t183 true)) else (rampartlaw05_DgramBack.j0 k a0 a1 a3 a4 t181 t183 true)) else (rampartlaw05_DgramBack.j0 k a0 a1 a3 a4 t181 t183 true)) else (rampartlaw05_DgramBack.j0 k a0 a1 a3 a4 t181 t183 true)) else (rampartlaw05_DgramBack.j0 k a0 a1 a3 a4 t181 t183 true))) = some r := H
  have A16 := Aside0.mk A160
  clear A160
  replace H := Option.bind_eq_some_iff.mp H
  obtain ⟨⟨t193, t194, t195, t196, t197, t198, t199⟩, A170, H⟩ := H
  replace H : (if t182 = 0 then (if t184 = 0 then (if t191 = 0 then (if t199 = 0 then (if t190.toList = a3.toList then (if t198.toList = a3.toList then (if t185 = t177 then (if t186 = t178 then (if t195 = t179 then (if t196 = t180 then (if t197 = a2_4 then (if (t181.size : Int) = (wrap64 (8 + (a3.size : Int))) then (rampartlaw05_DgramBack.j0 k a0 a1 a3 a4 t181 t183 ((t183.size : Int) != (wrap64 (8 + (a3.size : Int))))) else (rampartlaw05_DgramBack.j0 k a0 a1 a3 a4 t181 t183 true)) else (rampartlaw05_DgramBack.j0 k a0 a1 a3 a4 t181 t183 true)) else (rampartlaw05_DgramBack.j0 k a0 a1 a3 a4 t181 t183 true)) else (rampartlaw05_DgramBack.j0 k a0 a1 a3 a4 t181 t183 true)) else (rampartlaw05_DgramBack.j0 k a0 a1 a3 a4 t181 t183 true)) else (rampartlaw05_DgramBack.j0 k a0 a1 a3 a4 t181 t183 true)) else (rampartlaw05_DgramBack.j0 k a0 a1 a3 a4 t181 t183 true)) else (rampartlaw05_DgramBack.j0 k a0 a1 a3 a4 t181 t183 true)) else (rampartlaw05_DgramBack.j0 k a0 a1 a3 a4 t181 t183 true)) else (rampartlaw05_DgramBack.j0 k a0 a1 a3 a4 t181 t183 true)) else (rampartlaw05_DgramBack.j0 k a0 a1 a3 a4 t181 t183 true)) else (rampartlaw05_DgramBack.j0 k a0 a1 a3 a4 t181 t183 true)) = some r := H
  have A17 := Aside0.mk A170
  clear A170
  have HC18 := Aside0.mk H
  clear H
  go_enter Try.func13, Try.ntmps13
  try go_wp2_with (first | ((with_reducible refine gate_dst (N := 7) rfl ?_); (try (refine gate_guard (by rfl) ?_; dsimp only)); refine box_event ?hg (N := 7) ?hd (cs := #[.int .i64 a2_0, .int .i64 a2_1, .int .i64 a2_2, .int .i64 a2_3, .int .u32 a2_4]) (t := 53) ?hr ?_; (case hd => rfl); (case hg => rfl); (case hr => first | (go_simp; done) | (go_simp; rfl)); intro gb175 hg w19 hbox hb; have n0_ := Aside0.mk (below_step (by repeat (first | (with_reducible first | exact HB.out | apply below_alloc | apply pw_below_drewN | apply below_drew1) | exact HB.out)) hb); have n1_ := Aside0.mk (hbox); have n2_ := Aside0.mk ((by rw [hg]; exact (below_size (by repeat (first | (with_reducible first | exact HB.out | apply below_alloc | apply pw_below_drewN | apply below_drew1) | exact HB.out))) : w.heap.size ≤ gb175)); have n3_ := Aside0.mk ((by rw [hg]; exact (below_size (by repeat (first | (with_reducible first | exact HB.out | apply below_alloc | apply pw_below_drewN | apply below_drew1) | exact HB.out))) : w.heap.size ≤ gb175)); clear HB; have HB := n0_; have BK175 := n1_; have GW175 := n2_; have GE175 := n3_; clear n0_ n1_ n2_ n3_; clear hb hbox hg))
  have n0_ := Aside0.mk (blk_drew BK175.out)
  have n1_ := Aside0.mk (below_drew1 HB.out)
  clear BK175
  clear HB
  have BK175 := n0_
  have HB := n1_
  clear n0_ n1_
  refine start_ (n := 16) (S := fun w' => w'.cell? ⟨gb175, 0, none⟩ = some (.int .i64 a2_0) ∧ w'.cell? ⟨gb175, 1, none⟩ = some (.int .i64 a2_1) ∧ w'.cell? ⟨gb175, 2, none⟩ = some (.int .i64 a2_2) ∧ w'.cell? ⟨gb175, 3, none⟩ = some (.int .i64 a2_3) ∧ w'.cell? ⟨gb175, 4, none⟩ = some (.int .u32 a2_4)) (ds := [15]) #[false, false, false, false, false, false, false, false, false, false, false, false, false, false, false, false] (by kernel_rfl) rfl rfl ⟨(blk_cell BK175.out 0).trans rfl, (blk_cell BK175.out 1).trans rfl, (blk_cell BK175.out 2).trans rfl, (blk_cell BK175.out 3).trans rfl, (blk_cell BK175.out 4).trans rfl⟩ (fun hHeld => ?_); refine with_tabW rampartlaw05_DgramBack.tab3 rampartlaw05_DgramBack.bits3 (fun HT_ HW_ => ?_)
  generalize w19.drew = w20 at BK175 HB hHeld ⊢
  refine pure_ (i := 0) (N := some 34) (v := ?_) (a' := ?_) #[true, false, false, false, false, false, false, false, false, false, false, false, false, false, false, false] rfl rfl (any_of HT_.out (by kernel_rfl)) (fun _ _ _ h => h) (Or.inl ⟨by rfl, ?_⟩) ?_ ?_
  rotate_left
  ·
   intro w'
   go_simp
   with_reducible rfl
  rotate_left
  ·
   simp only [Act.put, List.setIfInBounds_toArray, List.set_cons_zero, List.set_cons_succ, i64_w, i32_w]
   rfl
  refine pure_ (i := 3) (N := some 37) (v := ?_) (a' := ?_) #[true, false, false, true, false, false, false, false, false, false, false, false, false, false, false, false] rfl rfl (any_of HT_.out (by kernel_rfl)) (fun _ _ _ h => h) (Or.inl ⟨by rfl, ?_⟩) ?_ ?_
  rotate_left
  ·
   intro w'
   go_simp
   with_reducible rfl
  rotate_left
  ·
   simp only [Act.put, List.setIfInBounds_toArray, List.set_cons_zero, List.set_cons_succ, i64_w, i32_w]
   rfl
  refine pure_ (i := 6) (N := some 40) (v := ?_) (a' := ?_) #[true, false, false, true, false, false, true, false, false, false, false, false, false, false, false, false] rfl rfl (any_of HT_.out (by kernel_rfl)) (fun _ _ _ h => h) (Or.inl ⟨by rfl, ?_⟩) ?_ ?_
  rotate_left
  ·
   intro w'
   go_simp
   with_reducible rfl
  rotate_left
  ·
   simp only [Act.put, List.setIfInBounds_toArray, List.set_cons_zero, List.set_cons_succ, i64_w, i32_w]
   rfl
  refine pure_ (i := 9) (N := some 43) (v := ?_) (a' := ?_) #[true, false, false, true, false, false, true, false, false, true, false, false, false, false, false, false] rfl rfl (any_of HT_.out (by kernel_rfl)) (fun _ _ _ h => h) (Or.inl ⟨by rfl, ?_⟩) ?_ ?_
  rotate_left
  ·
   intro w'
   go_simp
   with_reducible rfl
  rotate_left
  ·
   simp only [Act.put, List.setIfInBounds_toArray, List.set_cons_zero, List.set_cons_succ, i64_w, i32_w]
   rfl
  refine pure_ (i := 12) (N := some 46) (v := ?_) (a' := ?_) #[true, false, false, true, false, false, true, false, false, true, false, false, true, false, false, false] rfl rfl (any_of HT_.out (by kernel_rfl)) (fun _ _ _ h => h) (Or.inl ⟨by rfl, ?_⟩) ?_ ?_
  rotate_left
  ·
   intro w'
   go_simp
   with_reducible rfl
  rotate_left
  ·
   simp only [Act.put, List.setIfInBounds_toArray, List.set_cons_zero, List.set_cons_succ, i64_w, i32_w]
   rfl
  refine take_ (i := 1) (N := some 35) (v := ?_) (a' := ?_) #[true, true, false, true, false, false, true, false, false, true, false, false, true, false, false, false] rfl rfl (take_ofW HT_.out HW_.out (by kernel_rfl)) (fun _ _ _ h => h) (Or.inl ⟨by rfl, ?_⟩) hHeld ?_ ?_
  rotate_left
  ·
   rintro w' ⟨s0, s1, s2, s3, s4⟩
   go_simp
   with_reducible rfl
  rotate_left
  ·
   simp only [Act.put, List.setIfInBounds_toArray, List.set_cons_zero, List.set_cons_succ, i64_w, i32_w]
   rfl
  refine take_ (i := 4) (N := some 38) (v := ?_) (a' := ?_) #[true, true, false, true, true, false, true, false, false, true, false, false, true, false, false, false] rfl rfl (take_ofW HT_.out HW_.out (by kernel_rfl)) (fun _ _ _ h => h) (Or.inl ⟨by rfl, ?_⟩) hHeld ?_ ?_
  rotate_left
  ·
   rintro w' ⟨s0, s1, s2, s3, s4⟩
   go_simp
   with_reducible rfl
  rotate_left
  ·
   simp only [Act.put, List.setIfInBounds_toArray, List.set_cons_zero, List.set_cons_succ, i64_w, i32_w]
   rfl
  refine take_ (i := 7) (N := some 41) (v := ?_) (a' := ?_) #[true, true, false, true, true, false, true, true, false, true, false, false, true, false, false, false] rfl rfl (take_ofW HT_.out HW_.out (by kernel_rfl)) (fun _ _ _ h => h) (Or.inl ⟨by rfl, ?_⟩) hHeld ?_ ?_
  rotate_left
  ·
   rintro w' ⟨s0, s1, s2, s3, s4⟩
   go_simp
   with_reducible rfl
  rotate_left
  ·
   simp only [Act.put, List.setIfInBounds_toArray, List.set_cons_zero, List.set_cons_succ, i64_w, i32_w]
   rfl
  refine take_ (i := 10) (N := some 44) (v := ?_) (a' := ?_) #[true, true, false, true, true, false, true, true, false, true, true, false, true, false, false, false] rfl rfl (take_ofW HT_.out HW_.out (by kernel_rfl)) (fun _ _ _ h => h) (Or.inl ⟨by rfl, ?_⟩) hHeld ?_ ?_
  rotate_left
  ·
   rintro w' ⟨s0, s1, s2, s3, s4⟩
   go_simp
   with_reducible rfl
  rotate_left
  ·
   simp only [Act.put, List.setIfInBounds_toArray, List.set_cons_zero, List.set_cons_succ, i64_w, i32_w]
   rfl
  refine take_ (i := 13) (N := some 47) (v := ?_) (a' := ?_) #[true, true, false, true, true, false, true, true, false, true, true, false, true, true, false, false] rfl rfl (take_ofW HT_.out HW_.out (by kernel_rfl)) (fun _ _ _ h => h) (Or.inl ⟨by rfl, ?_⟩) hHeld ?_ ?_
  rotate_left
  ·
   rintro w' ⟨s0, s1, s2, s3, s4⟩
   go_simp
   with_reducible rfl
  rotate_left
  ·
   simp only [Act.put, List.setIfInBounds_toArray, List.set_cons_zero, List.set_cons_succ, i64_w, i32_w]
   rfl
  refine one_ (i := 2) (N := some 36) #[true, true, true, true, true, false, true, true, false, true, true, false, true, true, false, false] rfl rfl (one_of HT_.out (by kernel_rfl)) (by decide) (fun K hK => ?_)
  refine goes_ Try.func23 (by kernel_rfl) rfl #[.int .i64 a2_0, .int .i64 65536] (by rfl) rfl rfl (by (try simp only [List.map_toArray, List.map_cons, List.map_nil]); first | done | rfl | (simp only [List.length_drop, List.length_take]; rfl)) ?_
  with_reducible refine (rampartlaw00_Place.calls a2_0 65536 t177 _ A10.out).mono ?_
  rintro e w' ⟨rfl, ⟨nd, rfl⟩⟩
  refine ⟨_, rfl, ?_⟩
  refine hK.out _ _ ⟨(blk_cell BK175.out 0).trans rfl, (blk_cell BK175.out 1).trans rfl, (blk_cell BK175.out 2).trans rfl, (blk_cell BK175.out 3).trans rfl, (blk_cell BK175.out 4).trans rfl⟩ (fun hHeld => ?_)
  clear hK K
  refine norm_ (a' := ?_) ?_ ?_
  rotate_left
  ·
   show Act.put _ (some 36) _ = _
   simp only [Act.put, List.setIfInBounds_toArray, List.set_cons_zero, List.set_cons_succ, i64_w, i32_w]
   rfl
  refine one_ (i := 5) (N := some 39) #[true, true, true, true, true, true, true, true, false, true, true, false, true, true, false, false] rfl rfl (one_of HT_.out (by kernel_rfl)) (by decide) (fun K hK => ?_)
  refine goes_ Try.func23 (by kernel_rfl) rfl #[.int .i64 a2_1, .int .i64 65536] (by rfl) rfl rfl (by (try simp only [List.map_toArray, List.map_cons, List.map_nil]); first | done | rfl | (simp only [List.length_drop, List.length_take]; rfl)) ?_
  with_reducible refine (rampartlaw00_Place.calls a2_1 65536 t178 _ A11.out).mono ?_
  rintro e w' ⟨rfl, ⟨nd, rfl⟩⟩
  refine ⟨_, rfl, ?_⟩
  refine hK.out _ _ ⟨(blk_cell BK175.out 0).trans rfl, (blk_cell BK175.out 1).trans rfl, (blk_cell BK175.out 2).trans rfl, (blk_cell BK175.out 3).trans rfl, (blk_cell BK175.out 4).trans rfl⟩ (fun hHeld => ?_)
  clear hK K
  refine norm_ (a' := ?_) ?_ ?_
  rotate_left
  ·
   show Act.put _ (some 39) _ = _
   simp only [Act.put, List.setIfInBounds_toArray, List.set_cons_zero, List.set_cons_succ, i64_w, i32_w]
   rfl
  refine one_ (i := 8) (N := some 42) #[true, true, true, true, true, true, true, true, true, true, true, false, true, true, false, false] rfl rfl (one_of HT_.out (by kernel_rfl)) (by decide) (fun K hK => ?_)
  refine goes_ Try.func23 (by kernel_rfl) rfl #[.int .i64 a2_2, .int .i64 256] (by rfl) rfl rfl (by (try simp only [List.map_toArray, List.map_cons, List.map_nil]); first | done | rfl | (simp only [List.length_drop, List.length_take]; rfl)) ?_
  with_reducible refine (rampartlaw00_Place.calls a2_2 256 t179 _ A12.out).mono ?_
  rintro e w' ⟨rfl, ⟨nd, rfl⟩⟩
  refine ⟨_, rfl, ?_⟩
  refine hK.out _ _ ⟨(blk_cell BK175.out 0).trans rfl, (blk_cell BK175.out 1).trans rfl, (blk_cell BK175.out 2).trans rfl, (blk_cell BK175.out 3).trans rfl, (blk_cell BK175.out 4).trans rfl⟩ (fun hHeld => ?_)
  clear hK K
  refine norm_ (a' := ?_) ?_ ?_
  rotate_left
  ·
   show Act.put _ (some 42) _ = _
   simp only [Act.put, List.setIfInBounds_toArray, List.set_cons_zero, List.set_cons_succ, i64_w, i32_w]
   rfl
  refine one_ (i := 11) (N := some 45) #[true, true, true, true, true, true, true, true, true, true, true, true, true, true, false, false] rfl rfl (one_of HT_.out (by kernel_rfl)) (by decide) (fun K hK => ?_)
  refine goes_ Try.func23 (by kernel_rfl) rfl #[.int .i64 a2_3, .int .i64 256] (by rfl) rfl rfl (by (try simp only [List.map_toArray, List.map_cons, List.map_nil]); first | done | rfl | (simp only [List.length_drop, List.length_take]; rfl)) ?_
  with_reducible refine (rampartlaw00_Place.calls a2_3 256 t180 _ A13.out).mono ?_
  rintro e w' ⟨rfl, ⟨nd, rfl⟩⟩
  refine ⟨_, rfl, ?_⟩
  refine hK.out _ _ ⟨(blk_cell BK175.out 0).trans rfl, (blk_cell BK175.out 1).trans rfl, (blk_cell BK175.out 2).trans rfl, (blk_cell BK175.out 3).trans rfl, (blk_cell BK175.out 4).trans rfl⟩ (fun hHeld => ?_)
  clear hK K
  refine norm_ (a' := ?_) ?_ ?_
  rotate_left
  ·
   show Act.put _ (some 45) _ = _
   simp only [Act.put, List.setIfInBounds_toArray, List.set_cons_zero, List.set_cons_succ, i64_w, i32_w]
   rfl
  refine pure_ (i := 14) (N := some 48) (v := ?_) (a' := ?_) #[true, true, true, true, true, true, true, true, true, true, true, true, true, true, true, false] rfl rfl (any_of HT_.out (by kernel_rfl)) (fun _ _ _ h => h) (Or.inl ⟨by rfl, ?_⟩) ?_ ?_
  rotate_left
  ·
   intro w'
   go_simp
   with_reducible rfl
  rotate_left
  ·
   simp only [Act.put, List.setIfInBounds_toArray, List.set_cons_zero, List.set_cons_succ, i64_w, i32_w]
   rfl
  refine last_ (i := 15) (N := none) #[true, true, true, true, true, true, true, true, true, true, true, true, true, true, true, true] rfl rfl (one_of HT_.out (by kernel_rfl)) (by decide) (fun K hK => ?_)
  have hs21 : w20.cell? ⟨gb175, 0, none⟩ = some (.int .i64 a2_0) := (blk_cell BK175.out 0).trans rfl
  have hfs21 := blk_frozen BK175.out 0
  have hs22 : w20.cell? ⟨gb175, 1, none⟩ = some (.int .i64 a2_1) := (blk_cell BK175.out 1).trans rfl
  have hfs22 := blk_frozen BK175.out 1
  have hs23 : w20.cell? ⟨gb175, 2, none⟩ = some (.int .i64 a2_2) := (blk_cell BK175.out 2).trans rfl
  have hfs23 := blk_frozen BK175.out 2
  have hs24 : w20.cell? ⟨gb175, 3, none⟩ = some (.int .i64 a2_3) := (blk_cell BK175.out 3).trans rfl
  have hfs24 := blk_frozen BK175.out 3
  have hs25 : w20.cell? ⟨gb175, 4, none⟩ = some (.int .u32 a2_4) := (blk_cell BK175.out 4).trans rfl
  have hfs25 := blk_frozen BK175.out 4
  refine skip_ (w1 := ?_) (by rfl) rfl ?_ ?_
  rotate_left
  ·
   go_simp
   rfl
  refine hK.out _ _ ?_
  clear hK K
  refine done_ (done_of HT_.out (by kernel_rfl)) ?_
  have hcz26_0 : w20.cell? ⟨gb175, 0, none⟩ = some (.int .i64 a2_0) := (blk_cell BK175.out 0).trans rfl
  have hcz26_1 : w20.cell? ⟨gb175, 1, none⟩ = some (.int .i64 a2_1) := (blk_cell BK175.out 1).trans rfl
  have hcz26_2 : w20.cell? ⟨gb175, 2, none⟩ = some (.int .i64 a2_2) := (blk_cell BK175.out 2).trans rfl
  have hcz26_3 : w20.cell? ⟨gb175, 3, none⟩ = some (.int .i64 a2_3) := (blk_cell BK175.out 3).trans rfl
  have hcz26_4 : w20.cell? ⟨gb175, 4, none⟩ = some (.int .u32 a2_4) := (blk_cell BK175.out 4).trans rfl
  have hfz26_0 := blk_frozen BK175.out 0
  have hfz26_1 := blk_frozen BK175.out 1
  have hfz26_2 := blk_frozen BK175.out 2
  have hfz26_3 := blk_frozen BK175.out 3
  have hfz26_4 := blk_frozen BK175.out 4
  go_upto_region 8 with (first | ((with_reducible refine gate_callee (f := 33) rfl ?_); refine goesL_ (some 54) rfl rfl Try.func33 (by kernel_rfl) rfl #[.int .u32 a0, .int .u32 a1, .agg #[.int .i64 t177, .int .i64 t178, .int .i64 t179, .int .i64 t180, .int .u32 a2_4], .string a3] rfl (by (try simp only [List.map_toArray, List.map_cons, List.map_nil]); first | done | rfl | (simp only [List.length_drop, List.length_take]; rfl)) ?_; (with_reducible refine (dgram_PutUDP.calls k a0 a1 t177 t178 t179 t180 a2_4 a3 t181 t182 _ A14.out).mono ?_); rintro e w27 ⟨rfl, hb⟩; refine ⟨_, rfl, ?_⟩; have n0_ := Aside0.mk (blk_below (g := gb175) (o := .cells #[.int .i64 t177, .int .i64 t178, .int .i64 t179, .int .i64 t180, .int .u32 a2_4] 53 (0, 0)) (by (with_reducible repeat (first | refine blk_drewN ?_ _ | refine blk_drew ?_ | refine blk_alloc ?_ _)); refine blk_put (cs := #[.int .i64 t177, .int .i64 t178, .int .i64 t179, .int .i64 t180, .int .u32 a2_4]) ?_ 4 _ rfl; (with_reducible repeat (first | refine blk_drewN ?_ _ | refine blk_drew ?_ | refine blk_alloc ?_ _)); refine blk_put (cs := #[.int .i64 t177, .int .i64 t178, .int .i64 t179, .int .i64 a2_3, .int .u32 a2_4]) ?_ 3 _ rfl; (with_reducible repeat (first | refine blk_drewN ?_ _ | refine blk_drew ?_ | refine blk_alloc ?_ _)); refine blk_put (cs := #[.int .i64 t177, .int .i64 t178, .int .i64 a2_2, .int .i64 a2_3, .int .u32 a2_4]) ?_ 2 _ rfl; (with_reducible repeat (first | refine blk_drewN ?_ _ | refine blk_drew ?_ | refine blk_alloc ?_ _)); refine blk_put (cs := #[.int .i64 t177, .int .i64 a2_1, .int .i64 a2_2, .int .i64 a2_3, .int .u32 a2_4]) ?_ 1 _ rfl; (with_reducible repeat (first | refine blk_drewN ?_ _ | refine blk_drew ?_ | refine blk_alloc ?_ _)); refine blk_put (cs := #[.int .i64 a2_0, .int .i64 a2_1, .int .i64 a2_2, .int .i64 a2_3, .int .u32 a2_4]) ?_ 0 _ rfl; (with_reducible repeat (first | refine blk_drewN ?_ _ | refine blk_drew ?_ | refine blk_alloc ?_ _)); exact BK175.out) hb); have n1_ := Aside0.mk (below_step (by repeat (first | (with_reducible first | exact HB.out | apply below_alloc | apply pw_below_drewN | apply below_drew1 | refine below_set ?_ GE175.out) | exact HB.out)) hb); clear BK175; clear HB; have BK175 := n0_; have HB := n1_; clear n0_ n1_; (try clear hb); (try clear hb2); (try clear hk); (try clear hi); have hcz28_0 : w27.cell? ⟨gb175, 0, none⟩ = some (.int .i64 t177) := (blk_cell BK175.out 0).trans rfl; have hcz28_1 : w27.cell? ⟨gb175, 1, none⟩ = some (.int .i64 t178) := (blk_cell BK175.out 1).trans rfl; have hcz28_2 : w27.cell? ⟨gb175, 2, none⟩ = some (.int .i64 t179) := (blk_cell BK175.out 2).trans rfl; have hcz28_3 : w27.cell? ⟨gb175, 3, none⟩ = some (.int .i64 t180) := (blk_cell BK175.out 3).trans rfl; have hcz28_4 : w27.cell? ⟨gb175, 4, none⟩ = some (.int .u32 a2_4) := (blk_cell BK175.out 4).trans rfl; have hfz28_0 := blk_frozen BK175.out 0; have hfz28_1 := blk_frozen BK175.out 1; have hfz28_2 := blk_frozen BK175.out 2; have hfz28_3 := blk_frozen BK175.out 3; have hfz28_4 := blk_frozen BK175.out 4) | ((with_reducible refine gate_callee (f := 36) rfl ?_); refine goesL_ (some 60) rfl rfl Try.func36 (by kernel_rfl) rfl #[.agg #[.int .i64 t177, .int .i64 t178, .int .i64 t179, .int .i64 t180, .int .u32 a2_4], .string a3] rfl (by (try simp only [List.map_toArray, List.map_cons, List.map_nil]); first | done | rfl | (simp only [List.length_drop, List.length_take]; rfl)) ?_; (with_reducible refine (dgram_PutICMP.calls k t177 t178 t179 t180 a2_4 a3 t183 t184 _ A15.out).mono ?_); rintro e w29 ⟨rfl, hb⟩; refine ⟨_, rfl, ?_⟩; have n0_ := Aside0.mk (blk_below (g := gb175) (o := .cells #[.int .i64 t177, .int .i64 t178, .int .i64 t179, .int .i64 t180, .int .u32 a2_4] 53 (0, 0)) (by (with_reducible repeat (first | refine blk_drewN ?_ _ | refine blk_drew ?_ | refine blk_alloc ?_ _)); exact BK175.out) hb); have n1_ := Aside0.mk (below_step (by repeat (first | (with_reducible first | exact HB.out | apply below_alloc | apply pw_below_drewN | apply below_drew1 | refine below_set ?_ GE175.out) | exact HB.out)) hb); clear BK175; clear HB; have BK175 := n0_; have HB := n1_; clear n0_ n1_; (try clear hb); (try clear hb2); (try clear hk); (try clear hi)) | ((with_reducible refine gate_callee (f := 34) rfl ?_); refine goesL_ (some 67) rfl rfl Try.func34 (by kernel_rfl) rfl #[.int .u32 a0, .int .u32 a1, .string t181] rfl (by (try simp only [List.map_toArray, List.map_cons, List.map_nil]); first | done | rfl | (simp only [List.length_drop, List.length_take]; rfl)) ?_; (with_reducible refine (dgram_GetUDP.calls k a0 a1 t181 t185 t186 t187 t188 t189 t190 t191 _ A16.out).mono ?_); rintro e w30 ⟨rfl, hb⟩; refine ⟨_, rfl, ?_⟩; have n0_ := Aside0.mk (blk_below (g := gb175) (o := .cells #[.int .i64 t177, .int .i64 t178, .int .i64 t179, .int .i64 t180, .int .u32 a2_4] 53 (0, 0)) (by (with_reducible repeat (first | refine blk_drewN ?_ _ | refine blk_drew ?_ | refine blk_alloc ?_ _)); exact BK175.out) hb); have n1_ := Aside0.mk (below_step (by repeat (first | (with_reducible first | exact HB.out | apply below_alloc | apply pw_below_drewN | apply below_drew1 | refine below_set ?_ GE175.out) | exact HB.out)) hb); clear BK175; clear HB; have BK175 := n0_; have HB := n1_; clear n0_ n1_; (try clear hb); (try clear hb2); (try clear hk); (try clear hi)) | ((with_reducible refine gate_dst (N := 15) rfl ?_); (try (refine gate_guard (by rfl) ?_; dsimp only)); refine box_event ?hg (N := 15) ?hd (cs := #[.int .i64 0, .int .i64 0, .int .i64 0, .int .i64 0, .int .u32 0]) (t := 53) ?hr ?_; (case hd => rfl); (case hg => rfl); (case hr => first | (go_simp; done) | (go_simp; rfl)); intro gb192 hg w31 hbox hb; have n0_ := Aside0.mk (blk_below (g := gb175) (o := .cells #[.int .i64 t177, .int .i64 t178, .int .i64 t179, .int .i64 t180, .int .u32 a2_4] 53 (0, 0)) (by (with_reducible repeat (first | refine blk_drewN ?_ _ | refine blk_drew ?_ | refine blk_alloc ?_ _)); exact BK175.out) hb); have n1_ := Aside0.mk (below_step (by repeat (first | (with_reducible first | exact HB.out | apply below_alloc | apply pw_below_drewN | apply below_drew1 | refine below_set ?_ GE175.out) | exact HB.out)) hb); have n2_ := Aside0.mk (hbox); have n3_ := Aside0.mk ((by rw [hg]; exact (below_size (by repeat (first | (with_reducible first | exact HB.out | apply below_alloc | apply pw_below_drewN | apply below_drew1 | refine below_set ?_ GE175.out) | exact HB.out))) : w.heap.size ≤ gb192)); have n4_ := Aside0.mk ((by rw [hg]; exact (below_size (by repeat (first | (with_reducible first | exact HB.out | apply below_alloc | apply pw_below_drewN | apply below_drew1 | refine below_set ?_ GE175.out) | exact HB.out))) : w.heap.size ≤ gb192)); have n5_ := Aside0.mk ((by rw [hg]; exact Nat.ne_of_lt (blk_lt (g := gb175) (o := .cells #[.int .i64 t177, .int .i64 t178, .int .i64 t179, .int .i64 t180, .int .u32 a2_4] 53 (0, 0)) (by (with_reducible repeat (first | refine blk_drewN ?_ _ | refine blk_drew ?_ | refine blk_alloc ?_ _)); exact BK175.out)) : gb175 ≠ gb192)); have n6_ := Aside0.mk ((by rw [hg]; exact Nat.ne_of_gt (blk_lt (g := gb175) (o := .cells #[.int .i64 t177, .int .i64 t178, .int .i64 t179, .int .i64 t180, .int .u32 a2_4] 53 (0, 0)) (by (with_reducible repeat (first | refine blk_drewN ?_ _ | refine blk_drew ?_ | refine blk_alloc ?_ _)); exact BK175.out)) : gb192 ≠ gb175)); clear BK175; clear HB; have BK175 := n0_; have HB := n1_; have BK192 := n2_; have GW192 := n3_; have GE192 := n4_; have NB175_192 := n5_; have NB192_175 := n6_; clear n0_ n1_ n2_ n3_ n4_ n5_ n6_; clear hb hbox hg; have hnb32 := NB192_175.out; have hnc32 := NB175_192.out; have hcz33_0 : w31.cell? ⟨gb192, 0, none⟩ = some (.int .i64 0) := (blk_cell BK192.out 0).trans rfl; have hcz33_1 : w31.cell? ⟨gb192, 1, none⟩ = some (.int .i64 0) := (blk_cell BK192.out 1).trans rfl; have hcz33_2 : w31.cell? ⟨gb192, 2, none⟩ = some (.int .i64 0) := (blk_cell BK192.out 2).trans rfl; have hcz33_3 : w31.cell? ⟨gb192, 3, none⟩ = some (.int .i64 0) := (blk_cell BK192.out 3).trans rfl; have hcz33_4 : w31.cell? ⟨gb192, 4, none⟩ = some (.int .u32 0) := (blk_cell BK192.out 4).trans rfl; have hfz33_0 := blk_frozen BK192.out 0; have hfz33_1 := blk_frozen BK192.out 1; have hfz33_2 := blk_frozen BK192.out 2; have hfz33_3 := blk_frozen BK192.out 3; have hfz33_4 := blk_frozen BK192.out 4) | ((with_reducible refine gate_callee (f := 39) rfl ?_); refine goesL_ (some 73) rfl rfl Try.func39 (by kernel_rfl) rfl #[.string t183] rfl (by (try simp only [List.map_toArray, List.map_cons, List.map_nil]); first | done | rfl | (simp only [List.length_drop, List.length_take]; rfl)) ?_; (with_reducible refine (dgram_GetICMP.calls k t183 t193 t194 t195 t196 t197 t198 t199 _ A17.out).mono ?_); rintro e w34 ⟨rfl, hb⟩; refine ⟨_, rfl, ?_⟩; have n0_ := Aside0.mk (blk_below (g := gb175) (o := .cells #[.int .i64 t177, .int .i64 t178, .int .i64 t179, .int .i64 t180, .int .u32 a2_4] 53 (0, 0)) (by (with_reducible repeat (first | refine blk_drewN ?_ _ | refine blk_drew ?_ | refine blk_alloc ?_ _)); refine blk_far ?_ NB175_192.out _; (with_reducible repeat (first | refine blk_drewN ?_ _ | refine blk_drew ?_ | refine blk_alloc ?_ _)); refine blk_far ?_ NB175_192.out _; (with_reducible repeat (first | refine blk_drewN ?_ _ | refine blk_drew ?_ | refine blk_alloc ?_ _)); refine blk_far ?_ NB175_192.out _; (with_reducible repeat (first | refine blk_drewN ?_ _ | refine blk_drew ?_ | refine blk_alloc ?_ _)); refine blk_far ?_ NB175_192.out _; (with_reducible repeat (first | refine blk_drewN ?_ _ | refine blk_drew ?_ | refine blk_alloc ?_ _)); refine blk_far ?_ NB175_192.out _; (with_reducible repeat (first | refine blk_drewN ?_ _ | refine blk_drew ?_ | refine blk_alloc ?_ _)); exact BK175.out) hb); have n1_ := Aside0.mk (blk_below (g := gb192) (o := .cells #[.int .i64 t185, .int .i64 t186, .int .i64 t187, .int .i64 t188, .int .u32 t189] 53 (0, 0)) (by (with_reducible repeat (first | refine blk_drewN ?_ _ | refine blk_drew ?_ | refine blk_alloc ?_ _)); refine blk_put (cs := #[.int .i64 t185, .int .i64 t186, .int .i64 t187, .int .i64 t188, .int .u32 0]) ?_ 4 _ rfl; (with_reducible repeat (first | refine blk_drewN ?_ _ | refine blk_drew ?_ | refine blk_alloc ?_ _)); refine blk_put (cs := #[.int .i64 t185, .int .i64 t186, .int .i64 t187, .int .i64 0, .int .u32 0]) ?_ 3 _ rfl; (with_reducible repeat (first | refine blk_drewN ?_ _ | refine blk_drew ?_ | refine blk_alloc ?_ _)); refine blk_put (cs := #[.int .i64 t185, .int .i64 t186, .int .i64 0, .int .i64 0, .int .u32 0]) ?_ 2 _ rfl; (with_reducible repeat (first | refine blk_drewN ?_ _ | refine blk_drew ?_ | refine blk_alloc ?_ _)); refine blk_put (cs := #[.int .i64 t185, .int .i64 0, .int .i64 0, .int .i64 0, .int .u32 0]) ?_ 1 _ rfl; (with_reducible repeat (first | refine blk_drewN ?_ _ | refine blk_drew ?_ | refine blk_alloc ?_ _)); refine blk_put (cs := #[.int .i64 0, .int .i64 0, .int .i64 0, .int .i64 0, .int .u32 0]) ?_ 0 _ rfl; (with_reducible repeat (first | refine blk_drewN ?_ _ | refine blk_drew ?_ | refine blk_alloc ?_ _)); exact BK192.out) hb); have n2_ := Aside0.mk (below_step (by repeat (first | (with_reducible first | exact HB.out | apply below_alloc | apply pw_below_drewN | apply below_drew1 | refine below_set ?_ GE175.out | refine below_set ?_ GE192.out) | exact HB.out)) hb); clear BK175; clear BK192; clear HB; have BK175 := n0_; have BK192 := n1_; have HB := n2_; clear n0_ n1_ n2_; (try clear hb); (try clear hb2); (try clear hk); (try clear hi)) | ((with_reducible refine gate_dst (N := 18) rfl ?_); (try (refine gate_guard (by rfl) ?_; dsimp only)); refine box_event ?hg (N := 18) ?hd (cs := #[.int .i64 0, .int .i64 0, .int .i64 0, .int .i64 0, .int .u32 0]) (t := 53) ?hr ?_; (case hd => rfl); (case hg => rfl); (case hr => first | (go_simp; done) | (go_simp; rfl)); intro gb200 hg w35 hbox hb; have n0_ := Aside0.mk (blk_below (g := gb175) (o := .cells #[.int .i64 t177, .int .i64 t178, .int .i64 t179, .int .i64 t180, .int .u32 a2_4] 53 (0, 0)) (by (with_reducible repeat (first | refine blk_drewN ?_ _ | refine blk_drew ?_ | refine blk_alloc ?_ _)); exact BK175.out) hb); have n1_ := Aside0.mk (blk_below (g := gb192) (o := .cells #[.int .i64 t185, .int .i64 t186, .int .i64 t187, .int .i64 t188, .int .u32 t189] 53 (0, 0)) (by (with_reducible repeat (first | refine blk_drewN ?_ _ | refine blk_drew ?_ | refine blk_alloc ?_ _)); exact BK192.out) hb); have n2_ := Aside0.mk (below_step (by repeat (first | (with_reducible first | exact HB.out | apply below_alloc | apply pw_below_drewN | apply below_drew1 | refine below_set ?_ GE175.out | refine below_set ?_ GE192.out) | exact HB.out)) hb); have n3_ := Aside0.mk (hbox); have n4_ := Aside0.mk ((by rw [hg]; exact (below_size (by repeat (first | (with_reducible first | exact HB.out | apply below_alloc | apply pw_below_drewN | apply below_drew1 | refine below_set ?_ GE175.out | refine below_set ?_ GE192.out) | exact HB.out))) : w.heap.size ≤ gb200)); have n5_ := Aside0.mk ((by rw [hg]; exact (below_size (by repeat (first | (with_reducible first | exact HB.out | apply below_alloc | apply pw_below_drewN | apply below_drew1 | refine below_set ?_ GE175.out | refine below_set ?_ GE192.out) | exact HB.out))) : w.heap.size ≤ gb200)); have n6_ := Aside0.mk ((by rw [hg]; exact Nat.ne_of_lt (blk_lt (g := gb175) (o := .cells #[.int .i64 t177, .int .i64 t178, .int .i64 t179, .int .i64 t180, .int .u32 a2_4] 53 (0, 0)) (by (with_reducible repeat (first | refine blk_drewN ?_ _ | refine blk_drew ?_ | refine blk_alloc ?_ _)); exact BK175.out)) : gb175 ≠ gb200)); have n7_ := Aside0.mk ((by rw [hg]; exact Nat.ne_of_gt (blk_lt (g := gb175) (o := .cells #[.int .i64 t177, .int .i64 t178, .int .i64 t179, .int .i64 t180, .int .u32 a2_4] 53 (0, 0)) (by (with_reducible repeat (first | refine blk_drewN ?_ _ | refine blk_drew ?_ | refine blk_alloc ?_ _)); exact BK175.out)) : gb200 ≠ gb175)); have n8_ := Aside0.mk ((by rw [hg]; exact Nat.ne_of_lt (blk_lt (g := gb192) (o := .cells #[.int .i64 t185, .int .i64 t186, .int .i64 t187, .int .i64 t188, .int .u32 t189] 53 (0, 0)) (by (with_reducible repeat (first | refine blk_drewN ?_ _ | refine blk_drew ?_ | refine blk_alloc ?_ _)); exact BK192.out)) : gb192 ≠ gb200)); have n9_ := Aside0.mk ((by rw [hg]; exact Nat.ne_of_gt (blk_lt (g := gb192) (o := .cells #[.int .i64 t185, .int .i64 t186, .int .i64 t187, .int .i64 t188, .int .u32 t189] 53 (0, 0)) (by (with_reducible repeat (first | refine blk_drewN ?_ _ | refine blk_drew ?_ | refine blk_alloc ?_ _)); exact BK192.out)) : gb200 ≠ gb192)); clear BK175; clear BK192; clear HB; have BK175 := n0_; have BK192 := n1_; have HB := n2_; have BK200 := n3_; have GW200 := n4_; have GE200 := n5_; have NB175_200 := n6_; have NB200_175 := n7_; have NB192_200 := n8_; have NB200_192 := n9_; clear n0_ n1_ n2_ n3_ n4_ n5_ n6_ n7_ n8_ n9_; clear hb hbox hg; have hnb36 := NB200_175.out; have hnc36 := NB175_200.out; have hnb37 := NB200_192.out; have hnc37 := NB192_200.out; have hcz38_0 : w35.cell? ⟨gb200, 0, none⟩ = some (.int .i64 0) := (blk_cell BK200.out 0).trans rfl; have hcz38_1 : w35.cell? ⟨gb200, 1, none⟩ = some (.int .i64 0) := (blk_cell BK200.out 1).trans rfl; have hcz38_2 : w35.cell? ⟨gb200, 2, none⟩ = some (.int .i64 0) := (blk_cell BK200.out 2).trans rfl; have hcz38_3 : w35.cell? ⟨gb200, 3, none⟩ = some (.int .i64 0) := (blk_cell BK200.out 3).trans rfl; have hcz38_4 : w35.cell? ⟨gb200, 4, none⟩ = some (.int .u32 0) := (blk_cell BK200.out 4).trans rfl; have hfz38_0 := blk_frozen BK200.out 0; have hfz38_1 := blk_frozen BK200.out 1; have hfz38_2 := blk_frozen BK200.out 2; have hfz38_3 := blk_frozen BK200.out 3; have hfz38_4 := blk_frozen BK200.out 4))
  (try simp only [Act.put, List.setIfInBounds_toArray, List.set_cons_zero, List.set_cons_succ])
  go_cut [151] (fun v151 wc => ∃ (kq : Nat) (x151_17 : Bool), v151 = .bool x151_17 ∧ Aside0 (rampartlaw05_DgramBack.j0 kq a0 a1 a3 a4 t181 t183 x151_17 = some r) ∧ Aside0 (kq ≤ k) ∧ Aside0 (wc.heap[gb175]? = some (.cells #[.int .i64 t177, .int .i64 t178, .int .i64 t179, .int .i64 t180, .int .u32 a2_4] 53 (0, 0))) ∧ Aside0 (wc.heap[gb192]? = some (.cells #[.int .i64 t185, .int .i64 t186, .int .i64 t187, .int .i64 t188, .int .u32 t189] 53 (0, 0))) ∧ Aside0 (wc.heap[gb200]? = some (.cells #[.int .i64 t193, .int .i64 t194, .int .i64 t195, .int .i64 t196, .int .u32 t197] 53 (0, 0))) ∧ Aside0 (Below w.heap.size w wc))
  case first =>
   have H := HC18.out
   clear HC18
   by_cases c39 : t182 = 0
   ·
    rw [if_pos c39] at H
    have c39b0 : (t182 == 0) = true := beq_iff_eq.mpr c39
    have c39b1 : (t182 != 0) = false := bne_eq_false_iff_eq.mpr c39
    clear c39
    (first | rw [c39b0] | (simp only [i64_w, i32_w]; rw [c39b0]) | skip)
    by_cases c40 : t184 = 0
    ·
     rw [if_pos c40] at H
     have c40b0 : (t184 == 0) = true := beq_iff_eq.mpr c40
     have c40b1 : (t184 != 0) = false := bne_eq_false_iff_eq.mpr c40
     clear c40
     by_cases c41 : t191 = 0
     ·
      rw [if_pos c41] at H
      have c41b0 : (t191 == 0) = true := beq_iff_eq.mpr c41
      have c41b1 : (t191 != 0) = false := bne_eq_false_iff_eq.mpr c41
      clear c41
      by_cases c42 : t199 = 0
      ·
       rw [if_pos c42] at H
       have c42b0 : (t199 == 0) = true := beq_iff_eq.mpr c42
       have c42b1 : (t199 != 0) = false := bne_eq_false_iff_eq.mpr c42
       clear c42
       by_cases c43 : t190.toList = a3.toList
       ·
        rw [if_pos c43] at H
        have c43b0 : (t190.toList == a3.toList) = true := beq_iff_eq.mpr c43
        have c43b1 : (t190.toList != a3.toList) = false := bne_eq_false_iff_eq.mpr c43
        clear c43
        by_cases c44 : t198.toList = a3.toList
        ·
         rw [if_pos c44] at H
         have c44b0 : (t198.toList == a3.toList) = true := beq_iff_eq.mpr c44
         have c44b1 : (t198.toList != a3.toList) = false := bne_eq_false_iff_eq.mpr c44
         clear c44
         by_cases c45 : t185 = t177
         ·
          rw [if_pos c45] at H
          have c45b0 : (t185 == t177) = true := beq_iff_eq.mpr c45
          have c45b1 : (t185 != t177) = false := bne_eq_false_iff_eq.mpr c45
          clear c45
          by_cases c46 : t186 = t178
          ·
           rw [if_pos c46] at H
           have c46b0 : (t186 == t178) = true := beq_iff_eq.mpr c46
           have c46b1 : (t186 != t178) = false := bne_eq_false_iff_eq.mpr c46
           clear c46
           by_cases c47 : t195 = t179
           ·
            rw [if_pos c47] at H
            have c47b0 : (t195 == t179) = true := beq_iff_eq.mpr c47
            have c47b1 : (t195 != t179) = false := bne_eq_false_iff_eq.mpr c47
            clear c47
            by_cases c48 : t196 = t180
            ·
             rw [if_pos c48] at H
             have c48b0 : (t196 == t180) = true := beq_iff_eq.mpr c48
             have c48b1 : (t196 != t180) = false := bne_eq_false_iff_eq.mpr c48
             clear c48
             by_cases c49 : t197 = a2_4
             ·
              rw [if_pos c49] at H
              have c49b0 : (t197 == a2_4) = true := beq_iff_eq.mpr c49
              have c49b1 : (t197 != a2_4) = false := bne_eq_false_iff_eq.mpr c49
              clear c49
              by_cases c50 : (t181.size : Int) = (wrap64 (8 + (a3.size : Int)))
              ·
               rw [if_pos c50] at H
               have c50b0 : ((t181.size : Int) == (wrap64 (8 + (a3.size : Int)))) = true := beq_iff_eq.mpr c50
               have c50b1 : ((t181.size : Int) != (wrap64 (8 + (a3.size : Int)))) = false := bne_eq_false_iff_eq.mpr c50
               clear c50
               have H' := Aside0.mk H
               clear H
               have hnb51 := NB192_175.out
               have hnc51 := NB175_192.out
               have hnb52 := NB192_200.out
               have hnc52 := NB200_192.out
               have hcz53_0 : w35.cell? ⟨gb192, 0, none⟩ = some (.int .i64 t185) := (blk_cell BK192.out 0).trans rfl
               have hcz53_1 : w35.cell? ⟨gb192, 1, none⟩ = some (.int .i64 t186) := (blk_cell BK192.out 1).trans rfl
               have hcz53_2 : w35.cell? ⟨gb192, 2, none⟩ = some (.int .i64 t187) := (blk_cell BK192.out 2).trans rfl
               have hcz53_3 : w35.cell? ⟨gb192, 3, none⟩ = some (.int .i64 t188) := (blk_cell BK192.out 3).trans rfl
               have hcz53_4 : w35.cell? ⟨gb192, 4, none⟩ = some (.int .u32 t189) := (blk_cell BK192.out 4).trans rfl
               have hfz53_0 := blk_frozen BK192.out 0
               have hfz53_1 := blk_frozen BK192.out 1
               have hfz53_2 := blk_frozen BK192.out 2
               have hfz53_3 := blk_frozen BK192.out 3
               have hfz53_4 := blk_frozen BK192.out 4
               have hnb54 := NB175_200.out
               have hnc54 := NB200_175.out
               have hcz55_0 : w35.cell? ⟨gb175, 0, none⟩ = some (.int .i64 t177) := (blk_cell BK175.out 0).trans rfl
               have hcz55_1 : w35.cell? ⟨gb175, 1, none⟩ = some (.int .i64 t178) := (blk_cell BK175.out 1).trans rfl
               have hcz55_2 : w35.cell? ⟨gb175, 2, none⟩ = some (.int .i64 t179) := (blk_cell BK175.out 2).trans rfl
               have hcz55_3 : w35.cell? ⟨gb175, 3, none⟩ = some (.int .i64 t180) := (blk_cell BK175.out 3).trans rfl
               have hcz55_4 : w35.cell? ⟨gb175, 4, none⟩ = some (.int .u32 a2_4) := (blk_cell BK175.out 4).trans rfl
               have hfz55_0 := blk_frozen BK175.out 0
               have hfz55_1 := blk_frozen BK175.out 1
               have hfz55_2 := blk_frozen BK175.out 2
               have hfz55_3 := blk_frozen BK175.out 3
               have hfz55_4 := blk_frozen BK175.out 4
               have hcz56_0 : w35.cell? ⟨gb200, 0, none⟩ = some (.int .i64 0) := (blk_cell BK200.out 0).trans rfl
               have hcz56_1 : w35.cell? ⟨gb200, 1, none⟩ = some (.int .i64 0) := (blk_cell BK200.out 1).trans rfl
               have hcz56_2 : w35.cell? ⟨gb200, 2, none⟩ = some (.int .i64 0) := (blk_cell BK200.out 2).trans rfl
               have hcz56_3 : w35.cell? ⟨gb200, 3, none⟩ = some (.int .i64 0) := (blk_cell BK200.out 3).trans rfl
               have hcz56_4 : w35.cell? ⟨gb200, 4, none⟩ = some (.int .u32 0) := (blk_cell BK200.out 4).trans rfl
               have hfz56_0 := blk_frozen BK200.out 0
               have hfz56_1 := blk_frozen BK200.out 1
               have hfz56_2 := blk_frozen BK200.out 2
               have hfz56_3 := blk_frozen BK200.out 3
               have hfz56_4 := blk_frozen BK200.out 4
               go_wp2
               go_meet
               case rel => exact ⟨_, (((t183.size : Int) != (wrap64 (8 + (a3.size : Int))))), (by first | rfl | (simp; done) | (simp [*]; done)), H', ⟨by first | omega | exact Nat.le_refl _⟩, ⟨by (with_reducible repeat (first | refine blk_drewN ?_ _ | refine blk_drew ?_ | refine blk_alloc ?_ _)); refine blk_far ?_ NB175_200.out _; (with_reducible repeat (first | refine blk_drewN ?_ _ | refine blk_drew ?_ | refine blk_alloc ?_ _)); refine blk_far ?_ NB175_200.out _; (with_reducible repeat (first | refine blk_drewN ?_ _ | refine blk_drew ?_ | refine blk_alloc ?_ _)); refine blk_far ?_ NB175_200.out _; (with_reducible repeat (first | refine blk_drewN ?_ _ | refine blk_drew ?_ | refine blk_alloc ?_ _)); refine blk_far ?_ NB175_200.out _; (with_reducible repeat (first | refine blk_drewN ?_ _ | refine blk_drew ?_ | refine blk_alloc ?_ _)); refine blk_far ?_ NB175_200.out _; (with_reducible repeat (first | refine blk_drewN ?_ _ | refine blk_drew ?_ | refine blk_alloc ?_ _)); exact BK175.out⟩, ⟨by (with_reducible repeat (first | refine blk_drewN ?_ _ | refine blk_drew ?_ | refine blk_alloc ?_ _)); refine blk_far ?_ NB192_200.out _; (with_reducible repeat (first | refine blk_drewN ?_ _ | refine blk_drew ?_ | refine blk_alloc ?_ _)); refine blk_far ?_ NB192_200.out _; (with_reducible repeat (first | refine blk_drewN ?_ _ | refine blk_drew ?_ | refine blk_alloc ?_ _)); refine blk_far ?_ NB192_200.out _; (with_reducible repeat (first | refine blk_drewN ?_ _ | refine blk_drew ?_ | refine blk_alloc ?_ _)); refine blk_far ?_ NB192_200.out _; (with_reducible repeat (first | refine blk_drewN ?_ _ | refine blk_drew ?_ | refine blk_alloc ?_ _)); refine blk_far ?_ NB192_200.out _; (with_reducible repeat (first | refine blk_drewN ?_ _ | refine blk_drew ?_ | refine blk_alloc ?_ _)); exact BK192.out⟩, ⟨by (with_reducible repeat (first | refine blk_drewN ?_ _ | refine blk_drew ?_ | refine blk_alloc ?_ _)); refine blk_put (cs := #[.int .i64 t193, .int .i64 t194, .int .i64 t195, .int .i64 t196, .int .u32 0]) ?_ 4 _ rfl; (with_reducible repeat (first | refine blk_drewN ?_ _ | refine blk_drew ?_ | refine blk_alloc ?_ _)); refine blk_put (cs := #[.int .i64 t193, .int .i64 t194, .int .i64 t195, .int .i64 0, .int .u32 0]) ?_ 3 _ rfl; (with_reducible repeat (first | refine blk_drewN ?_ _ | refine blk_drew ?_ | refine blk_alloc ?_ _)); refine blk_put (cs := #[.int .i64 t193, .int .i64 t194, .int .i64 0, .int .i64 0, .int .u32 0]) ?_ 2 _ rfl; (with_reducible repeat (first | refine blk_drewN ?_ _ | refine blk_drew ?_ | refine blk_alloc ?_ _)); refine blk_put (cs := #[.int .i64 t193, .int .i64 0, .int .i64 0, .int .i64 0, .int .u32 0]) ?_ 1 _ rfl; (with_reducible repeat (first | refine blk_drewN ?_ _ | refine blk_drew ?_ | refine blk_alloc ?_ _)); refine blk_put (cs := #[.int .i64 0, .int .i64 0, .int .i64 0, .int .i64 0, .int .u32 0]) ?_ 0 _ rfl; (with_reducible repeat (first | refine blk_drewN ?_ _ | refine blk_drew ?_ | refine blk_alloc ?_ _)); exact BK200.out⟩, ⟨by repeat (first | (with_reducible first | exact HB.out | apply below_alloc | apply pw_below_drewN | apply below_drew1 | refine below_set ?_ GE175.out | refine below_set ?_ GE192.out | refine below_set ?_ GE200.out) | exact HB.out)⟩⟩
              ·
               rw [if_neg c50] at H
               exact absurd H (by first | exact rampartlaw05_DgramBack.j0_no HR.out)
             ·
              rw [if_neg c49] at H
              exact absurd H (by first | exact rampartlaw05_DgramBack.j0_no HR.out)
            ·
             rw [if_neg c48] at H
             exact absurd H (by first | exact rampartlaw05_DgramBack.j0_no HR.out)
           ·
            rw [if_neg c47] at H
            exact absurd H (by first | exact rampartlaw05_DgramBack.j0_no HR.out)
          ·
           rw [if_neg c46] at H
           exact absurd H (by first | exact rampartlaw05_DgramBack.j0_no HR.out)
         ·
          rw [if_neg c45] at H
          exact absurd H (by first | exact rampartlaw05_DgramBack.j0_no HR.out)
        ·
         rw [if_neg c44] at H
         exact absurd H (by first | exact rampartlaw05_DgramBack.j0_no HR.out)
       ·
        rw [if_neg c43] at H
        exact absurd H (by first | exact rampartlaw05_DgramBack.j0_no HR.out)
      ·
       rw [if_neg c42] at H
       exact absurd H (by first | exact rampartlaw05_DgramBack.j0_no HR.out)
     ·
      rw [if_neg c41] at H
      exact absurd H (by first | exact rampartlaw05_DgramBack.j0_no HR.out)
    ·
     rw [if_neg c40] at H
     exact absurd H (by first | exact rampartlaw05_DgramBack.j0_no HR.out)
   ·
    rw [if_neg c39] at H
    exact absurd H (by first | exact rampartlaw05_DgramBack.j0_no HR.out)
  case rest =>
   clear HC18
   try clear c1
   try clear c2
   try clear p2
   try clear c3
   try clear c4
   try clear c5
   try clear c6
   try clear p6
   try clear c7
   try clear c8
   try clear c13
   try clear c23
   try clear c32
   try clear c33
   try clear c34
   try clear c36
   try clear c37
   try clear c39
   try clear c39b0
   try clear c39b1
   try clear c40
   try clear c40b0
   try clear c40b1
   try clear c41
   try clear c41b0
   try clear c41b1
   try clear c42
   try clear c42b0
   try clear c42b1
   try clear c43
   try clear c43b0
   try clear c43b1
   try clear c44
   try clear c44b0
   try clear c44b1
   try clear c45
   try clear c45b0
   try clear c45b1
   try clear c46
   try clear c46b0
   try clear c46b1
   try clear c47
   try clear c47b0
   try clear c47b1
   try clear c48
   try clear c48b0
   try clear c48b1
   try clear c49
   try clear c49b0
   try clear c49b1
   try clear c50
   try clear c50b0
   try clear c50b1
   try clear c51
   try clear c52
   try clear c54
   try clear c57
   try clear c58
   try clear c60
   try clear c63
   try clear c64
   try clear p64
   try clear c66
   try clear c69
   try clear c70
   try clear c72
   try clear c75
   try clear c76
   try clear c78
   try clear c81
   try clear c82
   try clear c84
   try clear c86
   try clear c87
   try clear c89
   try clear hcz26_0
   try clear hcz26_1
   try clear hcz26_2
   try clear hcz26_3
   try clear hcz26_4
   try clear hcz28_0
   try clear hcz28_1
   try clear hcz28_2
   try clear hcz28_3
   try clear hcz28_4
   try clear hcz33_0
   try clear hcz33_1
   try clear hcz33_2
   try clear hcz33_3
   try clear hcz33_4
   try clear hcz38_0
   try clear hcz38_1
   try clear hcz38_2
   try clear hcz38_3
   try clear hcz38_4
   try clear hcz53_0
   try clear hcz53_1
   try clear hcz53_2
   try clear hcz53_3
   try clear hcz53_4
   try clear hcz55_0
   try clear hcz55_1
   try clear hcz55_2
   try clear hcz55_3
   try clear hcz55_4
   try clear hcz56_0
   try clear hcz56_1
   try clear hcz56_2
   try clear hcz56_3
   try clear hcz56_4
   try clear hcz59_0
   try clear hcz59_1
   try clear hcz59_2
   try clear hcz59_3
   try clear hcz59_4
   try clear hcz61_0
   try clear hcz61_1
   try clear hcz61_2
   try clear hcz61_3
   try clear hcz61_4
   try clear hcz62_0
   try clear hcz62_1
   try clear hcz62_2
   try clear hcz62_3
   try clear hcz62_4
   try clear hcz65_0
   try clear hcz65_1
   try clear hcz65_2
   try clear hcz65_3
   try clear hcz65_4
   try clear hcz67_0
   try clear hcz67_1
   try clear hcz67_2
   try clear hcz67_3
   try clear hcz67_4
   try clear hcz68_0
   try clear hcz68_1
   try clear hcz68_2
   try clear hcz68_3
   try clear hcz68_4
   try clear hcz71_0
   try clear hcz71_1
   try clear hcz71_2
   try clear hcz71_3
   try clear hcz71_4
   try clear hcz73_0
   try clear hcz73_1
   try clear hcz73_2
   try clear hcz73_3
   try clear hcz73_4
   try clear hcz74_0
   try clear hcz74_1
   try clear hcz74_2
   try clear hcz74_3
   try clear hcz74_4
   try clear hcz77_0
   try clear hcz77_1
   try clear hcz77_2
   try clear hcz77_3
   try clear hcz77_4
   try clear hcz79_0
   try clear hcz79_1
   try clear hcz79_2
   try clear hcz79_3
   try clear hcz79_4
   try clear hcz80_0
   try clear hcz80_1
   try clear hcz80_2
   try clear hcz80_3
   try clear hcz80_4
   try clear hcz83_0
   try clear hcz83_1
   try clear hcz83_2
   try clear hcz83_3
   try clear hcz83_4
   try clear hcz85_0
   try clear hcz85_1
   try clear hcz85_2
   try clear hcz85_3
   try clear hcz85_4
   try clear hcz88_0
   try clear hcz88_1
   try clear hcz88_2
   try clear hcz88_3
   try clear hcz88_4
   try clear hcz90_0
   try clear hcz90_1
   try clear hcz90_2
   try clear hcz90_3
   try clear hcz90_4
   try clear hfz26_0
   try clear hfz26_1
   try clear hfz26_2
   try clear hfz26_3
   try clear hfz26_4
   try clear hfz28_0
   try clear hfz28_1
   try clear hfz28_2
   try clear hfz28_3
   try clear hfz28_4
   try clear hfz33_0
   try clear hfz33_1
   try clear hfz33_2
   try clear hfz33_3
   try clear hfz33_4
   try clear hfz38_0
   try clear hfz38_1
   try clear hfz38_2
   try clear hfz38_3
   try clear hfz38_4
   try clear hfz53_0
   try clear hfz53_1
   try clear hfz53_2
   try clear hfz53_3
   try clear hfz53_4
   try clear hfz55_0
   try clear hfz55_1
   try clear hfz55_2
   try clear hfz55_3
   try clear hfz55_4
   try clear hfz56_0
   try clear hfz56_1
   try clear hfz56_2
   try clear hfz56_3
   try clear hfz56_4
   try clear hfz59_0
   try clear hfz59_1
   try clear hfz59_2
   try clear hfz59_3
   try clear hfz59_4
   try clear hfz61_0
   try clear hfz61_1
   try clear hfz61_2
   try clear hfz61_3
   try clear hfz61_4
   try clear hfz62_0
   try clear hfz62_1
   try clear hfz62_2
   try clear hfz62_3
   try clear hfz62_4
   try clear hfz65_0
   try clear hfz65_1
   try clear hfz65_2
   try clear hfz65_3
   try clear hfz65_4
   try clear hfz67_0
   try clear hfz67_1
   try clear hfz67_2
   try clear hfz67_3
   try clear hfz67_4
   try clear hfz68_0
   try clear hfz68_1
   try clear hfz68_2
   try clear hfz68_3
   try clear hfz68_4
   try clear hfz71_0
   try clear hfz71_1
   try clear hfz71_2
   try clear hfz71_3
   try clear hfz71_4
   try clear hfz73_0
   try clear hfz73_1
   try clear hfz73_2
   try clear hfz73_3
   try clear hfz73_4
   try clear hfz74_0
   try clear hfz74_1
   try clear hfz74_2
   try clear hfz74_3
   try clear hfz74_4
   try clear hfz77_0
   try clear hfz77_1
   try clear hfz77_2
   try clear hfz77_3
   try clear hfz77_4
   try clear hfz79_0
   try clear hfz79_1
   try clear hfz79_2
   try clear hfz79_3
   try clear hfz79_4
   try clear hfz80_0
   try clear hfz80_1
   try clear hfz80_2
   try clear hfz80_3
   try clear hfz80_4
   try clear hfz83_0
   try clear hfz83_1
   try clear hfz83_2
   try clear hfz83_3
   try clear hfz83_4
   try clear hfz85_0
   try clear hfz85_1
   try clear hfz85_2
   try clear hfz85_3
   try clear hfz85_4
   try clear hfz88_0
   try clear hfz88_1
   try clear hfz88_2
   try clear hfz88_3
   try clear hfz88_4
   try clear hfz90_0
   try clear hfz90_1
   try clear hfz90_2
   try clear hfz90_3
   try clear hfz90_4
   obtain ⟨kq, x151_17, rfl, HA, HJ17, BK175, BK192, BK200, HB⟩ := hcut
   cases kq with
   | zero => exact absurd HA.out (by simp [rampartlaw05_DgramBack.j0])
   | succ kj17 =>
    have H := HA.out
    clear HA
    simp only [rampartlaw05_DgramBack.j0] at H
    by_cases c91 : x151_17 = true
    ·
     subst c91
     have H1 : (some false) = some r := by rw [if_pos rfl] at H; exact H
     clear H
     have H := H1
     clear H1
     exact absurd ((Option.some.inj H).trans HR.out) (by decide)
    ·
     replace c91 := Bool.eq_false_iff.mpr c91
     subst c91
     have H1 : (if (a3.size : Int) = 0 then ((rampartlaw05_awake.f kj17).bind fun t201 => (some t201)) else ((rampartlaw00_Place.f a4 (wrap64 (8 * (a3.size : Int)))).bind fun t202 => (if 0 ≤ (wrap64 (8 + (wrap64 (Int.tdiv t202 8)))) then (if (wrap64 (8 + (wrap64 (Int.tdiv t202 8)))) < (t181.size : Int) then (if 0 ≤ (IntKind.u64.wrap (Int.tmod t202 8)) then ((gosem_cut_init.f t181 (wrap64 (8 + (wrap64 (Int.tdiv t202 8)))) (Go.bits .xor .u8 (bt t181 (wrap64 (8 + (wrap64 (Int.tdiv t202 8))))) (shl .u8 1 (IntKind.u64.wrap (Int.tmod t202 8))))).bind fun t203 => (if (wrap64 (8 + (wrap64 (Int.tdiv t202 8)))) < (t183.size : Int) then ((gosem_cut_init.f t183 (wrap64 (8 + (wrap64 (Int.tdiv t202 8)))) (Go.bits .xor .u8 (bt t183 (wrap64 (8 + (wrap64 (Int.tdiv t202 8))))) (shl .u8 1 (IntKind.u64.wrap (Int.tmod t202 8))))).bind fun t204 => ((dgram_GetUDP.f kj17 a0 a1 t203).bind fun bt205 => ((dgram_GetICMP.f kj17 t204).bind fun bt213 => (if bt205.2.2.2.2.2.2 = 4 then (if bt213.2.2.2.2.2.2 = 4 then ((rampartlaw05_awake.f kj17).bind fun t221 => (some t221)) else (some false)) else (some false))))) else (none))) else (none)) else (none)) else (none)))) = some r := by rw [if_neg (show ¬ (false = true) by decide)] at H; exact H
     clear H
     have H := H1
     clear H1
     by_cases c92 : (a3.size : Int) = 0
     ·
      rw [if_pos c92] at H
      have c92b0 : ((a3.size : Int) == 0) = true := beq_iff_eq.mpr c92
      have c92b1 : ((a3.size : Int) != 0) = false := bne_eq_false_iff_eq.mpr c92
      clear c92
      replace H := Option.bind_eq_some_iff.mp H
      obtain ⟨t201, A930, H⟩ := H
      replace H : (some t201) = some r := H
      have A93 := Aside0.mk A930
      clear A930
      obtain rfl := Option.some.inj H
      go_wp2_with (first | ((with_reducible refine gate_callee (f := 32) rfl ?_); refine goesL_ (some 155) rfl rfl Try.func32 (by kernel_rfl) rfl #[] rfl (by (try simp only [List.map_toArray, List.map_cons, List.map_nil]); first | done | rfl | (simp only [List.length_drop, List.length_take]; rfl)) ?_; (with_reducible refine (rampartlaw05_awake.calls kj17  t201 _ A93.out (by first | rfl | exact HR.out)).mono ?_); rintro e w94 ⟨rfl, hb⟩; refine ⟨_, rfl, ?_⟩; have n0_ := Aside0.mk (blk_below (g := gb175) (o := .cells #[.int .i64 t177, .int .i64 t178, .int .i64 t179, .int .i64 t180, .int .u32 a2_4] 53 (0, 0)) (by (with_reducible repeat (first | refine blk_drewN ?_ _ | refine blk_drew ?_ | refine blk_alloc ?_ _)); exact BK175.out) hb); have n1_ := Aside0.mk (blk_below (g := gb192) (o := .cells #[.int .i64 t185, .int .i64 t186, .int .i64 t187, .int .i64 t188, .int .u32 t189] 53 (0, 0)) (by (with_reducible repeat (first | refine blk_drewN ?_ _ | refine blk_drew ?_ | refine blk_alloc ?_ _)); exact BK192.out) hb); have n2_ := Aside0.mk (blk_below (g := gb200) (o := .cells #[.int .i64 t193, .int .i64 t194, .int .i64 t195, .int .i64 t196, .int .u32 t197] 53 (0, 0)) (by (with_reducible repeat (first | refine blk_drewN ?_ _ | refine blk_drew ?_ | refine blk_alloc ?_ _)); exact BK200.out) hb); have n3_ := Aside0.mk (below_step (by repeat (first | (with_reducible first | exact HB.out | apply below_alloc | apply pw_below_drewN | apply below_drew1 | refine below_set ?_ GE175.out | refine below_set ?_ GE192.out | refine below_set ?_ GE200.out) | exact HB.out)) hb); clear BK175; clear BK192; clear BK200; clear HB; have BK175 := n0_; have BK192 := n1_; have BK200 := n2_; have HB := n3_; clear n0_ n1_ n2_ n3_; (try clear hb); (try clear hb2); (try clear hk); (try clear hi)))
      go_ret
      exact ⟨by first | rfl | (simp [errW_none, errW_some] <;> rfl) | (simp [*, errW_none, errW_some] <;> rfl), by repeat (first | (with_reducible first | exact HB.out | apply below_alloc | apply pw_below_drewN | apply below_drew1 | refine below_set ?_ GE175.out | refine below_set ?_ GE192.out | refine below_set ?_ GE200.out) | exact HB.out)⟩
     ·
      rw [if_neg c92] at H
      have c92b0 : ((a3.size : Int) == 0) = false := beq_eq_false_iff_ne.mpr c92
      have c92b1 : ((a3.size : Int) != 0) = true := bne_iff_ne.mpr c92
      replace H := Option.bind_eq_some_iff.mp H
      obtain ⟨t202, A950, H⟩ := H
      replace H : (if 0 ≤ (wrap64 (8 + (wrap64 (Int.tdiv t202 8)))) then (if (wrap64 (8 + (wrap64 (Int.tdiv t202 8)))) < (t181.size : Int) then (if 0 ≤ (IntKind.u64.wrap (Int.tmod t202 8)) then ((gosem_cut_init.f t181 (wrap64 (8 + (wrap64 (Int.tdiv t202 8)))) (Go.bits .xor .u8 (bt t181 (wrap64 (8 + (wrap64 (Int.tdiv t202 8))))) (shl .u8 1 (IntKind.u64.wrap (Int.tmod t202 8))))).bind fun t203 => (if (wrap64 (8 + (wrap64 (Int.tdiv t202 8)))) < (t183.size : Int) then ((gosem_cut_init.f t183 (wrap64 (8 + (wrap64 (Int.tdiv t202 8)))) (Go.bits .xor .u8 (bt t183 (wrap64 (8 + (wrap64 (Int.tdiv t202 8))))) (shl .u8 1 (IntKind.u64.wrap (Int.tmod t202 8))))).bind fun t204 => ((dgram_GetUDP.f kj17 a0 a1 t203).bind fun bt205 => ((dgram_GetICMP.f kj17 t204).bind fun bt213 => (if bt205.2.2.2.2.2.2 = 4 then (if bt213.2.2.2.2.2.2 = 4 then ((rampartlaw05_awake.f kj17).bind fun t221 => (some t221)) else (some false)) else (some false))))) else (none))) else (none)) else (none)) else (none)) = some r := H
      have A95 := Aside0.mk A950
      clear A950
      obtain ⟨ji96, hji96⟩ : ∃ j_ : Int, (wrap64 (8 + (wrap64 (Int.tdiv t202 8)))) = j_ := ⟨_, rfl⟩
      replace H : (if 0 ≤ (ji96) then (if (ji96) < (t181.size : Int) then (if 0 ≤ (IntKind.u64.wrap (Int.tmod t202 8)) then ((gosem_cut_init.f t181 (ji96) (Go.bits .xor .u8 (bt t181 (ji96)) (shl .u8 1 (IntKind.u64.wrap (Int.tmod t202 8))))).bind fun t203 => (if (ji96) < (t183.size : Int) then ((gosem_cut_init.f t183 (ji96) (Go.bits .xor .u8 (bt t183 (ji96)) (shl .u8 1 (IntKind.u64.wrap (Int.tmod t202 8))))).bind fun t204 => ((dgram_GetUDP.f kj17 a0 a1 t203).bind fun bt205 => ((dgram_GetICMP.f kj17 t204).bind fun bt213 => (if bt205.2.2.2.2.2.2 = 4 then (if bt213.2.2.2.2.2.2 = 4 then ((rampartlaw05_awake.f kj17).bind fun t221 => (some t221)) else (some false)) else (some false))))) else (none))) else (none)) else (none)) else (none)) = some r := by first | (rw [hji96] at H; exact H) | (simp only [hji96] at H ⊢; exact H)
      (try rw [hji96] at A95)
      have hji96w : (IntKind.i64.wrap (8 + (wrap64 (Int.tdiv t202 8)))) = ji96 := (i64_w _).trans hji96
      by_cases c97 : 0 ≤ (ji96)
      ·
       rw [if_pos c97] at H
       have c97b0 : decide (0 ≤ (ji96)) = true := decide_eq_true c97
       clear c97
       by_cases c98 : (ji96) < (t181.size : Int)
       ·
        rw [if_pos c98] at H
        have c98b0 : decide ((ji96) < (t181.size : Int)) = true := decide_eq_true c98
        clear c98
        obtain ⟨ji100, hji100⟩ : ∃ j_ : Int, (IntKind.u64.wrap (Int.tmod t202 8)) = j_ := ⟨_, rfl⟩
        replace H : (if 0 ≤ (ji100) then ((gosem_cut_init.f t181 (ji96) (Go.bits .xor .u8 (bt t181 (ji96)) (shl .u8 1 (ji100)))).bind fun t203 => (if (ji96) < (t183.size : Int) then ((gosem_cut_init.f t183 (ji96) (Go.bits .xor .u8 (bt t183 (ji96)) (shl .u8 1 (ji100)))).bind fun t204 => ((dgram_GetUDP.f kj17 a0 a1 t203).bind fun bt205 => ((dgram_GetICMP.f kj17 t204).bind fun bt213 => (if bt205.2.2.2.2.2.2 = 4 then (if bt213.2.2.2.2.2.2 = 4 then ((rampartlaw05_awake.f kj17).bind fun t221 => (some t221)) else (some false)) else (some false))))) else (none))) else (none)) = some r := by first | (rw [hji100] at H; exact H) | (simp only [hji100] at H ⊢; exact H)
        (try rw [hji100] at A95)
        by_cases c101 : 0 ≤ (ji100)
        ·
         rw [if_pos c101] at H
         have c101b0 := eq_true c101
         have c101b1 : decide (0 ≤ (ji100)) = true := decide_eq_true c101
         clear c101
         obtain ⟨ji102, hji102⟩ : ∃ j_ : Int, (shl .u8 1 (ji100)) = j_ := ⟨_, rfl⟩
         replace H : ((gosem_cut_init.f t181 (ji96) (Go.bits .xor .u8 (bt t181 (ji96)) (ji102))).bind fun t203 => (if (ji96) < (t183.size : Int) then ((gosem_cut_init.f t183 (ji96) (Go.bits .xor .u8 (bt t183 (ji96)) (ji102))).bind fun t204 => ((dgram_GetUDP.f kj17 a0 a1 t203).bind fun bt205 => ((dgram_GetICMP.f kj17 t204).bind fun bt213 => (if bt205.2.2.2.2.2.2 = 4 then (if bt213.2.2.2.2.2.2 = 4 then ((rampartlaw05_awake.f kj17).bind fun t221 => (some t221)) else (some false)) else (some false))))) else (none))) = some r := by first | (rw [hji102] at H; exact H) | (simp only [hji102] at H ⊢; exact H)
         (try rw [hji102] at A95)
         have hji102_ : (IntKind.u8.wrap (1 * 2 ^ min (ji100).toNat 8)) = ji102 := hji102
         have hji102z : (ji100) ≤ 8 → (IntKind.u8.wrap (1 * 2 ^ (ji100).toNat)) = ji102 := shl_small hji102
         have hji102u : (IntKind.u8.wrap (2 ^ min (ji100).toNat 8)) = ji102 := by have h_ := hji102_; rw [Int.one_mul] at h_; exact h_
         have hji102v : (ji100) ≤ 8 → (IntKind.u8.wrap (2 ^ (ji100).toNat)) = ji102 := fun hle_ => by have h_ := hji102z hle_; rw [Int.one_mul] at h_; exact h_
         replace H := Option.bind_eq_some_iff.mp H
         obtain ⟨t203, A1030, H⟩ := H
         replace H : (if (ji96) < (t183.size : Int) then ((gosem_cut_init.f t183 (ji96) (Go.bits .xor .u8 (bt t183 (ji96)) (ji102))).bind fun t204 => ((dgram_GetUDP.f kj17 a0 a1 t203).bind fun bt205 => ((dgram_GetICMP.f kj17 t204).bind fun bt213 => (if bt205.2.2.2.2.2.2 = 4 then (if bt213.2.2.2.2.2.2 = 4 then ((rampartlaw05_awake.f kj17).bind fun t221 => (some t221)) else (some false)) else (some false))))) else (none)) = some r := H
         have A103 := Aside0.mk A1030
         clear A1030
         by_cases c104 : (ji96) < (t183.size : Int)
         ·
          rw [if_pos c104] at H
          have c104b0 : decide ((ji96) < (t183.size : Int)) = true := decide_eq_true c104
          clear c104
          have c106b0 := eq_true (of_decide_eq_true (by first | (with_reducible assumption) | assumption) : 0 ≤ (ji100))
          replace H := Option.bind_eq_some_iff.mp H
          obtain ⟨t204, A1080, H⟩ := H
          replace H : ((dgram_GetUDP.f kj17 a0 a1 t203).bind fun bt205 => ((dgram_GetICMP.f kj17 t204).bind fun bt213 => (if bt205.2.2.2.2.2.2 = 4 then (if bt213.2.2.2.2.2.2 = 4 then ((rampartlaw05_awake.f kj17).bind fun t221 => (some t221)) else (some false)) else (some false)))) = some r := H
          have A108 := Aside0.mk A1080
          clear A1080
          replace H := Option.bind_eq_some_iff.mp H
          obtain ⟨⟨t205, t206, t207, t208, t209, t210, t211⟩, A1090, H⟩ := H
          replace H : ((dgram_GetICMP.f kj17 t204).bind fun bt213 => (if t211 = 4 then (if bt213.2.2.2.2.2.2 = 4 then ((rampartlaw05_awake.f kj17).bind fun t221 => (some t221)) else (some false)) else (some false))) = some r := H
          have A109 := Aside0.mk A1090
          clear A1090
          replace H := Option.bind_eq_some_iff.mp H
          obtain ⟨⟨t213, t214, t215, t216, t217, t218, t219⟩, A1100, H⟩ := H
          replace H : (if t211 = 4 then (if t219 = 4 then ((rampartlaw05_awake.f kj17).bind fun t221 => (some t221)) else (some false)) else (some false)) = some r := H
          have A110 := Aside0.mk A1100
          clear A1100
          by_cases c111 : t211 = 4
          ·
           rw [if_pos c111] at H
           have c111b0 : (t211 == 4) = true := beq_iff_eq.mpr c111
           have c111b1 : (t211 != 4) = false := bne_eq_false_iff_eq.mpr c111
           clear c111
           by_cases c112 : t219 = 4
           ·
            rw [if_pos c112] at H
            have c112b0 : (t219 == 4) = true := beq_iff_eq.mpr c112
            have c112b1 : (t219 != 4) = false := bne_eq_false_iff_eq.mpr c112
            clear c112
            replace H := Option.bind_eq_some_iff.mp H
            obtain ⟨t221, A1130, H⟩ := H
            replace H : (some t221) = some r := H
            have A113 := Aside0.mk A1130
            clear A1130
            obtain rfl := Option.some.inj H
            have hconv8 := fun (s : ByteArray) (w : World) => Lib.run_convert_string_bytes (P := Try.prog) w 9 34 5 s Try.underlying9 Try.underlying34 Try.underlying5
            go_wp2_with (first | ((with_reducible refine gate_callee (f := 23) rfl ?_); refine goesL_ (some 160) rfl rfl Try.func23 (by kernel_rfl) rfl #[.int .i64 a4, .int .i64 (wrap64 (8 * (a3.size : Int)))] rfl (by (try simp only [List.map_toArray, List.map_cons, List.map_nil]); first | done | rfl | (simp only [List.length_drop, List.length_take]; rfl)) ?_; (with_reducible refine (rampartlaw00_Place.calls a4 (wrap64 (8 * (a3.size : Int))) t202 _ A95.out).mono ?_); rintro e w' ⟨rfl, ⟨nd, rfl⟩⟩; refine ⟨_, rfl, ?_⟩; (try (rw [drewN_self wc]; generalize hq_ : World.drewN wc _ = wc; have n0_ : Aside0 (wc.heap[gb175]? = some (.cells #[.int .i64 t177, .int .i64 t178, .int .i64 t179, .int .i64 t180, .int .u32 a2_4] 53 (0, 0))) := ⟨by rw [← hq_]; exact (by (with_reducible repeat (first | refine blk_drewN ?_ _ | refine blk_drew ?_ | refine blk_alloc ?_ _)); exact BK175.out)⟩; have n1_ : Aside0 (wc.heap[gb192]? = some (.cells #[.int .i64 t185, .int .i64 t186, .int .i64 t187, .int .i64 t188, .int .u32 t189] 53 (0, 0))) := ⟨by rw [← hq_]; exact (by (with_reducible repeat (first | refine blk_drewN ?_ _ | refine blk_drew ?_ | refine blk_alloc ?_ _)); exact BK192.out)⟩; have n2_ : Aside0 (wc.heap[gb200]? = some (.cells #[.int .i64 t193, .int .i64 t194, .int .i64 t195, .int .i64 t196, .int .u32 t197] 53 (0, 0))) := ⟨by rw [← hq_]; exact (by (with_reducible repeat (first | refine blk_drewN ?_ _ | refine blk_drew ?_ | refine blk_alloc ?_ _)); exact BK200.out)⟩; have n3_ : Aside0 (Below w.heap.size w wc) := ⟨by rw [← hq_]; exact (by repeat (first | (with_reducible first | exact HB.out | apply below_alloc | apply pw_below_drewN | apply below_drew1 | refine below_set ?_ GE175.out | refine below_set ?_ GE192.out | refine below_set ?_ GE200.out) | exact HB.out))⟩; clear BK175 BK192 BK200 HB hq_; have BK175 := n0_; have BK192 := n1_; have BK200 := n2_; have HB := n3_; clear n0_ n1_ n2_ n3_)); have p99 : 0 ≤ ((ji96) : Int) := of_decide_eq_true (by first | (with_reducible assumption) | assumption); have q99 : (ji96) < (t181.size : Int) := of_decide_eq_true (by first | (with_reducible assumption) | assumption); have hx99 := bt_at t181 (ji96); replace p99 := eq_true p99; replace q99 := eq_true q99) | ((with_reducible refine gate_dst (N := 162) rfl ?_); refine conv_event ?hg (N := 162) ?hd (s := t181) ?hr ?_; (case hd => rfl); (case hg => rfl); (case hr => first | (go_simp; done) | (go_simp; rfl)); intro g8 hg8 c8 w8 hrow8 hb8; have BB8 := Aside0.mk hrow8; have BL8 := Aside0.mk hb8; have GG8 := Aside0.mk (Nat.le_of_eq hg8.symm); clear hrow8 hg8 hb8) | ((with_reducible refine gate_dst (N := 164) rfl ?_); refine conv_event ?hg (N := 164) ?hd (s := t183) ?hr ?_; (case hd => rfl); (case hg => rfl); (case hr => first | (go_simp; done) | (go_simp; rfl)); intro g9 hg9 c9 w9 hrow9 hb9; have R8 := Aside0.mk (row8_below BB8.out hb9); have R9 := Aside0.mk hrow9; have NE89 : Aside0 (g8 ≠ g9) := ⟨(by rw [hg9]; exact Nat.ne_of_lt (row8_lt BB8.out))⟩; have GG9 := Aside0.mk (by rw [hg9]; exact below_size BL8.out : wc.heap.size ≤ g9); have BL := Aside0.mk (below_step BL8.out hb9); clear hrow9 hg9 hb9; have SB0 := set_bounds A103.out; have hc8_0 : w9.cell? ⟨g8, (ji96).toNat, none⟩ = some (.int .u8 (bt t181 (ji96))) := row8_cell R8.out (i := ji96) SB0.1 SB0.2; have hf8_0 : w9.frozen? ⟨g8, (ji96).toNat, none⟩ = false := row8_frozen R8.out (i := ji96) SB0.1 SB0.2; have TT0 := set_eq A103.out; have BS0 : Aside0 (Row8 (w9.setCell ⟨g8, (ji96).toNat, none⟩ (.int .u8 ((Go.bits .xor .u8 (bt t181 (ji96)) (ji102))))) g8 t203) := ⟨(by rw [TT0]; exact row8_set R8.out (i := ji96) (v := (Go.bits .xor .u8 (bt t181 (ji96)) (ji102))) SB0.1 SB0.2 (by first | decide | exact (bits8_range _ _ _).1) (by first | decide | exact (bits8_range _ _ _).2))⟩; have R9b : Aside0 (Row8 (w9.setCell ⟨g8, (ji96).toNat, none⟩ (.int .u8 ((Go.bits .xor .u8 (bt t181 (ji96)) (ji102))))) g9 t183) := ⟨row8_other R9.out NE89.out.symm⟩; have SB1 := set_bounds A108.out; have hc9_0 : (w9.setCell ⟨g8, (ji96).toNat, none⟩ (.int .u8 ((Go.bits .xor .u8 (bt t181 (ji96)) (ji102))))).cell? ⟨g9, (ji96).toNat, none⟩ = some (.int .u8 (bt t183 (ji96))) := row8_cell R9b.out (i := ji96) SB1.1 SB1.2; have hf9_0 : (w9.setCell ⟨g8, (ji96).toNat, none⟩ (.int .u8 ((Go.bits .xor .u8 (bt t181 (ji96)) (ji102))))).frozen? ⟨g9, (ji96).toNat, none⟩ = false := row8_frozen R9b.out (i := ji96) SB1.1 SB1.2; have TT1 := set_eq A108.out; have BS1 : Aside0 (Row8 ((w9.setCell ⟨g8, (ji96).toNat, none⟩ (.int .u8 ((Go.bits .xor .u8 (bt t181 (ji96)) (ji102))))).setCell ⟨g9, (ji96).toNat, none⟩ (.int .u8 ((Go.bits .xor .u8 (bt t183 (ji96)) (ji102))))) g9 t204) := ⟨(by rw [TT1]; exact row8_set R9b.out (i := ji96) (v := (Go.bits .xor .u8 (bt t183 (ji96)) (ji102))) SB1.1 SB1.2 (by first | decide | exact (bits8_range _ _ _).1) (by first | decide | exact (bits8_range _ _ _).2))⟩; have R8b : Aside0 (Row8 ((w9.setCell ⟨g8, (ji96).toNat, none⟩ (.int .u8 ((Go.bits .xor .u8 (bt t181 (ji96)) (ji102))))).setCell ⟨g9, (ji96).toNat, none⟩ (.int .u8 ((Go.bits .xor .u8 (bt t183 (ji96)) (ji102))))) g8 t203) := ⟨row8_other BS0.out NE89.out⟩; have NDW := Aside0.mk (rfl : World.drewN w9 0 = World.drewN w9 0); have p105 : 0 ≤ ((ji96) : Int) := of_decide_eq_true (by first | (with_reducible assumption) | assumption); have q105 : (ji96) < (t183.size : Int) := of_decide_eq_true (by first | (with_reducible assumption) | assumption); have hx105 := bt_at t183 (ji96); replace p105 := eq_true p105; replace q105 := eq_true q105) | ((with_reducible refine gate_dst (N := 201) rfl ?_); refine back_row ?hg (N := 201) ?hd (g := g8) (n := t181.size) (s := t203) Try.underlying34 Try.underlying5 Try.underlying9 ?hrow ?hn ?hr ?_; (case hd => rfl); (case hg => rfl); (case hrow => exact R8b.out); (case hn => rw [TT0, bset_size]); (case hr => intro hback; first | (go_simp; done) | (go_simp; rfl)); intro w114 hw8; have hb : Below wc.heap.size wc w114 := (by rw [hw8]; exact below_set (below_set BL.out GG8.out) GG9.out); have RR : Aside0 (Row8 w114 g9 t204) := ⟨(by rw [hw8]; exact BS1.out)⟩; clear hw8; have n0_ := Aside0.mk (blk_below (g := gb175) (o := .cells #[.int .i64 t177, .int .i64 t178, .int .i64 t179, .int .i64 t180, .int .u32 a2_4] 53 (0, 0)) (by (with_reducible repeat (first | refine blk_drewN ?_ _ | refine blk_drew ?_ | refine blk_alloc ?_ _)); exact BK175.out) hb); have n1_ := Aside0.mk (blk_below (g := gb192) (o := .cells #[.int .i64 t185, .int .i64 t186, .int .i64 t187, .int .i64 t188, .int .u32 t189] 53 (0, 0)) (by (with_reducible repeat (first | refine blk_drewN ?_ _ | refine blk_drew ?_ | refine blk_alloc ?_ _)); exact BK192.out) hb); have n2_ := Aside0.mk (blk_below (g := gb200) (o := .cells #[.int .i64 t193, .int .i64 t194, .int .i64 t195, .int .i64 t196, .int .u32 t197] 53 (0, 0)) (by (with_reducible repeat (first | refine blk_drewN ?_ _ | refine blk_drew ?_ | refine blk_alloc ?_ _)); exact BK200.out) hb); have n3_ := Aside0.mk (below_step (by repeat (first | (with_reducible first | exact HB.out | apply below_alloc | apply pw_below_drewN | apply below_drew1 | refine below_set ?_ GE175.out | refine below_set ?_ GE192.out | refine below_set ?_ GE200.out) | exact HB.out)) hb); clear BK175; clear BK192; clear BK200; clear HB; have BK175 := n0_; have BK192 := n1_; have BK200 := n2_; have HB := n3_; clear n0_ n1_ n2_ n3_; (try clear hb); (try clear hb2); (try clear hk); (try clear hi)) | ((with_reducible refine gate_dst (N := 208) rfl ?_); refine back_row ?hg (N := 208) ?hd (g := g9) (n := t183.size) (s := t204) Try.underlying34 Try.underlying5 Try.underlying9 ?hrow ?hn ?hr ?_; (case hd => rfl); (case hg => rfl); (case hrow => repeat (first | exact RR.out | refine row8_other ?_ NE8.out)); (case hn => rw [TT1, bset_size]); (case hr => intro hback; first | (go_simp; done) | (go_simp; rfl)); intro w30 hw30; subst hw30) | ((with_reducible refine gate_callee (f := 34) rfl ?_); refine goesL_ (some 202) rfl rfl Try.func34 (by kernel_rfl) rfl #[.int .u32 a0, .int .u32 a1, .string t203] rfl (by (try simp only [List.map_toArray, List.map_cons, List.map_nil]); first | done | rfl | (simp only [List.length_drop, List.length_take]; rfl)) ?_; (with_reducible refine (dgram_GetUDP.calls kj17 a0 a1 t203 t205 t206 t207 t208 t209 t210 t211 _ A109.out).mono ?_); rintro e w116 ⟨rfl, hb⟩; refine ⟨_, rfl, ?_⟩; have RR1 := Aside0.mk (row8_below RR.out hb); clear RR; have RR := RR1; clear RR1; have n0_ := Aside0.mk (blk_below (g := gb175) (o := .cells #[.int .i64 t177, .int .i64 t178, .int .i64 t179, .int .i64 t180, .int .u32 a2_4] 53 (0, 0)) (by (with_reducible repeat (first | refine blk_drewN ?_ _ | refine blk_drew ?_ | refine blk_alloc ?_ _)); exact BK175.out) hb); have n1_ := Aside0.mk (blk_below (g := gb192) (o := .cells #[.int .i64 t185, .int .i64 t186, .int .i64 t187, .int .i64 t188, .int .u32 t189] 53 (0, 0)) (by (with_reducible repeat (first | refine blk_drewN ?_ _ | refine blk_drew ?_ | refine blk_alloc ?_ _)); exact BK192.out) hb); have n2_ := Aside0.mk (blk_below (g := gb200) (o := .cells #[.int .i64 t193, .int .i64 t194, .int .i64 t195, .int .i64 t196, .int .u32 t197] 53 (0, 0)) (by (with_reducible repeat (first | refine blk_drewN ?_ _ | refine blk_drew ?_ | refine blk_alloc ?_ _)); exact BK200.out) hb); have n3_ := Aside0.mk (below_step (by repeat (first | (with_reducible first | exact HB.out | apply below_alloc | apply pw_below_drewN | apply below_drew1 | refine below_set ?_ GE175.out | refine below_set ?_ GE192.out | refine below_set ?_ GE200.out) | exact HB.out)) hb); clear BK175; clear BK192; clear BK200; clear HB; have BK175 := n0_; have BK192 := n1_; have BK200 := n2_; have HB := n3_; clear n0_ n1_ n2_ n3_; (try clear hb); (try clear hb2); (try clear hk); (try clear hi)) | ((with_reducible refine gate_dst (N := 24) rfl ?_); (try (refine gate_guard (by rfl) ?_; dsimp only)); refine box_event ?hg (N := 24) ?hd (cs := #[.int .i64 0, .int .i64 0, .int .i64 0, .int .i64 0, .int .u32 0]) (t := 53) ?hr ?_; (case hd => rfl); (case hg => rfl); (case hr => first | (go_simp; done) | (go_simp; rfl)); intro gb212 hg w117 hbox hb; have NE8 : Aside0 (g9 ≠ gb212) := ⟨(by rw [hg]; exact Nat.ne_of_lt (row8_lt RR.out))⟩; have RR1 := Aside0.mk (row8_below RR.out hb); clear RR; have RR := RR1; clear RR1; have n0_ := Aside0.mk (blk_below (g := gb175) (o := .cells #[.int .i64 t177, .int .i64 t178, .int .i64 t179, .int .i64 t180, .int .u32 a2_4] 53 (0, 0)) (by (with_reducible repeat (first | refine blk_drewN ?_ _ | refine blk_drew ?_ | refine blk_alloc ?_ _)); exact BK175.out) hb); have n1_ := Aside0.mk (blk_below (g := gb192) (o := .cells #[.int .i64 t185, .int .i64 t186, .int .i64 t187, .int .i64 t188, .int .u32 t189] 53 (0, 0)) (by (with_reducible repeat (first | refine blk_drewN ?_ _ | refine blk_drew ?_ | refine blk_alloc ?_ _)); exact BK192.out) hb); have n2_ := Aside0.mk (blk_below (g := gb200) (o := .cells #[.int .i64 t193, .int .i64 t194, .int .i64 t195, .int .i64 t196, .int .u32 t197] 53 (0, 0)) (by (with_reducible repeat (first | refine blk_drewN ?_ _ | refine blk_drew ?_ | refine blk_alloc ?_ _)); exact BK200.out) hb); have n3_ := Aside0.mk (below_step (by repeat (first | (with_reducible first | exact HB.out | apply below_alloc | apply pw_below_drewN | apply below_drew1 | refine below_set ?_ GE175.out | refine below_set ?_ GE192.out | refine below_set ?_ GE200.out) | exact HB.out)) hb); have n4_ := Aside0.mk (hbox); have n5_ := Aside0.mk ((by rw [hg]; exact (below_size (by repeat (first | (with_reducible first | exact HB.out | apply below_alloc | apply pw_below_drewN | apply below_drew1 | refine below_set ?_ GE175.out | refine below_set ?_ GE192.out | refine below_set ?_ GE200.out) | exact HB.out))) : w.heap.size ≤ gb212)); have n6_ := Aside0.mk ((by rw [hg]; exact (below_size (by repeat (first | (with_reducible first | exact HB.out | apply below_alloc | apply pw_below_drewN | apply below_drew1 | refine below_set ?_ GE175.out | refine below_set ?_ GE192.out | refine below_set ?_ GE200.out) | exact HB.out))) : w.heap.size ≤ gb212)); have n7_ := Aside0.mk ((by rw [hg]; exact Nat.ne_of_lt (blk_lt (g := gb175) (o := .cells #[.int .i64 t177, .int .i64 t178, .int .i64 t179, .int .i64 t180, .int .u32 a2_4] 53 (0, 0)) (by (with_reducible repeat (first | refine blk_drewN ?_ _ | refine blk_drew ?_ | refine blk_alloc ?_ _)); exact BK175.out)) : gb175 ≠ gb212)); have n8_ := Aside0.mk ((by rw [hg]; exact Nat.ne_of_gt (blk_lt (g := gb175) (o := .cells #[.int .i64 t177, .int .i64 t178, .int .i64 t179, .int .i64 t180, .int .u32 a2_4] 53 (0, 0)) (by (with_reducible repeat (first | refine blk_drewN ?_ _ | refine blk_drew ?_ | refine blk_alloc ?_ _)); exact BK175.out)) : gb212 ≠ gb175)); have n9_ := Aside0.mk ((by rw [hg]; exact Nat.ne_of_lt (blk_lt (g := gb192) (o := .cells #[.int .i64 t185, .int .i64 t186, .int .i64 t187, .int .i64 t188, .int .u32 t189] 53 (0, 0)) (by (with_reducible repeat (first | refine blk_drewN ?_ _ | refine blk_drew ?_ | refine blk_alloc ?_ _)); exact BK192.out)) : gb192 ≠ gb212)); have n10_ := Aside0.mk ((by rw [hg]; exact Nat.ne_of_gt (blk_lt (g := gb192) (o := .cells #[.int .i64 t185, .int .i64 t186, .int .i64 t187, .int .i64 t188, .int .u32 t189] 53 (0, 0)) (by (with_reducible repeat (first | refine blk_drewN ?_ _ | refine blk_drew ?_ | refine blk_alloc ?_ _)); exact BK192.out)) : gb212 ≠ gb192)); have n11_ := Aside0.mk ((by rw [hg]; exact Nat.ne_of_lt (blk_lt (g := gb200) (o := .cells #[.int .i64 t193, .int .i64 t194, .int .i64 t195, .int .i64 t196, .int .u32 t197] 53 (0, 0)) (by (with_reducible repeat (first | refine blk_drewN ?_ _ | refine blk_drew ?_ | refine blk_alloc ?_ _)); exact BK200.out)) : gb200 ≠ gb212)); have n12_ := Aside0.mk ((by rw [hg]; exact Nat.ne_of_gt (blk_lt (g := gb200) (o := .cells #[.int .i64 t193, .int .i64 t194, .int .i64 t195, .int .i64 t196, .int .u32 t197] 53 (0, 0)) (by (with_reducible repeat (first | refine blk_drewN ?_ _ | refine blk_drew ?_ | refine blk_alloc ?_ _)); exact BK200.out)) : gb212 ≠ gb200)); clear BK175; clear BK192; clear BK200; clear HB; have BK175 := n0_; have BK192 := n1_; have BK200 := n2_; have HB := n3_; have BK212 := n4_; have GW212 := n5_; have GE212 := n6_; have NB175_212 := n7_; have NB212_175 := n8_; have NB192_212 := n9_; have NB212_192 := n10_; have NB200_212 := n11_; have NB212_200 := n12_; clear n0_ n1_ n2_ n3_ n4_ n5_ n6_ n7_ n8_ n9_ n10_ n11_ n12_; clear hb hbox hg; have hnb118 := NB212_175.out; have hnc118 := NB175_212.out; have hnb119 := NB212_192.out; have hnc119 := NB192_212.out; have hnb120 := NB212_200.out; have hnc120 := NB200_212.out; have hcz121_0 : w117.cell? ⟨gb212, 0, none⟩ = some (.int .i64 0) := (blk_cell BK212.out 0).trans rfl; have hcz121_1 : w117.cell? ⟨gb212, 1, none⟩ = some (.int .i64 0) := (blk_cell BK212.out 1).trans rfl; have hcz121_2 : w117.cell? ⟨gb212, 2, none⟩ = some (.int .i64 0) := (blk_cell BK212.out 2).trans rfl; have hcz121_3 : w117.cell? ⟨gb212, 3, none⟩ = some (.int .i64 0) := (blk_cell BK212.out 3).trans rfl; have hcz121_4 : w117.cell? ⟨gb212, 4, none⟩ = some (.int .u32 0) := (blk_cell BK212.out 4).trans rfl; have hfz121_0 := blk_frozen BK212.out 0; have hfz121_1 := blk_frozen BK212.out 1; have hfz121_2 := blk_frozen BK212.out 2; have hfz121_3 := blk_frozen BK212.out 3; have hfz121_4 := blk_frozen BK212.out 4) | ((with_reducible refine gate_callee (f := 39) rfl ?_); refine goesL_ (some 209) rfl rfl Try.func39 (by kernel_rfl) rfl #[.string t204] rfl (by (try simp only [List.map_toArray, List.map_cons, List.map_nil]); first | done | rfl | (simp only [List.length_drop, List.length_take]; rfl)) ?_; (with_reducible refine (dgram_GetICMP.calls kj17 t204 t213 t214 t215 t216 t217 t218 t219 _ A110.out).mono ?_); rintro e w122 ⟨rfl, hb⟩; refine ⟨_, rfl, ?_⟩; have n0_ := Aside0.mk (blk_below (g := gb175) (o := .cells #[.int .i64 t177, .int .i64 t178, .int .i64 t179, .int .i64 t180, .int .u32 a2_4] 53 (0, 0)) (by (with_reducible repeat (first | refine blk_drewN ?_ _ | refine blk_drew ?_ | refine blk_alloc ?_ _)); refine blk_far ?_ NB175_212.out _; (with_reducible repeat (first | refine blk_drewN ?_ _ | refine blk_drew ?_ | refine blk_alloc ?_ _)); refine blk_far ?_ NB175_212.out _; (with_reducible repeat (first | refine blk_drewN ?_ _ | refine blk_drew ?_ | refine blk_alloc ?_ _)); refine blk_far ?_ NB175_212.out _; (with_reducible repeat (first | refine blk_drewN ?_ _ | refine blk_drew ?_ | refine blk_alloc ?_ _)); refine blk_far ?_ NB175_212.out _; (with_reducible repeat (first | refine blk_drewN ?_ _ | refine blk_drew ?_ | refine blk_alloc ?_ _)); refine blk_far ?_ NB175_212.out _; (with_reducible repeat (first | refine blk_drewN ?_ _ | refine blk_drew ?_ | refine blk_alloc ?_ _)); exact BK175.out) hb); have n1_ := Aside0.mk (blk_below (g := gb192) (o := .cells #[.int .i64 t185, .int .i64 t186, .int .i64 t187, .int .i64 t188, .int .u32 t189] 53 (0, 0)) (by (with_reducible repeat (first | refine blk_drewN ?_ _ | refine blk_drew ?_ | refine blk_alloc ?_ _)); refine blk_far ?_ NB192_212.out _; (with_reducible repeat (first | refine blk_drewN ?_ _ | refine blk_drew ?_ | refine blk_alloc ?_ _)); refine blk_far ?_ NB192_212.out _; (with_reducible repeat (first | refine blk_drewN ?_ _ | refine blk_drew ?_ | refine blk_alloc ?_ _)); refine blk_far ?_ NB192_212.out _; (with_reducible repeat (first | refine blk_drewN ?_ _ | refine blk_drew ?_ | refine blk_alloc ?_ _)); refine blk_far ?_ NB192_212.out _; (with_reducible repeat (first | refine blk_drewN ?_ _ | refine blk_drew ?_ | refine blk_alloc ?_ _)); refine blk_far ?_ NB192_212.out _; (with_reducible repeat (first | refine blk_drewN ?_ _ | refine blk_drew ?_ | refine blk_alloc ?_ _)); exact BK192.out) hb); have n2_ := Aside0.mk (blk_below (g := gb200) (o := .cells #[.int .i64 t193, .int .i64 t194, .int .i64 t195, .int .i64 t196, .int .u32 t197] 53 (0, 0)) (by (with_reducible repeat (first | refine blk_drewN ?_ _ | refine blk_drew ?_ | refine blk_alloc ?_ _)); refine blk_far ?_ NB200_212.out _; (with_reducible repeat (first | refine blk_drewN ?_ _ | refine blk_drew ?_ | refine blk_alloc ?_ _)); refine blk_far ?_ NB200_212.out _; (with_reducible repeat (first | refine blk_drewN ?_ _ | refine blk_drew ?_ | refine blk_alloc ?_ _)); refine blk_far ?_ NB200_212.out _; (with_reducible repeat (first | refine blk_drewN ?_ _ | refine blk_drew ?_ | refine blk_alloc ?_ _)); refine blk_far ?_ NB200_212.out _; (with_reducible repeat (first | refine blk_drewN ?_ _ | refine blk_drew ?_ | refine blk_alloc ?_ _)); refine blk_far ?_ NB200_212.out _; (with_reducible repeat (first | refine blk_drewN ?_ _ | refine blk_drew ?_ | refine blk_alloc ?_ _)); exact BK200.out) hb); have n3_ := Aside0.mk (blk_below (g := gb212) (o := .cells #[.int .i64 t205, .int .i64 t206, .int .i64 t207, .int .i64 t208, .int .u32 t209] 53 (0, 0)) (by (with_reducible repeat (first | refine blk_drewN ?_ _ | refine blk_drew ?_ | refine blk_alloc ?_ _)); refine blk_put (cs := #[.int .i64 t205, .int .i64 t206, .int .i64 t207, .int .i64 t208, .int .u32 0]) ?_ 4 _ rfl; (with_reducible repeat (first | refine blk_drewN ?_ _ | refine blk_drew ?_ | refine blk_alloc ?_ _)); refine blk_put (cs := #[.int .i64 t205, .int .i64 t206, .int .i64 t207, .int .i64 0, .int .u32 0]) ?_ 3 _ rfl; (with_reducible repeat (first | refine blk_drewN ?_ _ | refine blk_drew ?_ | refine blk_alloc ?_ _)); refine blk_put (cs := #[.int .i64 t205, .int .i64 t206, .int .i64 0, .int .i64 0, .int .u32 0]) ?_ 2 _ rfl; (with_reducible repeat (first | refine blk_drewN ?_ _ | refine blk_drew ?_ | refine blk_alloc ?_ _)); refine blk_put (cs := #[.int .i64 t205, .int .i64 0, .int .i64 0, .int .i64 0, .int .u32 0]) ?_ 1 _ rfl; (with_reducible repeat (first | refine blk_drewN ?_ _ | refine blk_drew ?_ | refine blk_alloc ?_ _)); refine blk_put (cs := #[.int .i64 0, .int .i64 0, .int .i64 0, .int .i64 0, .int .u32 0]) ?_ 0 _ rfl; (with_reducible repeat (first | refine blk_drewN ?_ _ | refine blk_drew ?_ | refine blk_alloc ?_ _)); exact BK212.out) hb); have n4_ := Aside0.mk (below_step (by repeat (first | (with_reducible first | exact HB.out | apply below_alloc | apply pw_below_drewN | apply below_drew1 | refine below_set ?_ GE175.out | refine below_set ?_ GE192.out | refine below_set ?_ GE200.out | refine below_set ?_ GE212.out) | exact HB.out)) hb); clear BK175; clear BK192; clear BK200; clear BK212; clear HB; have BK175 := n0_; have BK192 := n1_; have BK200 := n2_; have BK212 := n3_; have HB := n4_; clear n0_ n1_ n2_ n3_ n4_; (try clear hb); (try clear hb2); (try clear hk); (try clear hi)) | ((with_reducible refine gate_dst (N := 27) rfl ?_); (try (refine gate_guard (by rfl) ?_; dsimp only)); refine box_event ?hg (N := 27) ?hd (cs := #[.int .i64 0, .int .i64 0, .int .i64 0, .int .i64 0, .int .u32 0]) (t := 53) ?hr ?_; (case hd => rfl); (case hg => rfl); (case hr => first | (go_simp; done) | (go_simp; rfl)); intro gb220 hg w123 hbox hb; have n0_ := Aside0.mk (blk_below (g := gb175) (o := .cells #[.int .i64 t177, .int .i64 t178, .int .i64 t179, .int .i64 t180, .int .u32 a2_4] 53 (0, 0)) (by (with_reducible repeat (first | refine blk_drewN ?_ _ | refine blk_drew ?_ | refine blk_alloc ?_ _)); exact BK175.out) hb); have n1_ := Aside0.mk (blk_below (g := gb192) (o := .cells #[.int .i64 t185, .int .i64 t186, .int .i64 t187, .int .i64 t188, .int .u32 t189] 53 (0, 0)) (by (with_reducible repeat (first | refine blk_drewN ?_ _ | refine blk_drew ?_ | refine blk_alloc ?_ _)); exact BK192.out) hb); have n2_ := Aside0.mk (blk_below (g := gb200) (o := .cells #[.int .i64 t193, .int .i64 t194, .int .i64 t195, .int .i64 t196, .int .u32 t197] 53 (0, 0)) (by (with_reducible repeat (first | refine blk_drewN ?_ _ | refine blk_drew ?_ | refine blk_alloc ?_ _)); exact BK200.out) hb); have n3_ := Aside0.mk (blk_below (g := gb212) (o := .cells #[.int .i64 t205, .int .i64 t206, .int .i64 t207, .int .i64 t208, .int .u32 t209] 53 (0, 0)) (by (with_reducible repeat (first | refine blk_drewN ?_ _ | refine blk_drew ?_ | refine blk_alloc ?_ _)); exact BK212.out) hb); have n4_ := Aside0.mk (below_step (by repeat (first | (with_reducible first | exact HB.out | apply below_alloc | apply pw_below_drewN | apply below_drew1 | refine below_set ?_ GE175.out | refine below_set ?_ GE192.out | refine below_set ?_ GE200.out | refine below_set ?_ GE212.out) | exact HB.out)) hb); have n5_ := Aside0.mk (hbox); have n6_ := Aside0.mk ((by rw [hg]; exact (below_size (by repeat (first | (with_reducible first | exact HB.out | apply below_alloc | apply pw_below_drewN | apply below_drew1 | refine below_set ?_ GE175.out | refine below_set ?_ GE192.out | refine below_set ?_ GE200.out | refine below_set ?_ GE212.out) | exact HB.out))) : w.heap.size ≤ gb220)); have n7_ := Aside0.mk ((by rw [hg]; exact (below_size (by repeat (first | (with_reducible first | exact HB.out | apply below_alloc | apply pw_below_drewN | apply below_drew1 | refine below_set ?_ GE175.out | refine below_set ?_ GE192.out | refine below_set ?_ GE200.out | refine below_set ?_ GE212.out) | exact HB.out))) : w.heap.size ≤ gb220)); have n8_ := Aside0.mk ((by rw [hg]; exact Nat.ne_of_lt (blk_lt (g := gb175) (o := .cells #[.int .i64 t177, .int .i64 t178, .int .i64 t179, .int .i64 t180, .int .u32 a2_4] 53 (0, 0)) (by (with_reducible repeat (first | refine blk_drewN ?_ _ | refine blk_drew ?_ | refine blk_alloc ?_ _)); exact BK175.out)) : gb175 ≠ gb220)); have n9_ := Aside0.mk ((by rw [hg]; exact Nat.ne_of_gt (blk_lt (g := gb175) (o := .cells #[.int .i64 t177, .int .i64 t178, .int .i64 t179, .int .i64 t180, .int .u32 a2_4] 53 (0, 0)) (by (with_reducible repeat (first | refine blk_drewN ?_ _ | refine blk_drew ?_ | refine blk_alloc ?_ _)); exact BK175.out)) : gb220 ≠ gb175)); have n10_ := Aside0.mk ((by rw [hg]; exact Nat.ne_of_lt (blk_lt (g := gb192) (o := .cells #[.int .i64 t185, .int .i64 t186, .int .i64 t187, .int .i64 t188, .int .u32 t189] 53 (0, 0)) (by (with_reducible repeat (first | refine blk_drewN ?_ _ | refine blk_drew ?_ | refine blk_alloc ?_ _)); exact BK192.out)) : gb192 ≠ gb220)); have n11_ := Aside0.mk ((by rw [hg]; exact Nat.ne_of_gt (blk_lt (g := gb192) (o := .cells #[.int .i64 t185, .int .i64 t186, .int .i64 t187, .int .i64 t188, .int .u32 t189] 53 (0, 0)) (by (with_reducible repeat (first | refine blk_drewN ?_ _ | refine blk_drew ?_ | refine blk_alloc ?_ _)); exact BK192.out)) : gb220 ≠ gb192)); have n12_ := Aside0.mk ((by rw [hg]; exact Nat.ne_of_lt (blk_lt (g := gb200) (o := .cells #[.int .i64 t193, .int .i64 t194, .int .i64 t195, .int .i64 t196, .int .u32 t197] 53 (0, 0)) (by (with_reducible repeat (first | refine blk_drewN ?_ _ | refine blk_drew ?_ | refine blk_alloc ?_ _)); exact BK200.out)) : gb200 ≠ gb220)); have n13_ := Aside0.mk ((by rw [hg]; exact Nat.ne_of_gt (blk_lt (g := gb200) (o := .cells #[.int .i64 t193, .int .i64 t194, .int .i64 t195, .int .i64 t196, .int .u32 t197] 53 (0, 0)) (by (with_reducible repeat (first | refine blk_drewN ?_ _ | refine blk_drew ?_ | refine blk_alloc ?_ _)); exact BK200.out)) : gb220 ≠ gb200)); have n14_ := Aside0.mk ((by rw [hg]; exact Nat.ne_of_lt (blk_lt (g := gb212) (o := .cells #[.int .i64 t205, .int .i64 t206, .int .i64 t207, .int .i64 t208, .int .u32 t209] 53 (0, 0)) (by (with_reducible repeat (first | refine blk_drewN ?_ _ | refine blk_drew ?_ | refine blk_alloc ?_ _)); exact BK212.out)) : gb212 ≠ gb220)); have n15_ := Aside0.mk ((by rw [hg]; exact Nat.ne_of_gt (blk_lt (g := gb212) (o := .cells #[.int .i64 t205, .int .i64 t206, .int .i64 t207, .int .i64 t208, .int .u32 t209] 53 (0, 0)) (by (with_reducible repeat (first | refine blk_drewN ?_ _ | refine blk_drew ?_ | refine blk_alloc ?_ _)); exact BK212.out)) : gb220 ≠ gb212)); clear BK175; clear BK192; clear BK200; clear BK212; clear HB; have BK175 := n0_; have BK192 := n1_; have BK200 := n2_; have BK212 := n3_; have HB := n4_; have BK220 := n5_; have GW220 := n6_; have GE220 := n7_; have NB175_220 := n8_; have NB220_175 := n9_; have NB192_220 := n10_; have NB220_192 := n11_; have NB200_220 := n12_; have NB220_200 := n13_; have NB212_220 := n14_; have NB220_212 := n15_; clear n0_ n1_ n2_ n3_ n4_ n5_ n6_ n7_ n8_ n9_ n10_ n11_ n12_ n13_ n14_ n15_; clear hb hbox hg; have hnb124 := NB220_175.out; have hnc124 := NB175_220.out; have hnb125 := NB220_192.out; have hnc125 := NB192_220.out; have hnb126 := NB220_200.out; have hnc126 := NB200_220.out; have hnb127 := NB220_212.out; have hnc127 := NB212_220.out; have hcz128_0 : w123.cell? ⟨gb220, 0, none⟩ = some (.int .i64 0) := (blk_cell BK220.out 0).trans rfl; have hcz128_1 : w123.cell? ⟨gb220, 1, none⟩ = some (.int .i64 0) := (blk_cell BK220.out 1).trans rfl; have hcz128_2 : w123.cell? ⟨gb220, 2, none⟩ = some (.int .i64 0) := (blk_cell BK220.out 2).trans rfl; have hcz128_3 : w123.cell? ⟨gb220, 3, none⟩ = some (.int .i64 0) := (blk_cell BK220.out 3).trans rfl; have hcz128_4 : w123.cell? ⟨gb220, 4, none⟩ = some (.int .u32 0) := (blk_cell BK220.out 4).trans rfl; have hfz128_0 := blk_frozen BK220.out 0; have hfz128_1 := blk_frozen BK220.out 1; have hfz128_2 := blk_frozen BK220.out 2; have hfz128_3 := blk_frozen BK220.out 3; have hfz128_4 := blk_frozen BK220.out 4) | (go_at_call 32; (with_reducible refine (rampartlaw05_awake.calls kj17  t221 _ A113.out (by first | rfl | exact HR.out)).mono ?_); rintro e w129 ⟨rfl, hb⟩; have n0_ := Aside0.mk (blk_below (g := gb175) (o := .cells #[.int .i64 t177, .int .i64 t178, .int .i64 t179, .int .i64 t180, .int .u32 a2_4] 53 (0, 0)) (by (with_reducible repeat (first | refine blk_drewN ?_ _ | refine blk_drew ?_ | refine blk_alloc ?_ _)); refine blk_far ?_ NB175_220.out _; (with_reducible repeat (first | refine blk_drewN ?_ _ | refine blk_drew ?_ | refine blk_alloc ?_ _)); refine blk_far ?_ NB175_220.out _; (with_reducible repeat (first | refine blk_drewN ?_ _ | refine blk_drew ?_ | refine blk_alloc ?_ _)); refine blk_far ?_ NB175_220.out _; (with_reducible repeat (first | refine blk_drewN ?_ _ | refine blk_drew ?_ | refine blk_alloc ?_ _)); refine blk_far ?_ NB175_220.out _; (with_reducible repeat (first | refine blk_drewN ?_ _ | refine blk_drew ?_ | refine blk_alloc ?_ _)); refine blk_far ?_ NB175_220.out _; (with_reducible repeat (first | refine blk_drewN ?_ _ | refine blk_drew ?_ | refine blk_alloc ?_ _)); exact BK175.out) hb); have n1_ := Aside0.mk (blk_below (g := gb192) (o := .cells #[.int .i64 t185, .int .i64 t186, .int .i64 t187, .int .i64 t188, .int .u32 t189] 53 (0, 0)) (by (with_reducible repeat (first | refine blk_drewN ?_ _ | refine blk_drew ?_ | refine blk_alloc ?_ _)); refine blk_far ?_ NB192_220.out _; (with_reducible repeat (first | refine blk_drewN ?_ _ | refine blk_drew ?_ | refine blk_alloc ?_ _)); refine blk_far ?_ NB192_220.out _; (with_reducible repeat (first | refine blk_drewN ?_ _ | refine blk_drew ?_ | refine blk_alloc ?_ _)); refine blk_far ?_ NB192_220.out _; (with_reducible repeat (first | refine blk_drewN ?_ _ | refine blk_drew ?_ | refine blk_alloc ?_ _)); refine blk_far ?_ NB192_220.out _; (with_reducible repeat (first | refine blk_drewN ?_ _ | refine blk_drew ?_ | refine blk_alloc ?_ _)); refine blk_far ?_ NB192_220.out _; (with_reducible repeat (first | refine blk_drewN ?_ _ | refine blk_drew ?_ | refine blk_alloc ?_ _)); exact BK192.out) hb); have n2_ := Aside0.mk (blk_below (g := gb200) (o := .cells #[.int .i64 t193, .int .i64 t194, .int .i64 t195, .int .i64 t196, .int .u32 t197] 53 (0, 0)) (by (with_reducible repeat (first | refine blk_drewN ?_ _ | refine blk_drew ?_ | refine blk_alloc ?_ _)); refine blk_far ?_ NB200_220.out _; (with_reducible repeat (first | refine blk_drewN ?_ _ | refine blk_drew ?_ | refine blk_alloc ?_ _)); refine blk_far ?_ NB200_220.out _; (with_reducible repeat (first | refine blk_drewN ?_ _ | refine blk_drew ?_ | refine blk_alloc ?_ _)); refine blk_far ?_ NB200_220.out _; (with_reducible repeat (first | refine blk_drewN ?_ _ | refine blk_drew ?_ | refine blk_alloc ?_ _)); refine blk_far ?_ NB200_220.out _; (with_reducible repeat (first | refine blk_drewN ?_ _ | refine blk_drew ?_ | refine blk_alloc ?_ _)); refine blk_far ?_ NB200_220.out _; (with_reducible repeat (first | refine blk_drewN ?_ _ | refine blk_drew ?_ | refine blk_alloc ?_ _)); exact BK200.out) hb); have n3_ := Aside0.mk (blk_below (g := gb212) (o := .cells #[.int .i64 t205, .int .i64 t206, .int .i64 t207, .int .i64 t208, .int .u32 t209] 53 (0, 0)) (by (with_reducible repeat (first | refine blk_drewN ?_ _ | refine blk_drew ?_ | refine blk_alloc ?_ _)); refine blk_far ?_ NB212_220.out _; (with_reducible repeat (first | refine blk_drewN ?_ _ | refine blk_drew ?_ | refine blk_alloc ?_ _)); refine blk_far ?_ NB212_220.out _; (with_reducible repeat (first | refine blk_drewN ?_ _ | refine blk_drew ?_ | refine blk_alloc ?_ _)); refine blk_far ?_ NB212_220.out _; (with_reducible repeat (first | refine blk_drewN ?_ _ | refine blk_drew ?_ | refine blk_alloc ?_ _)); refine blk_far ?_ NB212_220.out _; (with_reducible repeat (first | refine blk_drewN ?_ _ | refine blk_drew ?_ | refine blk_alloc ?_ _)); refine blk_far ?_ NB212_220.out _; (with_reducible repeat (first | refine blk_drewN ?_ _ | refine blk_drew ?_ | refine blk_alloc ?_ _)); exact BK212.out) hb); have n4_ := Aside0.mk (blk_below (g := gb220) (o := .cells #[.int .i64 t213, .int .i64 t214, .int .i64 t215, .int .i64 t216, .int .u32 t217] 53 (0, 0)) (by (with_reducible repeat (first | refine blk_drewN ?_ _ | refine blk_drew ?_ | refine blk_alloc ?_ _)); refine blk_put (cs := #[.int .i64 t213, .int .i64 t214, .int .i64 t215, .int .i64 t216, .int .u32 0]) ?_ 4 _ rfl; (with_reducible repeat (first | refine blk_drewN ?_ _ | refine blk_drew ?_ | refine blk_alloc ?_ _)); refine blk_put (cs := #[.int .i64 t213, .int .i64 t214, .int .i64 t215, .int .i64 0, .int .u32 0]) ?_ 3 _ rfl; (with_reducible repeat (first | refine blk_drewN ?_ _ | refine blk_drew ?_ | refine blk_alloc ?_ _)); refine blk_put (cs := #[.int .i64 t213, .int .i64 t214, .int .i64 0, .int .i64 0, .int .u32 0]) ?_ 2 _ rfl; (with_reducible repeat (first | refine blk_drewN ?_ _ | refine blk_drew ?_ | refine blk_alloc ?_ _)); refine blk_put (cs := #[.int .i64 t213, .int .i64 0, .int .i64 0, .int .i64 0, .int .u32 0]) ?_ 1 _ rfl; (with_reducible repeat (first | refine blk_drewN ?_ _ | refine blk_drew ?_ | refine blk_alloc ?_ _)); refine blk_put (cs := #[.int .i64 0, .int .i64 0, .int .i64 0, .int .i64 0, .int .u32 0]) ?_ 0 _ rfl; (with_reducible repeat (first | refine blk_drewN ?_ _ | refine blk_drew ?_ | refine blk_alloc ?_ _)); exact BK220.out) hb); have n5_ := Aside0.mk (below_step (by repeat (first | (with_reducible first | exact HB.out | apply below_alloc | apply pw_below_drewN | apply below_drew1 | refine below_set ?_ GE175.out | refine below_set ?_ GE192.out | refine below_set ?_ GE200.out | refine below_set ?_ GE212.out | refine below_set ?_ GE220.out) | exact HB.out)) hb); clear BK175; clear BK192; clear BK200; clear BK212; clear BK220; clear HB; have BK175 := n0_; have BK192 := n1_; have BK200 := n2_; have BK212 := n3_; have BK220 := n4_; have HB := n5_; clear n0_ n1_ n2_ n3_ n4_ n5_; (try clear hb); (try clear hb2); (try clear hk); (try clear hi)))
            go_ret
            exact ⟨by first | rfl | (simp [errW_none, errW_some] <;> rfl) | (simp only [← hji96, ← hji100, ← hji102]; first | rfl | (simp [errW_none, errW_some] <;> rfl)) | (simp [*, errW_none, errW_some] <;> rfl), by repeat (first | (with_reducible first | exact HB.out | apply below_alloc | apply pw_below_drewN | apply below_drew1 | refine below_set ?_ GE175.out | refine below_set ?_ GE192.out | refine below_set ?_ GE200.out | refine below_set ?_ GE212.out | refine below_set ?_ GE220.out) | exact HB.out)⟩
           ·
            rw [if_neg c112] at H
            have c112b0 : (t219 == 4) = false := beq_eq_false_iff_ne.mpr c112
            have c112b1 : (t219 != 4) = true := bne_iff_ne.mpr c112
            exact absurd ((Option.some.inj H).trans HR.out) (by decide)
          ·
           rw [if_neg c111] at H
           have c111b0 : (t211 == 4) = false := beq_eq_false_iff_ne.mpr c111
           have c111b1 : (t211 != 4) = true := bne_iff_ne.mpr c111
           exact absurd ((Option.some.inj H).trans HR.out) (by decide)
         ·
          rw [if_neg c104] at H
          exact absurd H (by simp)
        ·
         rw [if_neg c101] at H
         exact absurd H (by simp)
       ·
        rw [if_neg c98] at H
        exact absurd H (by simp)
      ·
       rw [if_neg c97] at H
       exact absurd H (by simp)


end Go.Proofs.Ytgolimfljndnmaa.HF
