/- What is proved: each Go function of this text answers as the plain Lean function beside it (a law: its given row, out of the plain statement). Conditions: those that stand in each theorem. Written by my drive.py, which calls the printer of the kit for what that covers. -/
import Derived.Test.YtgolimfljndnmaaHVx0
import Derived.Test.YtgolimfljndnmaaHVx1
import Derived.Test.YtgolimfljndnmaaHVx3
import Derived.Test.YtgolimfljndnmaaHVx6
import Derived.Test.YtgolimfljndnmaaHVx7
namespace Go.Proofs.Ytgolimfljndnmaa.HV
open Go.RowKit Go.Proofs.YtgolimfljndnmaaW.PrintWords Go.Proofs.YtgolimfljndnmaaW.PrintLast Go.Proofs.YtgolimfljndnmaaW.PrintMore
attribute [local go_sem] max2_int min2_int max_two min_two max_three min_three max_four min_four   -- for this text's walks alone
set_option linter.unusedVariables false
set_option linter.unusedSimpArgs false

/-! ### rampartlaw03_Ipv4Wrong: function 6 -/
theorem bset_size (s : ByteArray) (i : Nat) (v : Int) : (bset s i v).size = s.size := by
 show (s.data.toList.set i _).toArray.size = _
 simp
def cells8 (s : ByteArray) (pad : Nat) : Array Value := (s.data.map fun b => Value.int .u8 b.toNat) ++ Array.replicate pad (.int .u8 0)
/-- Block g holds the bytes s, then zeros; its mark lies behind its last cell. -/
def Row8 (w : World) (g : Nat) (s : ByteArray) : Prop := ∃ pad : Nat, w.heap[g]? = some (.cells (cells8 s pad) 5 ((cells8 s pad).size, (cells8 s pad).size + 1))
theorem cells8_size (s : ByteArray) (pad : Nat) : (cells8 s pad).size = s.size + pad := by simp [cells8]
theorem row8_new (w : World) (s : ByteArray) : Row8 (Lib.bytesWorld w 5 s) w.heap.size s := ⟨_, Lib.bytesWorld_at_new w 5 s⟩
theorem row8_move {w w' : World} {g : Nat} {s : ByteArray} (h : Row8 w g s) (hm : w'.heap[g]? = w.heap[g]?) : Row8 w' g s := by
 obtain ⟨p, hp⟩ := h
 exact ⟨p, hm.trans hp⟩
theorem row8_lt {w : World} {g : Nat} {s : ByteArray} (h : Row8 w g s) : g < w.heap.size := by
 obtain ⟨p, hp⟩ := h
 exact (Array.getElem?_eq_some_iff.1 hp).1
theorem row8_below {w w' : World} {g : Nat} {s : ByteArray} (h : Row8 w g s) (hb : Below w.heap.size w w') : Row8 w' g s := row8_move h (hb.block g (row8_lt h))
theorem row8_drewN {w : World} {g : Nat} {s : ByteArray} (h : Row8 w g s) (n : Nat) : Row8 (w.drewN n) g s := row8_below h (pw_below_drewN (Below.refl _ _) n)
theorem row8_cell {w : World} {g : Nat} {s : ByteArray} (h : Row8 w g s) {i : Int} (h0 : 0 ≤ i) (h1 : i < (s.size : Int)) : w.cell? ⟨g, i.toNat, none⟩ = some (.int .u8 (bt s i)) := by
 obtain ⟨p, hp⟩ := h
 have hi : i.toNat < s.size := by omega
 have hb := bt_at s i
 have e : w.cell? ⟨g, i.toNat, none⟩ = (cells8 s p)[i.toNat]? := by simp [World.cell?, hp]
 rw [e, cells8, Array.getElem?_append_left (by simpa using hi)]
 rw [Array.getElem?_map, Array.getElem?_eq_getElem (show i.toNat < s.data.size from hi)]
 show some (Value.int .u8 ((s.data[i.toNat]).toNat : Int)) = _
 rw [← hb hi]
 rfl
theorem row8_frozen {w : World} {g : Nat} {s : ByteArray} (h : Row8 w g s) {i : Int} (h0 : 0 ≤ i) (h1 : i < (s.size : Int)) : w.frozen? ⟨g, i.toNat, none⟩ = false := by
 obtain ⟨p, hp⟩ := h
 have hz := cells8_size s p
 simp only [World.frozen?, hp]
 rw [hz]
 simp
 omega
theorem row8_set {w : World} {g : Nat} {s : ByteArray} (h : Row8 w g s) {i : Int} (h0 : 0 ≤ i) (h1 : i < (s.size : Int)) {v : Int} (hv0 : 0 ≤ v) (hv1 : v < 256) : Row8 (w.setCell ⟨g, i.toNat, none⟩ (.int .u8 v)) g (bset s i.toNat v) := by
 obtain ⟨p, hp⟩ := h
 have hi : i.toNat < s.size := by omega
 have hz := cells8_size s p
 have hz2 : (cells8 (bset s i.toNat v) p).size = (cells8 s p).size := by rw [cells8_size, cells8_size, bset_size]
 have hc : (cells8 s p).setIfInBounds i.toNat (.int .u8 v) = cells8 (bset s i.toNat v) p := by
  have hvn : ((UInt8.ofNat v.toNat).toNat : Int) = v := by
   rw [UInt8.toNat_ofNat', Nat.mod_eq_of_lt (by omega)]
   omega
  apply Array.ext_getElem?
  intro j
  rw [Array.getElem?_setIfInBounds]
  have hs : s.data.size = s.size := rfl
  have hb : (bset s i.toNat v).data = s.data.set i.toNat (UInt8.ofNat v.toNat) hi := by
   apply Array.ext'
   simp [bset]
  by_cases hj : i.toNat = j
  ·
   subst hj
   rw [if_pos rfl, if_pos (by rw [hz]; omega), cells8, hb, Array.getElem?_append_left (by simpa using hi)]
   simp
   omega
  ·
   rw [if_neg hj]
   unfold cells8
   rw [hb]
   by_cases hjs : j < s.size
   ·
    rw [Array.getElem?_append_left (by simpa using hjs), Array.getElem?_append_left (by simpa using hjs)]
    simp [hj]
   ·
    rw [Array.getElem?_append_right (by simpa using Nat.le_of_not_lt hjs), Array.getElem?_append_right (by simpa using Nat.le_of_not_lt hjs)]
    simp
 refine ⟨p, ?_⟩
 rw [hz2, ← hc]
 simp [World.setCell, Array.getElem?_modify, hp]
theorem row8_back {P : Program} {w : World} {g : Nat} {s : ByteArray} (h : Row8 w g s) (n cap : Nat) (hn : n = s.size) (hs : P.underlying 34 = some (.slice 5)) (he : P.underlying 5 = some (.int .u8)) (hd : P.underlying 9 = some .string) :
  (convert 34 9 (.slice (some ⟨g, 0, none⟩) n cap)).run P w = .ok (.string s) w := by
 subst hn
 have := run_convert_bytes_back (P := P) w 34 9 5 ⟨g, 0, none⟩ cap s.data.toList hs he hd (fun j hj => by
  have hj' : j < s.size := by simpa using hj
  have hc := row8_cell h (i := (j : Int)) (by omega) (by omega)
  have hb := bt_at s (j : Int)
  rw [Int.toNat_natCast] at hc hb
  have e : (⟨g, 0, none⟩ : Addr).add j = ⟨g, j, none⟩ := by simp [Addr.add]; omega
  rw [e, hc, ← hb hj']
  rfl)
 have hl : s.data.toList.length = s.size := by simp
 rw [hl] at this
 rw [this]
theorem conv_event {P : Program} {ops : Array Oper} {Q : Exit → Act → World → Prop} {rest : List Oper} {o : Oper} {a : Act} {W : World} (hgd : o.guard = none) {N : Tmp} (_hd : o.dst = some N) {s : ByteArray}
  (hrun : (execOp a.eval o).run P W = .ok (.value (.slice (some ⟨W.heap.size, 0, none⟩) s.size (grownCap W s.size 0 5))) (Lib.bytesWorld W 5 s))
  (h : ∀ g, g = W.heap.size → ∀ c w1, Row8 w1 g s → Below W.heap.size W w1 → wpList P ops Q rest (a.put o.dst (.slice (some ⟨g, 0, none⟩) s.size c)) w1) : wpList P ops Q (o :: rest) a W :=
 Kd.event_run hgd hrun (h _ rfl _ _ (row8_new W s) (by
  refine ⟨rfl, rfl, rfl, ?_, fun i hi => Lib.bytesWorld_at_old W 5 s i hi⟩
  rw [Lib.bytesWorld_size]; omega))
theorem back_event {P : Program} {ops : Array Oper} {Q : Exit → Act → World → Prop} {rest : List Oper} {o : Oper} {a : Act} {W : World} (hgd : o.guard = none) {N : Tmp} (_hd : o.dst = some N) {s : ByteArray}
  (hrun : (execOp a.eval o).run P W = .ok (.value (.string s)) W) (h : ∀ w1, w1 = W → wpList P ops Q rest (a.put o.dst (.string s)) w1) : wpList P ops Q (o :: rest) a W :=
 Kd.event_run hgd hrun (h W rfl)
theorem set_eq {s t : ByteArray} {i v : Int} (h : gosem_cut_init.f s i v = some t) : t = bset s i.toNat v := by
 unfold gosem_cut_init.f at h
 split at h
 ·
  exact (Option.some.inj h).symm
 ·
  cases h
theorem set_bounds {s t : ByteArray} {i v : Int} (h : gosem_cut_init.f s i v = some t) : 0 ≤ i ∧ i < (s.size : Int) := by
 unfold gosem_cut_init.f at h
 split at h
 ·
  assumption
 ·
  cases h
theorem bits8_range (op : BinOp) (x y : Int) : 0 ≤ Go.bits op .u8 x y ∧ Go.bits op .u8 x y < 256 := by
 unfold Go.bits
 split <;> (try rw [IntKind.wrap_u8]) <;> omega

theorem row8_other {w : World} {g g' i : Nat} {s : ByteArray} {v : Value} (h : Row8 w g s) (hne : g ≠ g') : Row8 (w.setCell ⟨g', i, none⟩ v) g s :=
 row8_move h (by simp [World.setCell, Array.getElem?_modify, Ne.symm hne])
theorem back_row {P : Program} {ops : Array Oper} {Q : Exit → Act → World → Prop} {rest : List Oper} {o : Oper} {a : Act} {W : World} (hgd : o.guard = none) {N : Tmp} (_hd : o.dst = some N) {g n : Nat} {s : ByteArray}
  (hs : P.underlying 34 = some (.slice 5)) (he : P.underlying 5 = some (.int .u8)) (hd9 : P.underlying 9 = some .string) (hrow : Row8 W g s) (hn : n = s.size)
  (hrun : (∀ cap, (convert 34 9 (.slice (some ⟨g, 0, none⟩) n cap)).run P W = .ok (.string s) W) → (execOp a.eval o).run P W = .ok (.value (.string s)) W) (h : ∀ w1, w1 = W → wpList P ops Q rest (a.put o.dst (.string s)) w1) : wpList P ops Q (o :: rest) a W :=
 Kd.event_run hgd (hrun (fun cap => row8_back hrow n cap hn hs he hd9)) (h W rfl)

theorem tmod_in (a n : Int) (hn : 0 < n) : -n < Int.tmod a n ∧ Int.tmod a n < n := by
 by_cases h : 0 ≤ a
 ·
  rw [Int.tmod_eq_emod_of_nonneg h]
  have h1 := Int.emod_nonneg a (show n ≠ 0 by omega)
  have h2 := Int.emod_lt_of_pos a hn
  omega
 ·
  have e : Int.tmod a n = -((-a) % n) := by
   rw [← Int.tmod_eq_emod_of_nonneg (show 0 ≤ -a by omega), Int.neg_tmod, Int.neg_neg]
  have h1 := Int.emod_nonneg (-a) (show n ≠ 0 by omega)
  have h2 := Int.emod_lt_of_pos (-a) hn
  omega
theorem place_in (a n t : Int) (hn : 0 < n) (hn2 : n ≤ 1000) (h : rampartlaw00_Place.f a n = some t) : 0 ≤ t ∧ t < n := by
 have h1 := tmod_in a n hn
 unfold rampartlaw00_Place.f at h
 rw [if_neg (by omega)] at h
 split at h
 ·
  obtain rfl := Option.some.inj h
  unfold wrap64
  omega
 ·
  obtain rfl := Option.some.inj h
  omega
theorem conv_event_c {P : Program} {ops : Array Oper} {Q : Exit → Act → World → Prop} {rest : List Oper} {o : Oper} {a : Act} {W : World} (hgd : o.guard = none) {N : Tmp} (_hd : o.dst = some N) {s : ByteArray}
  (hrun : (execOp a.eval o).run P W = .ok (.value (.slice (some ⟨W.heap.size, 0, none⟩) s.size (grownCap W s.size 0 5))) (Lib.bytesWorld W 5 s))
  (h : ∀ g, g = W.heap.size → ∀ c, s.size ≤ c → ∀ w1, Row8 w1 g s → Below W.heap.size W w1 → wpList P ops Q rest (a.put o.dst (.slice (some ⟨g, 0, none⟩) s.size c)) w1) : wpList P ops Q (o :: rest) a W :=
 Kd.event_run hgd hrun (h _ rfl _ (grownCap_ge W s.size 0 5) _ (row8_new W s) (by
  refine ⟨rfl, rfl, rfl, ?_, fun i hi => Lib.bytesWorld_at_old W 5 s i hi⟩
  rw [Lib.bytesWorld_size]; omega))
theorem row8_pre {P : Program} {w : World} {g : Nat} {s : ByteArray} (h : Row8 w g s) (n cap : Nat) (hn : n ≤ s.size) (hs : P.underlying 34 = some (.slice 5)) (he : P.underlying 5 = some (.int .u8)) (hd : P.underlying 9 = some .string) :
  (convert 34 9 (.slice (some ⟨g, 0, none⟩) n cap)).run P w = .ok (.string (s.extract 0 n)) w := by
 have hl : (s.data.toList.take n).length = n := by rw [List.length_take, show s.data.toList.length = s.size by simp]; omega
 have := run_convert_bytes_back (P := P) w 34 9 5 ⟨g, 0, none⟩ cap (s.data.toList.take n) hs he hd (fun j hj => by
  have hj' : j < n := by rw [hl] at hj; exact hj
  have hc := row8_cell h (i := (j : Int)) (by omega) (by omega)
  have hb := bt_at s (j : Int)
  rw [Int.toNat_natCast] at hc hb
  have e : (⟨g, 0, none⟩ : Addr).add j = ⟨g, j, none⟩ := by simp [Addr.add]; omega
  rw [e, hc, ← hb (by omega), List.getElem_take]
  rfl)
 rw [hl] at this
 rw [this]
 congr 2
 simp [ByteArray.ext_iff]
 apply Array.ext'
 simp
theorem pre_row {P : Program} {ops : Array Oper} {Q : Exit → Act → World → Prop} {rest : List Oper} {o : Oper} {a : Act} {W : World} (hgd : o.guard = none) {N : Tmp} (_hd : o.dst = some N) {g n : Nat} {s : ByteArray}
  (hs : P.underlying 34 = some (.slice 5)) (he : P.underlying 5 = some (.int .u8)) (hd9 : P.underlying 9 = some .string) (hrow : Row8 W g s) (hn : n ≤ s.size)
  (hrun : (∀ cap, (convert 34 9 (.slice (some ⟨g, 0, none⟩) n cap)).run P W = .ok (.string (s.extract 0 n)) W) → (execOp a.eval o).run P W = .ok (.value (.string (s.extract 0 n))) W) (h : ∀ w1, w1 = W → wpList P ops Q rest (a.put o.dst (.string (s.extract 0 n))) w1) : wpList P ops Q (o :: rest) a W :=
 Kd.event_run hgd (hrun (fun cap => row8_pre hrow n cap hn hs he hd9)) (h W rfl)
/-! ### rampartlaw03_Ipv4Wrong: function 6 -/
mutual
def rampartlaw03_Ipv4Wrong.j0 : Nat → Int → ByteArray → Bool → Option (Bool)
 | 0, _, _, _ => none
 | k + 1, x0, x1, x20 => if x20 = true then ((rampartlaw03_awake.f k).bind fun t168 => (some t168)) else ((ipv4_Put.f k 0 0 false false 0 5 17 1 2 (⟨#[1, 1, 1, 1]⟩ : ByteArray) x1).bind fun bt169 => (if bt169.2 = 0 then (rampartlaw03_Ipv4Wrong.j1 k x0 bt169.1 ((bt169.1.size : Int) != (wrap64 (24 + (x1.size : Int))))) else (rampartlaw03_Ipv4Wrong.j1 k x0 bt169.1 true)))
def rampartlaw03_Ipv4Wrong.j1 : Nat → Int → ByteArray → Bool → Option (Bool)
 | 0, _, _, _ => none
 | k + 1, x0, x5, x37 => if x37 = true then (some false) else ((rampartlaw00_Place.f x0 7).bind fun t171 => (if t171 = 0 then ((gosem_cut_init.f x5 0 102).bind fun t172 => ((ipv4_Get.f k t172).bind fun bt173 => (if bt173.2.2.2.2.2.2.2.2.2.2.2 = 3 then (if bt173.2.2.2.2.2.2.2.2.2.2.1.toList = ([] : List UInt8) then (if bt173.2.2.2.2.2.1 = 0 then ((rampartlaw03_awake.f k).bind fun t186 => (some t186)) else (some false)) else (some false)) else (some false)))) else (if t171 = 1 then ((gosem_cut_init.f x5 0 68).bind fun t187 => ((ipv4_Get.f k t187).bind fun bt188 => (if bt188.2.2.2.2.2.2.2.2.2.2.2 = 3 then (if bt188.2.2.2.2.2.2.2.2.2.2.1.toList = ([] : List UInt8) then (if bt188.2.2.2.2.2.1 = 0 then ((rampartlaw03_awake.f k).bind fun t201 => (some t201)) else (some false)) else (some false)) else (some false)))) else (if t171 = 2 then (if 0 ≤ 22 then (if 22 ≤ (x5.size : Int) then ((ipv4_Get.f k (x5.extract 0 22)).bind fun bt202 => (if bt202.2.2.2.2.2.2.2.2.2.2.2 = 2 then (if bt202.2.2.2.2.2.2.2.2.2.2.1.toList = ([] : List UInt8) then (if bt202.2.2.2.2.2.1 = 0 then ((rampartlaw03_awake.f k).bind fun t215 => (some t215)) else (some false)) else (some false)) else (some false))) else (none)) else (none)) else (if t171 = 3 then ((gosem_cut_init.f x5 2 0).bind fun t216 => ((gosem_cut_init.f t216 3 23).bind fun t217 => ((ipv4_Get.f k t217).bind fun bt218 => (if bt218.2.2.2.2.2.2.2.2.2.2.2 = 3 then (if bt218.2.2.2.2.2.2.2.2.2.2.1.toList = ([] : List UInt8) then (if bt218.2.2.2.2.2.1 = 0 then ((rampartlaw03_awake.f k).bind fun t231 => (some t231)) else (some false)) else (some false)) else (some false))))) else (if t171 = 4 then (if 0 ≤ (wrap64 ((x5.size : Int) - 1)) then (if (wrap64 ((x5.size : Int) - 1)) ≤ (x5.size : Int) then ((ipv4_Get.f k (x5.extract 0 ((wrap64 ((x5.size : Int) - 1)) : Int).toNat)).bind fun bt232 => (if bt232.2.2.2.2.2.2.2.2.2.2.2 = 2 then (if bt232.2.2.2.2.2.2.2.2.2.2.1.toList = ([] : List UInt8) then (if bt232.2.2.2.2.2.1 = 0 then ((rampartlaw03_awake.f k).bind fun t245 => (some t245)) else (some false)) else (some false)) else (some false))) else (none)) else (none)) else (if t171 = 5 then (if 6 < (x5.size : Int) then ((gosem_cut_init.f x5 6 (Go.bits .or .u8 (bt x5 6) 128)).bind fun t246 => ((ipv4_Get.f k t246).bind fun bt247 => (if bt247.2.2.2.2.2.2.2.2.2.2.2 = 3 then (if bt247.2.2.2.2.2.2.2.2.2.2.1.toList = ([] : List UInt8) then (if bt247.2.2.2.2.2.1 = 0 then ((rampartlaw03_awake.f k).bind fun t260 => (some t260)) else (some false)) else (some false)) else (some false)))) else (none)) else (if 8 < (x5.size : Int) then ((gosem_cut_init.f x5 8 (((bt x5 8) + 1) % 256)).bind fun t261 => ((ipv4_Get.f k t261).bind fun bt262 => (if bt262.2.2.2.2.2.2.2.2.2.2.2 = 4 then (if bt262.2.2.2.2.2.2.2.2.2.2.1.toList = ([] : List UInt8) then (if bt262.2.2.2.2.2.1 = 0 then ((rampartlaw03_awake.f k).bind fun t275 => (some t275)) else (some false)) else (some false)) else (some false)))) else (none)))))))))
end
def rampartlaw03_Ipv4Wrong.f (k : Nat) (a0 : Int) (a1 : ByteArray) : Option (Bool) := if (a1.size : Int) < 1 then (rampartlaw03_Ipv4Wrong.j0 k a0 a1 true) else (rampartlaw03_Ipv4Wrong.j0 k a0 a1 (decide ((a1.size : Int) > 500)))
theorem rampartlaw03_Ipv4Wrong.mono_l : ∀ k, (∀ y0 y1 y2, LeO (rampartlaw03_Ipv4Wrong.j0 k y0 y1 y2) (rampartlaw03_Ipv4Wrong.j0 (k + 1) y0 y1 y2)) ∧ (∀ y0 y1 y2, LeO (rampartlaw03_Ipv4Wrong.j1 k y0 y1 y2) (rampartlaw03_Ipv4Wrong.j1 (k + 1) y0 y1 y2))
 | 0 => ⟨fun _ _ _ r h => by simp [rampartlaw03_Ipv4Wrong.j0] at h, fun _ _ _ r h => by simp [rampartlaw03_Ipv4Wrong.j1] at h⟩
 | k + 1 => by
  obtain ⟨ih0, ih1⟩ := rampartlaw03_Ipv4Wrong.mono_l k
  refine ⟨?_, ?_⟩
  ·
   intro y0 y1 y2
   unfold rampartlaw03_Ipv4Wrong.j0
   repeat' first
   | (with_reducible exact ih0 _ _ _)
   | (with_reducible exact ih1 _ _ _)
   | (with_reducible exact ipv4_Get.mono _ _)
   | (with_reducible exact ipv4_Put.mono _ _ _ _ _ _ _ _ _ _ _ _)
   | (with_reducible exact rampartlaw03_awake.mono _)
   | (with_reducible exact LeO.refl _)
   | (with_reducible exact LeO.none _)
   | (with_reducible refine LeO.ite ?_ ?_)
   | (with_reducible refine LeO.bind ?_ (fun _ => ?_))
   | exact ih0 _ _ _
   | exact ih1 _ _ _
   | exact ipv4_Get.mono _ _
   | exact ipv4_Put.mono _ _ _ _ _ _ _ _ _ _ _ _
   | exact rampartlaw03_awake.mono _
   | exact LeO.none _
   | refine LeO.ite ?_ ?_
   | refine LeO.bind ?_ (fun _ => ?_)
  ·
   intro y0 y1 y2
   unfold rampartlaw03_Ipv4Wrong.j1
   repeat' first
   | (with_reducible exact ih0 _ _ _)
   | (with_reducible exact ih1 _ _ _)
   | (with_reducible exact ipv4_Get.mono _ _)
   | (with_reducible exact ipv4_Put.mono _ _ _ _ _ _ _ _ _ _ _ _)
   | (with_reducible exact rampartlaw03_awake.mono _)
   | (with_reducible exact LeO.refl _)
   | (with_reducible exact LeO.none _)
   | (with_reducible refine LeO.ite ?_ ?_)
   | (with_reducible refine LeO.bind ?_ (fun _ => ?_))
   | exact ih0 _ _ _
   | exact ih1 _ _ _
   | exact ipv4_Get.mono _ _
   | exact ipv4_Put.mono _ _ _ _ _ _ _ _ _ _ _ _
   | exact rampartlaw03_awake.mono _
   | exact LeO.none _
   | refine LeO.ite ?_ ?_
   | refine LeO.bind ?_ (fun _ => ?_)
theorem rampartlaw03_Ipv4Wrong.mono : ∀ a0 a1 k, LeO (rampartlaw03_Ipv4Wrong.f k a0 a1) (rampartlaw03_Ipv4Wrong.f (k + 1) a0 a1) := by
 intro a0 a1 k
 obtain ⟨ih0, ih1⟩ := rampartlaw03_Ipv4Wrong.mono_l k
 unfold rampartlaw03_Ipv4Wrong.f
 repeat' first
   | (with_reducible exact ih0 _ _ _)
   | (with_reducible exact ih1 _ _ _)
   | (with_reducible exact ipv4_Get.mono _ _)
   | (with_reducible exact ipv4_Put.mono _ _ _ _ _ _ _ _ _ _ _ _)
   | (with_reducible exact rampartlaw03_awake.mono _)
   | (with_reducible exact LeO.refl _)
   | (with_reducible exact LeO.none _)
   | (with_reducible refine LeO.ite ?_ ?_)
   | (with_reducible refine LeO.bind ?_ (fun _ => ?_))
   | exact ih0 _ _ _
   | exact ih1 _ _ _
   | exact ipv4_Get.mono _ _
   | exact ipv4_Put.mono _ _ _ _ _ _ _ _ _ _ _ _
   | exact rampartlaw03_awake.mono _
   | exact LeO.none _
   | refine LeO.ite ?_ ?_
   | refine LeO.bind ?_ (fun _ => ?_)
theorem rampartlaw03_Ipv4Wrong.j1_no {k : Nat} {y0 : Int} {y1 : ByteArray} {r : Bool} (hr : r = true) : ¬ (rampartlaw03_Ipv4Wrong.j1 k y0 y1 true = some r) := by
 subst hr
 cases k with
 | zero => intro h; simp only [rampartlaw03_Ipv4Wrong.j1] at h; cases h
 | succ k => intro h; simp only [rampartlaw03_Ipv4Wrong.j1, if_true] at h; cases h
set_option maxHeartbeats 8000000 in
set_option maxRecDepth 100000 in
theorem rampartlaw03_Ipv4Wrong.calls (k : Nat) (a0 : Int) (a1 : ByteArray) (r : Bool) (w : World) (h : rampartlaw03_Ipv4Wrong.f k a0 a1 = some r) (HR0 : r = true) :
  Calls Try.prog 6 #[.int .i64 a0, .string a1] w fun e w' => e = .returned (.bool r) ∧ Below w.heap.size w w' := by
 have HR := Aside0.mk HR0
 clear HR0
 have hu24 := Try.underlying24
 have hu39 := Try.underlying39
 have HB := Aside0.mk (Below.refl w.heap.size w)
 have H : (if (a1.size : Int) < 1 then (rampartlaw03_Ipv4Wrong.j0 k a0 a1 true) else (rampartlaw03_Ipv4Wrong.j0 k a0 a1 (decide ((a1.size : Int) > 500)))) = some r := h
 clear h
 have HC3 := Aside0.mk H
 clear H
 go_enter Try.func6, Try.ntmps6
 go_upto_region 1 with (fail)
 go_cut [20] (fun v20 wc => ∃ (kq : Nat) (x20_2 : Bool), v20 = .bool x20_2 ∧ Aside0 (rampartlaw03_Ipv4Wrong.j0 kq a0 a1 x20_2 = some r) ∧ Aside0 (kq ≤ k) ∧ Aside0 (Below w.heap.size w wc))
 case first =>
  have H := HC3.out
  clear HC3
  by_cases c4 : (a1.size : Int) < 1
  ·
   rw [if_pos c4] at H
   have c4b0 : decide ((a1.size : Int) < 1) = true := decide_eq_true c4
   have c4b1 : decide (a1.size < 1) = true := decide_eq_true (by omega)
   clear c4
   (first | rw [c4b0] | (simp only [i64_w, i32_w]; rw [c4b0]) | skip)
   have H' := Aside0.mk H
   clear H
   go_wp2
   go_meet
   case rel => exact ⟨_, (true), (by first | rfl | (simp; done) | (simp [*]; done)), H', ⟨by first | omega | exact Nat.le_refl _⟩, ⟨by repeat (first | (with_reducible first | exact HB.out | apply below_alloc | apply pw_below_drewN | apply below_drew1) | exact HB.out)⟩⟩
  ·
   rw [if_neg c4] at H
   have c4b0 : decide ((a1.size : Int) < 1) = false := decide_eq_false c4
   have c4b1 : decide (a1.size < 1) = false := decide_eq_false (by omega)
   clear c4
   (first | rw [c4b0] | (simp only [i64_w, i32_w]; rw [c4b0]) | skip)
   have H' := Aside0.mk H
   clear H
   go_wp2
   go_meet
   case rel => exact ⟨_, (decide ((a1.size : Int) > 500)), (by first | rfl | (simp; done) | (simp [*]; done)), H', ⟨by first | omega | exact Nat.le_refl _⟩, ⟨by repeat (first | (with_reducible first | exact HB.out | apply below_alloc | apply pw_below_drewN | apply below_drew1) | exact HB.out)⟩⟩
 case rest =>
  clear HC3
  try clear p2
  try clear c4
  try clear c4b0
  try clear c4b1
  obtain ⟨kq, x20_2, rfl, HA, HJ2, HB⟩ := hcut
  cases kq with
  | zero => exact absurd HA.out (by simp [rampartlaw03_Ipv4Wrong.j0])
  | succ kj2 =>
   have H := HA.out
   clear HA
   simp only [rampartlaw03_Ipv4Wrong.j0] at H
   by_cases c5 : x20_2 = true
   ·
    subst c5
    have H1 : ((rampartlaw03_awake.f kj2).bind fun t168 => (some t168)) = some r := by rw [if_pos rfl] at H; exact H
    clear H
    have H := H1
    clear H1
    replace H := Option.bind_eq_some_iff.mp H
    obtain ⟨t168, A60, H⟩ := H
    replace H : (some t168) = some r := H
    have A6 := Aside0.mk A60
    clear A60
    obtain rfl := Option.some.inj H
    go_wp2_with (first | ((with_reducible refine gate_callee (f := 15) rfl ?_); refine goesL_ (some 21) rfl rfl Try.func15 (by kernel_rfl) rfl #[] rfl (by (try simp only [List.map_toArray, List.map_cons, List.map_nil]); first | done | rfl | (simp only [List.length_drop, List.length_take]; rfl)) ?_; (with_reducible refine (rampartlaw03_awake.calls kj2  t168 _ A6.out (by first | rfl | exact HR.out)).mono ?_); rintro e w7 ⟨rfl, hb⟩; refine ⟨_, rfl, ?_⟩; have n0_ := Aside0.mk (below_step (by repeat (first | (with_reducible first | exact HB.out | apply below_alloc | apply pw_below_drewN | apply below_drew1) | exact HB.out)) hb); clear HB; have HB := n0_; clear n0_; (try clear hb); (try clear hb2); (try clear hk); (try clear hi)))
    go_ret
    exact ⟨by first | rfl | (simp [errW_none, errW_some] <;> rfl) | (simp [*, errW_none, errW_some] <;> rfl), by repeat (first | (with_reducible first | exact HB.out | apply below_alloc | apply pw_below_drewN | apply below_drew1) | exact HB.out)⟩
   ·
    replace c5 := Bool.eq_false_iff.mpr c5
    subst c5
    have H1 : ((ipv4_Put.f kj2 0 0 false false 0 5 17 1 2 (⟨#[1, 1, 1, 1]⟩ : ByteArray) a1).bind fun bt169 => (if bt169.2 = 0 then (rampartlaw03_Ipv4Wrong.j1 kj2 a0 bt169.1 ((bt169.1.size : Int) != (wrap64 (24 + (a1.size : Int))))) else (rampartlaw03_Ipv4Wrong.j1 kj2 a0 bt169.1 true))) = some r := by rw [if_neg (show ¬ (false = true) by decide)] at H; exact H
    clear H
    have H := H1
    clear H1
    replace H := Option.bind_eq_some_iff.mp H
    obtain ⟨⟨t169, t170⟩, A80, H⟩ := H
    replace H : (if t170 = 0 then (rampartlaw03_Ipv4Wrong.j1 kj2 a0 t169 ((t169.size : Int) != (wrap64 (24 + (a1.size : Int))))) else (rampartlaw03_Ipv4Wrong.j1 kj2 a0 t169 true)) = some r := H
    have A8 := Aside0.mk A80
    clear A80
    have HC9 := Aside0.mk H
    clear H
    go_upto_region 4 with (first | ((with_reducible refine gate_callee (f := 16) rfl ?_); refine goesL_ (some 25) rfl rfl Try.func16 (by kernel_rfl) rfl #[.agg #[.int .i64 0, .int .i64 0, .bool false, .bool false, .int .i64 0, .int .i64 5, .int .i64 17, .int .u32 1, .int .u32 2, .string (⟨#[1, 1, 1, 1]⟩ : ByteArray)], .string a1] rfl (by (try simp only [List.map_toArray, List.map_cons, List.map_nil]); first | done | rfl | (simp only [List.length_drop, List.length_take]; rfl)) ?_; (with_reducible refine (ipv4_Put.calls kj2 0 0 false false 0 5 17 1 2 (⟨#[1, 1, 1, 1]⟩ : ByteArray) a1 t169 t170 _ A8.out).mono ?_); rintro e w10 ⟨rfl, hb⟩; refine ⟨_, rfl, ?_⟩; have n0_ := Aside0.mk (below_step (by repeat (first | (with_reducible first | exact HB.out | apply below_alloc | apply pw_below_drewN | apply below_drew1) | exact HB.out)) hb); clear HB; have HB := n0_; clear n0_; (try clear hb); (try clear hb2); (try clear hk); (try clear hi)))
    (try simp only [Act.put, List.setIfInBounds_toArray, List.set_cons_zero, List.set_cons_succ])
    go_cut [37] (fun v37 wc => ∃ (kq : Nat) (x37_8 : Bool), v37 = .bool x37_8 ∧ Aside0 (rampartlaw03_Ipv4Wrong.j1 kq a0 t169 x37_8 = some r) ∧ Aside0 (kq ≤ kj2) ∧ Aside0 (Below w.heap.size w wc))
    case first =>
     have H := HC9.out
     clear HC9
     by_cases c11 : t170 = 0
     ·
      rw [if_pos c11] at H
      have c11b0 : (t170 == 0) = true := beq_iff_eq.mpr c11
      have c11b1 : (t170 != 0) = false := bne_eq_false_iff_eq.mpr c11
      clear c11
      (first | rw [c11b0] | (simp only [i64_w, i32_w]; rw [c11b0]) | skip)
      have H' := Aside0.mk H
      clear H
      go_wp2
      go_meet
      case rel => exact ⟨_, (((t169.size : Int) != (wrap64 (24 + (a1.size : Int))))), (by first | rfl | (simp; done) | (simp [*]; done)), H', ⟨by have := HJ2.out; first | omega | exact Nat.le_refl _⟩, ⟨by repeat (first | (with_reducible first | exact HB.out | apply below_alloc | apply pw_below_drewN | apply below_drew1) | exact HB.out)⟩⟩
     ·
      rw [if_neg c11] at H
      exact absurd H (rampartlaw03_Ipv4Wrong.j1_no HR.out)
    case rest =>
     clear HC9
     try clear c1
     try clear p2
     try clear c4
     try clear c4b0
     try clear c4b1
     try clear c5
     try clear c6
     try clear p6
     try clear c11
     try clear c11b0
     try clear c11b1
     try clear p2
     obtain ⟨kq, x37_8, rfl, HA, HJ8, HB⟩ := hcut
     cases kq with
     | zero => exact absurd HA.out (by simp [rampartlaw03_Ipv4Wrong.j1])
     | succ kj8 =>
      have H := HA.out
      clear HA
      simp only [rampartlaw03_Ipv4Wrong.j1] at H
      by_cases c12 : x37_8 = true
      ·
       subst c12
       have H1 : (some false) = some r := by rw [if_pos rfl] at H; exact H
       clear H
       have H := H1
       clear H1
       exact absurd ((Option.some.inj H).trans HR.out) (by decide)
      ·
       replace c12 := Bool.eq_false_iff.mpr c12
       subst c12
       have H1 : ((rampartlaw00_Place.f a0 7).bind fun t171 => (if t171 = 0 then ((gosem_cut_init.f t169 0 102).bind fun t172 => ((ipv4_Get.f kj8 t172).bind fun bt173 => (if bt173.2.2.2.2.2.2.2.2.2.2.2 = 3 then (if bt173.2.2.2.2.2.2.2.2.2.2.1.toList = ([] : List UInt8) then (if bt173.2.2.2.2.2.1 = 0 then ((rampartlaw03_awake.f kj8).bind fun t186 => (some t186)) else (some false)) else (some false)) else (some false)))) else (if t171 = 1 then ((gosem_cut_init.f t169 0 68).bind fun t187 => ((ipv4_Get.f kj8 t187).bind fun bt188 => (if bt188.2.2.2.2.2.2.2.2.2.2.2 = 3 then (if bt188.2.2.2.2.2.2.2.2.2.2.1.toList = ([] : List UInt8) then (if bt188.2.2.2.2.2.1 = 0 then ((rampartlaw03_awake.f kj8).bind fun t201 => (some t201)) else (some false)) else (some false)) else (some false)))) else (if t171 = 2 then (if 0 ≤ 22 then (if 22 ≤ (t169.size : Int) then ((ipv4_Get.f kj8 (t169.extract 0 22)).bind fun bt202 => (if bt202.2.2.2.2.2.2.2.2.2.2.2 = 2 then (if bt202.2.2.2.2.2.2.2.2.2.2.1.toList = ([] : List UInt8) then (if bt202.2.2.2.2.2.1 = 0 then ((rampartlaw03_awake.f kj8).bind fun t215 => (some t215)) else (some false)) else (some false)) else (some false))) else (none)) else (none)) else (if t171 = 3 then ((gosem_cut_init.f t169 2 0).bind fun t216 => ((gosem_cut_init.f t216 3 23).bind fun t217 => ((ipv4_Get.f kj8 t217).bind fun bt218 => (if bt218.2.2.2.2.2.2.2.2.2.2.2 = 3 then (if bt218.2.2.2.2.2.2.2.2.2.2.1.toList = ([] : List UInt8) then (if bt218.2.2.2.2.2.1 = 0 then ((rampartlaw03_awake.f kj8).bind fun t231 => (some t231)) else (some false)) else (some false)) else (some false))))) else (if t171 = 4 then (if 0 ≤ (wrap64 ((t169.size : Int) - 1)) then (if (wrap64 ((t169.size : Int) - 1)) ≤ (t169.size : Int) then ((ipv4_Get.f kj8 (t169.extract 0 ((wrap64 ((t169.size : Int) - 1)) : Int).toNat)).bind fun bt232 => (if bt232.2.2.2.2.2.2.2.2.2.2.2 = 2 then (if bt232.2.2.2.2.2.2.2.2.2.2.1.toList = ([] : List UInt8) then (if bt232.2.2.2.2.2.1 = 0 then ((rampartlaw03_awake.f kj8).bind fun t245 => (some t245)) else (some false)) else (some false)) else (some false))) else (none)) else (none)) else (if t171 = 5 then (if 6 < (t169.size : Int) then ((gosem_cut_init.f t169 6 (Go.bits .or .u8 (bt t169 6) 128)).bind fun t246 => ((ipv4_Get.f kj8 t246).bind fun bt247 => (if bt247.2.2.2.2.2.2.2.2.2.2.2 = 3 then (if bt247.2.2.2.2.2.2.2.2.2.2.1.toList = ([] : List UInt8) then (if bt247.2.2.2.2.2.1 = 0 then ((rampartlaw03_awake.f kj8).bind fun t260 => (some t260)) else (some false)) else (some false)) else (some false)))) else (none)) else (if 8 < (t169.size : Int) then ((gosem_cut_init.f t169 8 (((bt t169 8) + 1) % 256)).bind fun t261 => ((ipv4_Get.f kj8 t261).bind fun bt262 => (if bt262.2.2.2.2.2.2.2.2.2.2.2 = 4 then (if bt262.2.2.2.2.2.2.2.2.2.2.1.toList = ([] : List UInt8) then (if bt262.2.2.2.2.2.1 = 0 then ((rampartlaw03_awake.f kj8).bind fun t275 => (some t275)) else (some false)) else (some false)) else (some false)))) else (none))))))))) = some r := by rw [if_neg (show ¬ (false = true) by decide)] at H; exact H
       clear H
       have H := H1
       clear H1
       replace H := Option.bind_eq_some_iff.mp H
       obtain ⟨t171, A130, H⟩ := H
       replace H : (if t171 = 0 then ((gosem_cut_init.f t169 0 102).bind fun t172 => ((ipv4_Get.f kj8 t172).bind fun bt173 => (if bt173.2.2.2.2.2.2.2.2.2.2.2 = 3 then (if bt173.2.2.2.2.2.2.2.2.2.2.1.toList = ([] : List UInt8) then (if bt173.2.2.2.2.2.1 = 0 then ((rampartlaw03_awake.f kj8).bind fun t186 => (some t186)) else (some false)) else (some false)) else (some false)))) else (if t171 = 1 then ((gosem_cut_init.f t169 0 68).bind fun t187 => ((ipv4_Get.f kj8 t187).bind fun bt188 => (if bt188.2.2.2.2.2.2.2.2.2.2.2 = 3 then (if bt188.2.2.2.2.2.2.2.2.2.2.1.toList = ([] : List UInt8) then (if bt188.2.2.2.2.2.1 = 0 then ((rampartlaw03_awake.f kj8).bind fun t201 => (some t201)) else (some false)) else (some false)) else (some false)))) else (if t171 = 2 then (if 0 ≤ 22 then (if 22 ≤ (t169.size : Int) then ((ipv4_Get.f kj8 (t169.extract 0 22)).bind fun bt202 => (if bt202.2.2.2.2.2.2.2.2.2.2.2 = 2 then (if bt202.2.2.2.2.2.2.2.2.2.2.1.toList = ([] : List UInt8) then (if bt202.2.2.2.2.2.1 = 0 then ((rampartlaw03_awake.f kj8).bind fun t215 => (some t215)) else (some false)) else (some false)) else (some false))) else (none)) else (none)) else (if t171 = 3 then ((gosem_cut_init.f t169 2 0).bind fun t216 => ((gosem_cut_init.f t216 3 23).bind fun t217 => ((ipv4_Get.f kj8 t217).bind fun bt218 => (if bt218.2.2.2.2.2.2.2.2.2.2.2 = 3 then (if bt218.2.2.2.2.2.2.2.2.2.2.1.toList = ([] : List UInt8) then (if bt218.2.2.2.2.2.1 = 0 then ((rampartlaw03_awake.f kj8).bind fun t231 => (some t231)) else (some false)) else (some false)) else (some false))))) else (if t171 = 4 then (if 0 ≤ (wrap64 ((t169.size : Int) - 1)) then (if (wrap64 ((t169.size : Int) - 1)) ≤ (t169.size : Int) then ((ipv4_Get.f kj8 (t169.extract 0 ((wrap64 ((t169.size : Int) - 1)) : Int).toNat)).bind fun bt232 => (if bt232.2.2.2.2.2.2.2.2.2.2.2 = 2 then (if bt232.2.2.2.2.2.2.2.2.2.2.1.toList = ([] : List UInt8) then (if bt232.2.2.2.2.2.1 = 0 then ((rampartlaw03_awake.f kj8).bind fun t245 => (some t245)) else (some false)) else (some false)) else (some false))) else (none)) else (none)) else (if t171 = 5 then (if 6 < (t169.size : Int) then ((gosem_cut_init.f t169 6 (Go.bits .or .u8 (bt t169 6) 128)).bind fun t246 => ((ipv4_Get.f kj8 t246).bind fun bt247 => (if bt247.2.2.2.2.2.2.2.2.2.2.2 = 3 then (if bt247.2.2.2.2.2.2.2.2.2.2.1.toList = ([] : List UInt8) then (if bt247.2.2.2.2.2.1 = 0 then ((rampartlaw03_awake.f kj8).bind fun t260 => (some t260)) else (some false)) else (some false)) else (some false)))) else (none)) else (if 8 < (t169.size : Int) then ((gosem_cut_init.f t169 8 (((bt t169 8) + 1) % 256)).bind fun t261 => ((ipv4_Get.f kj8 t261).bind fun bt262 => (if bt262.2.2.2.2.2.2.2.2.2.2.2 = 4 then (if bt262.2.2.2.2.2.2.2.2.2.2.1.toList = ([] : List UInt8) then (if bt262.2.2.2.2.2.1 = 0 then ((rampartlaw03_awake.f kj8).bind fun t275 => (some t275)) else (some false)) else (some false)) else (some false)))) else (none)))))))) = some r := H
       have A13 := Aside0.mk A130
       clear A130
       by_cases c14 : t171 = 0
       ·
        rw [if_pos c14] at H
        have c14b0 : (t171 == 0) = true := beq_iff_eq.mpr c14
        have c14b1 : (t171 != 0) = false := bne_eq_false_iff_eq.mpr c14
        clear c14
        replace H := Option.bind_eq_some_iff.mp H
        obtain ⟨t172, A150, H⟩ := H
        replace H : ((ipv4_Get.f kj8 t172).bind fun bt173 => (if bt173.2.2.2.2.2.2.2.2.2.2.2 = 3 then (if bt173.2.2.2.2.2.2.2.2.2.2.1.toList = ([] : List UInt8) then (if bt173.2.2.2.2.2.1 = 0 then ((rampartlaw03_awake.f kj8).bind fun t186 => (some t186)) else (some false)) else (some false)) else (some false))) = some r := H
        have A15 := Aside0.mk A150
        clear A150
        replace H := Option.bind_eq_some_iff.mp H
        obtain ⟨⟨t173, t174, t175, t176, t177, t178, t179, t180, t181, t182, t183, t184⟩, A160, H⟩ := H
        replace H : (if t184 = 3 then (if t183.toList = ([] : List UInt8) then (if t178 = 0 then ((rampartlaw03_awake.f kj8).bind fun t186 => (some t186)) else (some false)) else (some false)) else (some false)) = some r := H
        have A16 := Aside0.mk A160
        clear A160
        by_cases c17 : t184 = 3
        ·
         rw [if_pos c17] at H
         have c17b0 : (t184 == 3) = true := beq_iff_eq.mpr c17
         have c17b1 : (t184 != 3) = false := bne_eq_false_iff_eq.mpr c17
         clear c17
         by_cases c18 : t183.toList = ([] : List UInt8)
         ·
          rw [if_pos c18] at H
          have c18b0 : (t183.toList == ([] : List UInt8)) = true := beq_iff_eq.mpr c18
          have c18b1 : (t183.toList != ([] : List UInt8)) = false := bne_eq_false_iff_eq.mpr c18
          clear c18
          by_cases c19 : t178 = 0
          ·
           rw [if_pos c19] at H
           have c19b0 : (t178 == 0) = true := beq_iff_eq.mpr c19
           have c19b1 : (t178 != 0) = false := bne_eq_false_iff_eq.mpr c19
           clear c19
           replace H := Option.bind_eq_some_iff.mp H
           obtain ⟨t186, A200, H⟩ := H
           replace H : (some t186) = some r := H
           have A20 := Aside0.mk A200
           clear A200
           obtain rfl := Option.some.inj H
           have hconv8 := fun (s : ByteArray) (w : World) => Lib.run_convert_string_bytes (P := Try.prog) w 9 34 5 s Try.underlying9 Try.underlying34 Try.underlying5
           have ht_ : t171 = 0 := beq_iff_eq.mp c14b0
           have hix_ : ∀ w : World, (Instr.index 39 (.agg #[.int .i64 3, .int .i64 3, .int .i64 2, .int .i64 3, .int .i64 2, .int .i64 3, .int .i64 4]) (.int .i64 0)).run Try.prog w = .ok (.int .i64 3) w := fun w => by kernel_rfl
           go_wp2_with (first | ((with_reducible refine gate_dst (N := 39) rfl ?_); refine conv_event_c ?hg (N := 39) ?hd (s := t169) ?hr ?_; (case hd => rfl); (case hg => rfl); (case hr => first | (go_simp; done) | (go_simp; rfl)); intro g8 hg8 c8 hcc_ w8 hrow8 hb8; have BB := Aside0.mk hrow8; have BL := Aside0.mk hb8; have GG := Aside0.mk (show wc.heap.size ≤ g8 from Nat.le_of_eq hg8.symm); clear hrow8 hg8 hb8) | ((with_reducible refine gate_callee (f := 23) rfl ?_); refine goesL_ (some 41) rfl rfl Try.func23 (by kernel_rfl) rfl #[.int .i64 a0, .int .i64 7] rfl (by (try simp only [List.map_toArray, List.map_cons, List.map_nil]); first | done | rfl | (simp only [List.length_drop, List.length_take]; rfl)) ?_; (with_reducible refine (rampartlaw00_Place.calls a0 7 t171 _ A13.out).mono ?_); rintro e w' ⟨rfl, ⟨nd, rfl⟩⟩; refine ⟨_, rfl, ?_⟩; (try (rw [drewN_self wc]; generalize hq_ : World.drewN wc _ = wc; have n0_ : Aside0 (Below w.heap.size w wc) := ⟨by rw [← hq_]; exact (by repeat (first | (with_reducible first | exact HB.out | apply below_alloc | apply pw_below_drewN | apply below_drew1) | exact HB.out))⟩; clear HB hq_; have HB := n0_; clear n0_)); have B1_ := row8_drewN BB.out nd; have SB0 := set_bounds A15.out; have hc8_0 : (World.drewN w8 nd).cell? ⟨g8, 0, none⟩ = some (.int .u8 (bt t169 (0))) := row8_cell B1_ (i := 0) SB0.1 SB0.2; have hf8_0 : (World.drewN w8 nd).frozen? ⟨g8, 0, none⟩ = false := row8_frozen B1_ (i := 0) SB0.1 SB0.2; have TT0 := set_eq A15.out; have RB8_0 : Row8 ((World.drewN w8 nd).setCell ⟨g8, 0, none⟩ (.int .u8 (102))) g8 t172 := (by rw [TT0]; exact row8_set B1_ (i := 0) (v := 102) SB0.1 SB0.2 (by first | decide | exact (bits8_range _ _ _).1 | omega) (by first | decide | exact (bits8_range _ _ _).2 | omega)); have hz8_0 : t172.size = t169.size := (by rw [TT0, bset_size]); have RB8 := Aside0.mk RB8_0; clear B1_ RB8_0) | ((with_reducible refine gate_dst (N := 87) rfl ?_); refine back_row ?hg (N := 87) ?hd (g := g8) (n := t169.size) (s := t172) Try.underlying34 Try.underlying5 Try.underlying9 ?hrow ?hn ?hr ?_; (case hd => rfl); (case hg => rfl); (case hrow => exact RB8.out); (case hn => rw [hz8_0]); (case hr => intro hback; first | (go_simp; done) | (go_simp; rfl)); intro w21 hw8; have hb : Below wc.heap.size wc w21 := (by rw [hw8]; exact (below_set (j := 0) (v := .int .u8 (102)) (pw_below_drewN BL.out nd) GG.out)); clear hw8; have n0_ := Aside0.mk (below_step (by repeat (first | (with_reducible first | exact HB.out | apply below_alloc | apply pw_below_drewN | apply below_drew1) | exact HB.out)) hb); clear HB; have HB := n0_; clear n0_; (try clear hb); (try clear hb2); (try clear hk); (try clear hi)) | ((with_reducible refine gate_callee (f := 18) rfl ?_); refine goesL_ (some 88) rfl rfl Try.func18 (by kernel_rfl) rfl #[.string t172] rfl (by (try simp only [List.map_toArray, List.map_cons, List.map_nil]); first | done | rfl | (simp only [List.length_drop, List.length_take]; rfl)) ?_; (with_reducible refine (ipv4_Get.calls kj8 t172 t173 t174 t175 t176 t177 t178 t179 t180 t181 t182 t183 t184 _ A16.out).mono ?_); rintro e w22 ⟨rfl, hb⟩; refine ⟨_, rfl, ?_⟩; have n0_ := Aside0.mk (below_step (by repeat (first | (with_reducible first | exact HB.out | apply below_alloc | apply pw_below_drewN | apply below_drew1) | exact HB.out)) hb); clear HB; have HB := n0_; clear n0_; (try clear hb); (try clear hb2); (try clear hk); (try clear hi)) | ((with_reducible refine gate_dst (N := 10) rfl ?_); (try (refine gate_guard (by rfl) ?_; dsimp only)); refine box_event ?hg (N := 10) ?hd (cs := #[.int .i64 0, .int .i64 0, .bool false, .bool false, .int .i64 0, .int .i64 0, .int .i64 0, .int .u32 0, .int .u32 0, .string (⟨#[]⟩ : ByteArray)]) (t := 24) ?hr ?_; (case hd => rfl); (case hg => rfl); (case hr => first | (go_simp; done) | (go_simp; rfl)); intro gb185 hg w23 hbox hb; have n0_ := Aside0.mk (below_step (by repeat (first | (with_reducible first | exact HB.out | apply below_alloc | apply pw_below_drewN | apply below_drew1) | exact HB.out)) hb); have n1_ := Aside0.mk (hbox); have n2_ := Aside0.mk ((by rw [hg]; exact (below_size (by repeat (first | (with_reducible first | exact HB.out | apply below_alloc | apply pw_below_drewN | apply below_drew1) | exact HB.out))) : w.heap.size ≤ gb185)); have n3_ := Aside0.mk ((by rw [hg]; exact (below_size (by repeat (first | (with_reducible first | exact HB.out | apply below_alloc | apply pw_below_drewN | apply below_drew1) | exact HB.out))) : w.heap.size ≤ gb185)); clear HB; have HB := n0_; have BK185 := n1_; have GW185 := n2_; have GE185 := n3_; clear n0_ n1_ n2_ n3_; clear hb hbox hg; have hcz24_0 : w23.cell? ⟨gb185, 0, none⟩ = some (.int .i64 0) := (blk_cell BK185.out 0).trans rfl; have hcz24_1 : w23.cell? ⟨gb185, 1, none⟩ = some (.int .i64 0) := (blk_cell BK185.out 1).trans rfl; have hcz24_2 : w23.cell? ⟨gb185, 2, none⟩ = some (.bool false) := (blk_cell BK185.out 2).trans rfl; have hcz24_3 : w23.cell? ⟨gb185, 3, none⟩ = some (.bool false) := (blk_cell BK185.out 3).trans rfl; have hcz24_4 : w23.cell? ⟨gb185, 4, none⟩ = some (.int .i64 0) := (blk_cell BK185.out 4).trans rfl; have hcz24_5 : w23.cell? ⟨gb185, 5, none⟩ = some (.int .i64 0) := (blk_cell BK185.out 5).trans rfl; have hcz24_6 : w23.cell? ⟨gb185, 6, none⟩ = some (.int .i64 0) := (blk_cell BK185.out 6).trans rfl; have hcz24_7 : w23.cell? ⟨gb185, 7, none⟩ = some (.int .u32 0) := (blk_cell BK185.out 7).trans rfl; have hcz24_8 : w23.cell? ⟨gb185, 8, none⟩ = some (.int .u32 0) := (blk_cell BK185.out 8).trans rfl; have hcz24_9 : w23.cell? ⟨gb185, 9, none⟩ = some (.string (⟨#[]⟩ : ByteArray)) := (blk_cell BK185.out 9).trans rfl; have hfz24_0 := blk_frozen BK185.out 0; have hfz24_1 := blk_frozen BK185.out 1; have hfz24_2 := blk_frozen BK185.out 2; have hfz24_3 := blk_frozen BK185.out 3; have hfz24_4 := blk_frozen BK185.out 4; have hfz24_5 := blk_frozen BK185.out 5; have hfz24_6 := blk_frozen BK185.out 6; have hfz24_7 := blk_frozen BK185.out 7; have hfz24_8 := blk_frozen BK185.out 8; have hfz24_9 := blk_frozen BK185.out 9) | (go_at_call 15; (with_reducible refine (rampartlaw03_awake.calls kj8  t186 _ A20.out (by first | rfl | exact HR.out)).mono ?_); rintro e w25 ⟨rfl, hb⟩; have n0_ := Aside0.mk (blk_below (g := gb185) (o := .cells #[.int .i64 t173, .int .i64 t174, .bool t175, .bool t176, .int .i64 t177, .int .i64 t178, .int .i64 t179, .int .u32 t180, .int .u32 t181, .string t182] 24 (0, 0)) (by (with_reducible repeat (first | refine blk_drewN ?_ _ | refine blk_drew ?_ | refine blk_alloc ?_ _)); refine blk_put (cs := #[.int .i64 t173, .int .i64 t174, .bool t175, .bool t176, .int .i64 t177, .int .i64 t178, .int .i64 t179, .int .u32 t180, .int .u32 t181, .string (⟨#[]⟩ : ByteArray)]) ?_ 9 _ rfl; (with_reducible repeat (first | refine blk_drewN ?_ _ | refine blk_drew ?_ | refine blk_alloc ?_ _)); refine blk_put (cs := #[.int .i64 t173, .int .i64 t174, .bool t175, .bool t176, .int .i64 t177, .int .i64 t178, .int .i64 t179, .int .u32 t180, .int .u32 0, .string (⟨#[]⟩ : ByteArray)]) ?_ 8 _ rfl; (with_reducible repeat (first | refine blk_drewN ?_ _ | refine blk_drew ?_ | refine blk_alloc ?_ _)); refine blk_put (cs := #[.int .i64 t173, .int .i64 t174, .bool t175, .bool t176, .int .i64 t177, .int .i64 t178, .int .i64 t179, .int .u32 0, .int .u32 0, .string (⟨#[]⟩ : ByteArray)]) ?_ 7 _ rfl; (with_reducible repeat (first | refine blk_drewN ?_ _ | refine blk_drew ?_ | refine blk_alloc ?_ _)); refine blk_put (cs := #[.int .i64 t173, .int .i64 t174, .bool t175, .bool t176, .int .i64 t177, .int .i64 t178, .int .i64 0, .int .u32 0, .int .u32 0, .string (⟨#[]⟩ : ByteArray)]) ?_ 6 _ rfl; (with_reducible repeat (first | refine blk_drewN ?_ _ | refine blk_drew ?_ | refine blk_alloc ?_ _)); refine blk_put (cs := #[.int .i64 t173, .int .i64 t174, .bool t175, .bool t176, .int .i64 t177, .int .i64 0, .int .i64 0, .int .u32 0, .int .u32 0, .string (⟨#[]⟩ : ByteArray)]) ?_ 5 _ rfl; (with_reducible repeat (first | refine blk_drewN ?_ _ | refine blk_drew ?_ | refine blk_alloc ?_ _)); refine blk_put (cs := #[.int .i64 t173, .int .i64 t174, .bool t175, .bool t176, .int .i64 0, .int .i64 0, .int .i64 0, .int .u32 0, .int .u32 0, .string (⟨#[]⟩ : ByteArray)]) ?_ 4 _ rfl; (with_reducible repeat (first | refine blk_drewN ?_ _ | refine blk_drew ?_ | refine blk_alloc ?_ _)); refine blk_put (cs := #[.int .i64 t173, .int .i64 t174, .bool t175, .bool false, .int .i64 0, .int .i64 0, .int .i64 0, .int .u32 0, .int .u32 0, .string (⟨#[]⟩ : ByteArray)]) ?_ 3 _ rfl; (with_reducible repeat (first | refine blk_drewN ?_ _ | refine blk_drew ?_ | refine blk_alloc ?_ _)); refine blk_put (cs := #[.int .i64 t173, .int .i64 t174, .bool false, .bool false, .int .i64 0, .int .i64 0, .int .i64 0, .int .u32 0, .int .u32 0, .string (⟨#[]⟩ : ByteArray)]) ?_ 2 _ rfl; (with_reducible repeat (first | refine blk_drewN ?_ _ | refine blk_drew ?_ | refine blk_alloc ?_ _)); refine blk_put (cs := #[.int .i64 t173, .int .i64 0, .bool false, .bool false, .int .i64 0, .int .i64 0, .int .i64 0, .int .u32 0, .int .u32 0, .string (⟨#[]⟩ : ByteArray)]) ?_ 1 _ rfl; (with_reducible repeat (first | refine blk_drewN ?_ _ | refine blk_drew ?_ | refine blk_alloc ?_ _)); refine blk_put (cs := #[.int .i64 0, .int .i64 0, .bool false, .bool false, .int .i64 0, .int .i64 0, .int .i64 0, .int .u32 0, .int .u32 0, .string (⟨#[]⟩ : ByteArray)]) ?_ 0 _ rfl; (with_reducible repeat (first | refine blk_drewN ?_ _ | refine blk_drew ?_ | refine blk_alloc ?_ _)); exact BK185.out) hb); have n1_ := Aside0.mk (below_step (by repeat (first | (with_reducible first | exact HB.out | apply below_alloc | apply pw_below_drewN | apply below_drew1 | refine below_set ?_ GE185.out) | exact HB.out)) hb); clear BK185; clear HB; have BK185 := n0_; have HB := n1_; clear n0_ n1_; (try clear hb); (try clear hb2); (try clear hk); (try clear hi)))
           go_ret
           exact ⟨by first | rfl | (simp [errW_none, errW_some] <;> rfl) | (simp [*, errW_none, errW_some] <;> rfl), by repeat (first | (with_reducible first | exact HB.out | apply below_alloc | apply pw_below_drewN | apply below_drew1 | refine below_set ?_ GE185.out) | exact HB.out)⟩
          ·
           rw [if_neg c19] at H
           have c19b0 : (t178 == 0) = false := beq_eq_false_iff_ne.mpr c19
           have c19b1 : (t178 != 0) = true := bne_iff_ne.mpr c19
           exact absurd ((Option.some.inj H).trans HR.out) (by decide)
         ·
          rw [if_neg c18] at H
          have c18b0 : (t183.toList == ([] : List UInt8)) = false := beq_eq_false_iff_ne.mpr c18
          have c18b1 : (t183.toList != ([] : List UInt8)) = true := bne_iff_ne.mpr c18
          exact absurd ((Option.some.inj H).trans HR.out) (by decide)
        ·
         rw [if_neg c17] at H
         have c17b0 : (t184 == 3) = false := beq_eq_false_iff_ne.mpr c17
         have c17b1 : (t184 != 3) = true := bne_iff_ne.mpr c17
         exact absurd ((Option.some.inj H).trans HR.out) (by decide)
       ·
        rw [if_neg c14] at H
        have c14b0 : (t171 == 0) = false := beq_eq_false_iff_ne.mpr c14
        have c14b1 : (t171 != 0) = true := bne_iff_ne.mpr c14
        by_cases c26 : t171 = 1
        ·
         rw [if_pos c26] at H
         have c26b0 : (t171 == 1) = true := beq_iff_eq.mpr c26
         have c26b1 : (t171 != 1) = false := bne_eq_false_iff_eq.mpr c26
         clear c26
         replace H := Option.bind_eq_some_iff.mp H
         obtain ⟨t187, A270, H⟩ := H
         replace H : ((ipv4_Get.f kj8 t187).bind fun bt188 => (if bt188.2.2.2.2.2.2.2.2.2.2.2 = 3 then (if bt188.2.2.2.2.2.2.2.2.2.2.1.toList = ([] : List UInt8) then (if bt188.2.2.2.2.2.1 = 0 then ((rampartlaw03_awake.f kj8).bind fun t201 => (some t201)) else (some false)) else (some false)) else (some false))) = some r := H
         have A27 := Aside0.mk A270
         clear A270
         replace H := Option.bind_eq_some_iff.mp H
         obtain ⟨⟨t188, t189, t190, t191, t192, t193, t194, t195, t196, t197, t198, t199⟩, A280, H⟩ := H
         replace H : (if t199 = 3 then (if t198.toList = ([] : List UInt8) then (if t193 = 0 then ((rampartlaw03_awake.f kj8).bind fun t201 => (some t201)) else (some false)) else (some false)) else (some false)) = some r := H
         have A28 := Aside0.mk A280
         clear A280
         by_cases c29 : t199 = 3
         ·
          rw [if_pos c29] at H
          have c29b0 : (t199 == 3) = true := beq_iff_eq.mpr c29
          have c29b1 : (t199 != 3) = false := bne_eq_false_iff_eq.mpr c29
          clear c29
          by_cases c30 : t198.toList = ([] : List UInt8)
          ·
           rw [if_pos c30] at H
           have c30b0 : (t198.toList == ([] : List UInt8)) = true := beq_iff_eq.mpr c30
           have c30b1 : (t198.toList != ([] : List UInt8)) = false := bne_eq_false_iff_eq.mpr c30
           clear c30
           by_cases c31 : t193 = 0
           ·
            rw [if_pos c31] at H
            have c31b0 : (t193 == 0) = true := beq_iff_eq.mpr c31
            have c31b1 : (t193 != 0) = false := bne_eq_false_iff_eq.mpr c31
            clear c31
            replace H := Option.bind_eq_some_iff.mp H
            obtain ⟨t201, A320, H⟩ := H
            replace H : (some t201) = some r := H
            have A32 := Aside0.mk A320
            clear A320
            obtain rfl := Option.some.inj H
            have hconv8 := fun (s : ByteArray) (w : World) => Lib.run_convert_string_bytes (P := Try.prog) w 9 34 5 s Try.underlying9 Try.underlying34 Try.underlying5
            have ht_ : t171 = 1 := beq_iff_eq.mp c26b0
            have hix_ : ∀ w : World, (Instr.index 39 (.agg #[.int .i64 3, .int .i64 3, .int .i64 2, .int .i64 3, .int .i64 2, .int .i64 3, .int .i64 4]) (.int .i64 1)).run Try.prog w = .ok (.int .i64 3) w := fun w => by kernel_rfl
            go_wp2_with (first | ((with_reducible refine gate_dst (N := 39) rfl ?_); refine conv_event_c ?hg (N := 39) ?hd (s := t169) ?hr ?_; (case hd => rfl); (case hg => rfl); (case hr => first | (go_simp; done) | (go_simp; rfl)); intro g8 hg8 c8 hcc_ w8 hrow8 hb8; have BB := Aside0.mk hrow8; have BL := Aside0.mk hb8; have GG := Aside0.mk (show wc.heap.size ≤ g8 from Nat.le_of_eq hg8.symm); clear hrow8 hg8 hb8) | ((with_reducible refine gate_callee (f := 23) rfl ?_); refine goesL_ (some 41) rfl rfl Try.func23 (by kernel_rfl) rfl #[.int .i64 a0, .int .i64 7] rfl (by (try simp only [List.map_toArray, List.map_cons, List.map_nil]); first | done | rfl | (simp only [List.length_drop, List.length_take]; rfl)) ?_; (with_reducible refine (rampartlaw00_Place.calls a0 7 t171 _ A13.out).mono ?_); rintro e w' ⟨rfl, ⟨nd, rfl⟩⟩; refine ⟨_, rfl, ?_⟩; (try (rw [drewN_self wc]; generalize hq_ : World.drewN wc _ = wc; have n0_ : Aside0 (Below w.heap.size w wc) := ⟨by rw [← hq_]; exact (by repeat (first | (with_reducible first | exact HB.out | apply below_alloc | apply pw_below_drewN | apply below_drew1) | exact HB.out))⟩; clear HB hq_; have HB := n0_; clear n0_)); have B1_ := row8_drewN BB.out nd; have SB0 := set_bounds A27.out; have hc8_0 : (World.drewN w8 nd).cell? ⟨g8, 0, none⟩ = some (.int .u8 (bt t169 (0))) := row8_cell B1_ (i := 0) SB0.1 SB0.2; have hf8_0 : (World.drewN w8 nd).frozen? ⟨g8, 0, none⟩ = false := row8_frozen B1_ (i := 0) SB0.1 SB0.2; have TT0 := set_eq A27.out; have RB8_0 : Row8 ((World.drewN w8 nd).setCell ⟨g8, 0, none⟩ (.int .u8 (68))) g8 t187 := (by rw [TT0]; exact row8_set B1_ (i := 0) (v := 68) SB0.1 SB0.2 (by first | decide | exact (bits8_range _ _ _).1 | omega) (by first | decide | exact (bits8_range _ _ _).2 | omega)); have hz8_0 : t187.size = t169.size := (by rw [TT0, bset_size]); have RB8 := Aside0.mk RB8_0; clear B1_ RB8_0) | ((with_reducible refine gate_dst (N := 87) rfl ?_); refine back_row ?hg (N := 87) ?hd (g := g8) (n := t169.size) (s := t187) Try.underlying34 Try.underlying5 Try.underlying9 ?hrow ?hn ?hr ?_; (case hd => rfl); (case hg => rfl); (case hrow => exact RB8.out); (case hn => rw [hz8_0]); (case hr => intro hback; first | (go_simp; done) | (go_simp; rfl)); intro w33 hw8; have hb : Below wc.heap.size wc w33 := (by rw [hw8]; exact (below_set (j := 0) (v := .int .u8 (68)) (pw_below_drewN BL.out nd) GG.out)); clear hw8; have n0_ := Aside0.mk (below_step (by repeat (first | (with_reducible first | exact HB.out | apply below_alloc | apply pw_below_drewN | apply below_drew1) | exact HB.out)) hb); clear HB; have HB := n0_; clear n0_; (try clear hb); (try clear hb2); (try clear hk); (try clear hi)) | ((with_reducible refine gate_callee (f := 18) rfl ?_); refine goesL_ (some 88) rfl rfl Try.func18 (by kernel_rfl) rfl #[.string t187] rfl (by (try simp only [List.map_toArray, List.map_cons, List.map_nil]); first | done | rfl | (simp only [List.length_drop, List.length_take]; rfl)) ?_; (with_reducible refine (ipv4_Get.calls kj8 t187 t188 t189 t190 t191 t192 t193 t194 t195 t196 t197 t198 t199 _ A28.out).mono ?_); rintro e w34 ⟨rfl, hb⟩; refine ⟨_, rfl, ?_⟩; have n0_ := Aside0.mk (below_step (by repeat (first | (with_reducible first | exact HB.out | apply below_alloc | apply pw_below_drewN | apply below_drew1) | exact HB.out)) hb); clear HB; have HB := n0_; clear n0_; (try clear hb); (try clear hb2); (try clear hk); (try clear hi)) | ((with_reducible refine gate_dst (N := 10) rfl ?_); (try (refine gate_guard (by rfl) ?_; dsimp only)); refine box_event ?hg (N := 10) ?hd (cs := #[.int .i64 0, .int .i64 0, .bool false, .bool false, .int .i64 0, .int .i64 0, .int .i64 0, .int .u32 0, .int .u32 0, .string (⟨#[]⟩ : ByteArray)]) (t := 24) ?hr ?_; (case hd => rfl); (case hg => rfl); (case hr => first | (go_simp; done) | (go_simp; rfl)); intro gb200 hg w35 hbox hb; have n0_ := Aside0.mk (below_step (by repeat (first | (with_reducible first | exact HB.out | apply below_alloc | apply pw_below_drewN | apply below_drew1) | exact HB.out)) hb); have n1_ := Aside0.mk (hbox); have n2_ := Aside0.mk ((by rw [hg]; exact (below_size (by repeat (first | (with_reducible first | exact HB.out | apply below_alloc | apply pw_below_drewN | apply below_drew1) | exact HB.out))) : w.heap.size ≤ gb200)); have n3_ := Aside0.mk ((by rw [hg]; exact (below_size (by repeat (first | (with_reducible first | exact HB.out | apply below_alloc | apply pw_below_drewN | apply below_drew1) | exact HB.out))) : w.heap.size ≤ gb200)); clear HB; have HB := n0_; have BK200 := n1_; have GW200 := n2_; have GE200 := n3_; clear n0_ n1_ n2_ n3_; clear hb hbox hg; have hcz36_0 : w35.cell? ⟨gb200, 0, none⟩ = some (.int .i64 0) := (blk_cell BK200.out 0).trans rfl; have hcz36_1 : w35.cell? ⟨gb200, 1, none⟩ = some (.int .i64 0) := (blk_cell BK200.out 1).trans rfl; have hcz36_2 : w35.cell? ⟨gb200, 2, none⟩ = some (.bool false) := (blk_cell BK200.out 2).trans rfl; have hcz36_3 : w35.cell? ⟨gb200, 3, none⟩ = some (.bool false) := (blk_cell BK200.out 3).trans rfl; have hcz36_4 : w35.cell? ⟨gb200, 4, none⟩ = some (.int .i64 0) := (blk_cell BK200.out 4).trans rfl; have hcz36_5 : w35.cell? ⟨gb200, 5, none⟩ = some (.int .i64 0) := (blk_cell BK200.out 5).trans rfl; have hcz36_6 : w35.cell? ⟨gb200, 6, none⟩ = some (.int .i64 0) := (blk_cell BK200.out 6).trans rfl; have hcz36_7 : w35.cell? ⟨gb200, 7, none⟩ = some (.int .u32 0) := (blk_cell BK200.out 7).trans rfl; have hcz36_8 : w35.cell? ⟨gb200, 8, none⟩ = some (.int .u32 0) := (blk_cell BK200.out 8).trans rfl; have hcz36_9 : w35.cell? ⟨gb200, 9, none⟩ = some (.string (⟨#[]⟩ : ByteArray)) := (blk_cell BK200.out 9).trans rfl; have hfz36_0 := blk_frozen BK200.out 0; have hfz36_1 := blk_frozen BK200.out 1; have hfz36_2 := blk_frozen BK200.out 2; have hfz36_3 := blk_frozen BK200.out 3; have hfz36_4 := blk_frozen BK200.out 4; have hfz36_5 := blk_frozen BK200.out 5; have hfz36_6 := blk_frozen BK200.out 6; have hfz36_7 := blk_frozen BK200.out 7; have hfz36_8 := blk_frozen BK200.out 8; have hfz36_9 := blk_frozen BK200.out 9) | (go_at_call 15; (with_reducible refine (rampartlaw03_awake.calls kj8  t201 _ A32.out (by first | rfl | exact HR.out)).mono ?_); rintro e w37 ⟨rfl, hb⟩; have n0_ := Aside0.mk (blk_below (g := gb200) (o := .cells #[.int .i64 t188, .int .i64 t189, .bool t190, .bool t191, .int .i64 t192, .int .i64 t193, .int .i64 t194, .int .u32 t195, .int .u32 t196, .string t197] 24 (0, 0)) (by (with_reducible repeat (first | refine blk_drewN ?_ _ | refine blk_drew ?_ | refine blk_alloc ?_ _)); refine blk_put (cs := #[.int .i64 t188, .int .i64 t189, .bool t190, .bool t191, .int .i64 t192, .int .i64 t193, .int .i64 t194, .int .u32 t195, .int .u32 t196, .string (⟨#[]⟩ : ByteArray)]) ?_ 9 _ rfl; (with_reducible repeat (first | refine blk_drewN ?_ _ | refine blk_drew ?_ | refine blk_alloc ?_ _)); refine blk_put (cs := #[.int .i64 t188, .int .i64 t189, .bool t190, .bool t191, .int .i64 t192, .int .i64 t193, .int .i64 t194, .int .u32 t195, .int .u32 0, .string (⟨#[]⟩ : ByteArray)]) ?_ 8 _ rfl; (with_reducible repeat (first | refine blk_drewN ?_ _ | refine blk_drew ?_ | refine blk_alloc ?_ _)); refine blk_put (cs := #[.int .i64 t188, .int .i64 t189, .bool t190, .bool t191, .int .i64 t192, .int .i64 t193, .int .i64 t194, .int .u32 0, .int .u32 0, .string (⟨#[]⟩ : ByteArray)]) ?_ 7 _ rfl; (with_reducible repeat (first | refine blk_drewN ?_ _ | refine blk_drew ?_ | refine blk_alloc ?_ _)); refine blk_put (cs := #[.int .i64 t188, .int .i64 t189, .bool t190, .bool t191, .int .i64 t192, .int .i64 t193, .int .i64 0, .int .u32 0, .int .u32 0, .string (⟨#[]⟩ : ByteArray)]) ?_ 6 _ rfl; (with_reducible repeat (first | refine blk_drewN ?_ _ | refine blk_drew ?_ | refine blk_alloc ?_ _)); refine blk_put (cs := #[.int .i64 t188, .int .i64 t189, .bool t190, .bool t191, .int .i64 t192, .int .i64 0, .int .i64 0, .int .u32 0, .int .u32 0, .string (⟨#[]⟩ : ByteArray)]) ?_ 5 _ rfl; (with_reducible repeat (first | refine blk_drewN ?_ _ | refine blk_drew ?_ | refine blk_alloc ?_ _)); refine blk_put (cs := #[.int .i64 t188, .int .i64 t189, .bool t190, .bool t191, .int .i64 0, .int .i64 0, .int .i64 0, .int .u32 0, .int .u32 0, .string (⟨#[]⟩ : ByteArray)]) ?_ 4 _ rfl; (with_reducible repeat (first | refine blk_drewN ?_ _ | refine blk_drew ?_ | refine blk_alloc ?_ _)); refine blk_put (cs := #[.int .i64 t188, .int .i64 t189, .bool t190, .bool false, .int .i64 0, .int .i64 0, .int .i64 0, .int .u32 0, .int .u32 0, .string (⟨#[]⟩ : ByteArray)]) ?_ 3 _ rfl; (with_reducible repeat (first | refine blk_drewN ?_ _ | refine blk_drew ?_ | refine blk_alloc ?_ _)); refine blk_put (cs := #[.int .i64 t188, .int .i64 t189, .bool false, .bool false, .int .i64 0, .int .i64 0, .int .i64 0, .int .u32 0, .int .u32 0, .string (⟨#[]⟩ : ByteArray)]) ?_ 2 _ rfl; (with_reducible repeat (first | refine blk_drewN ?_ _ | refine blk_drew ?_ | refine blk_alloc ?_ _)); refine blk_put (cs := #[.int .i64 t188, .int .i64 0, .bool false, .bool false, .int .i64 0, .int .i64 0, .int .i64 0, .int .u32 0, .int .u32 0, .string (⟨#[]⟩ : ByteArray)]) ?_ 1 _ rfl; (with_reducible repeat (first | refine blk_drewN ?_ _ | refine blk_drew ?_ | refine blk_alloc ?_ _)); refine blk_put (cs := #[.int .i64 0, .int .i64 0, .bool false, .bool false, .int .i64 0, .int .i64 0, .int .i64 0, .int .u32 0, .int .u32 0, .string (⟨#[]⟩ : ByteArray)]) ?_ 0 _ rfl; (with_reducible repeat (first | refine blk_drewN ?_ _ | refine blk_drew ?_ | refine blk_alloc ?_ _)); exact BK200.out) hb); have n1_ := Aside0.mk (below_step (by repeat (first | (with_reducible first | exact HB.out | apply below_alloc | apply pw_below_drewN | apply below_drew1 | refine below_set ?_ GE200.out) | exact HB.out)) hb); clear BK200; clear HB; have BK200 := n0_; have HB := n1_; clear n0_ n1_; (try clear hb); (try clear hb2); (try clear hk); (try clear hi)))
            go_ret
            exact ⟨by first | rfl | (simp [errW_none, errW_some] <;> rfl) | (simp [*, errW_none, errW_some] <;> rfl), by repeat (first | (with_reducible first | exact HB.out | apply below_alloc | apply pw_below_drewN | apply below_drew1 | refine below_set ?_ GE200.out) | exact HB.out)⟩
           ·
            rw [if_neg c31] at H
            have c31b0 : (t193 == 0) = false := beq_eq_false_iff_ne.mpr c31
            have c31b1 : (t193 != 0) = true := bne_iff_ne.mpr c31
            exact absurd ((Option.some.inj H).trans HR.out) (by decide)
          ·
           rw [if_neg c30] at H
           have c30b0 : (t198.toList == ([] : List UInt8)) = false := beq_eq_false_iff_ne.mpr c30
           have c30b1 : (t198.toList != ([] : List UInt8)) = true := bne_iff_ne.mpr c30
           exact absurd ((Option.some.inj H).trans HR.out) (by decide)
         ·
          rw [if_neg c29] at H
          have c29b0 : (t199 == 3) = false := beq_eq_false_iff_ne.mpr c29
          have c29b1 : (t199 != 3) = true := bne_iff_ne.mpr c29
          exact absurd ((Option.some.inj H).trans HR.out) (by decide)
        ·
         rw [if_neg c26] at H
         have c26b0 : (t171 == 1) = false := beq_eq_false_iff_ne.mpr c26
         have c26b1 : (t171 != 1) = true := bne_iff_ne.mpr c26
         by_cases c38 : t171 = 2
         ·
          rw [if_pos c38] at H
          have c38b0 : (t171 == 2) = true := beq_iff_eq.mpr c38
          have c38b1 : (t171 != 2) = false := bne_eq_false_iff_eq.mpr c38
          clear c38
          by_cases c39 : 0 ≤ 22
          ·
           rw [if_pos c39] at H
           have c39b0 := eq_true c39
           have c39b1 : decide (0 ≤ 22) = true := decide_eq_true c39
           clear c39
           by_cases c40 : 22 ≤ (t169.size : Int)
           ·
            rw [if_pos c40] at H
            have c40b0 := eq_true c40
            have c40b1 : decide (22 ≤ (t169.size : Int)) = true := decide_eq_true c40
            clear c40
            replace H := Option.bind_eq_some_iff.mp H
            obtain ⟨⟨t202, t203, t204, t205, t206, t207, t208, t209, t210, t211, t212, t213⟩, A410, H⟩ := H
            replace H : (if t213 = 2 then (if t212.toList = ([] : List UInt8) then (if t207 = 0 then ((rampartlaw03_awake.f kj8).bind fun t215 => (some t215)) else (some false)) else (some false)) else (some false)) = some r := H
            have A41 := Aside0.mk A410
            clear A410
            by_cases c42 : t213 = 2
            ·
             rw [if_pos c42] at H
             have c42b0 : (t213 == 2) = true := beq_iff_eq.mpr c42
             have c42b1 : (t213 != 2) = false := bne_eq_false_iff_eq.mpr c42
             clear c42
             by_cases c43 : t212.toList = ([] : List UInt8)
             ·
              rw [if_pos c43] at H
              have c43b0 : (t212.toList == ([] : List UInt8)) = true := beq_iff_eq.mpr c43
              have c43b1 : (t212.toList != ([] : List UInt8)) = false := bne_eq_false_iff_eq.mpr c43
              clear c43
              by_cases c44 : t207 = 0
              ·
               rw [if_pos c44] at H
               have c44b0 : (t207 == 0) = true := beq_iff_eq.mpr c44
               have c44b1 : (t207 != 0) = false := bne_eq_false_iff_eq.mpr c44
               clear c44
               replace H := Option.bind_eq_some_iff.mp H
               obtain ⟨t215, A450, H⟩ := H
               replace H : (some t215) = some r := H
               have A45 := Aside0.mk A450
               clear A450
               obtain rfl := Option.some.inj H
               have hconv8 := fun (s : ByteArray) (w : World) => Lib.run_convert_string_bytes (P := Try.prog) w 9 34 5 s Try.underlying9 Try.underlying34 Try.underlying5
               have ht_ : t171 = 2 := beq_iff_eq.mp c38b0
               have hix_ : ∀ w : World, (Instr.index 39 (.agg #[.int .i64 3, .int .i64 3, .int .i64 2, .int .i64 3, .int .i64 2, .int .i64 3, .int .i64 4]) (.int .i64 2)).run Try.prog w = .ok (.int .i64 2) w := fun w => by kernel_rfl
               go_wp2_with (first | ((with_reducible refine gate_dst (N := 39) rfl ?_); refine conv_event_c ?hg (N := 39) ?hd (s := t169) ?hr ?_; (case hd => rfl); (case hg => rfl); (case hr => first | (go_simp; done) | (go_simp; rfl)); intro g8 hg8 c8 hcc_ w8 hrow8 hb8; have BB := Aside0.mk hrow8; have BL := Aside0.mk hb8; have GG := Aside0.mk (show wc.heap.size ≤ g8 from Nat.le_of_eq hg8.symm); clear hrow8 hg8 hb8) | ((with_reducible refine gate_callee (f := 23) rfl ?_); refine goesL_ (some 41) rfl rfl Try.func23 (by kernel_rfl) rfl #[.int .i64 a0, .int .i64 7] rfl (by (try simp only [List.map_toArray, List.map_cons, List.map_nil]); first | done | rfl | (simp only [List.length_drop, List.length_take]; rfl)) ?_; (with_reducible refine (rampartlaw00_Place.calls a0 7 t171 _ A13.out).mono ?_); rintro e w' ⟨rfl, ⟨nd, rfl⟩⟩; refine ⟨_, rfl, ?_⟩; (try (rw [drewN_self wc]; generalize hq_ : World.drewN wc _ = wc; have n0_ : Aside0 (Below w.heap.size w wc) := ⟨by rw [← hq_]; exact (by repeat (first | (with_reducible first | exact HB.out | apply below_alloc | apply pw_below_drewN | apply below_drew1) | exact HB.out))⟩; clear HB hq_; have HB := n0_; clear n0_)); have B1_ := row8_drewN BB.out nd; have RB8 := Aside0.mk B1_; have hz_ : (22 : Int) ≤ (t169.size : Int) := of_decide_eq_true (by first | (with_reducible assumption) | assumption); have hz8_ : 22 ≤ t169.size := (by omega); have hzi_ : ((22 : Int) ≤ (t169.size : Int)) = True := eq_true (by omega); have hzn_ : (22 ≤ t169.size) = True := eq_true hz8_; have hcn_ : (22 ≤ c8) = True := eq_true (by omega); have hci_ : ((22 : Int) ≤ (c8 : Int)) = True := eq_true (by omega); clear B1_) | ((with_reducible refine gate_dst (N := 87) rfl ?_); refine pre_row ?hg (N := 87) ?hd (g := g8) (n := 22) (s := t169) Try.underlying34 Try.underlying5 Try.underlying9 ?hrow ?hn ?hr ?_; (case hd => rfl); (case hg => rfl); (case hrow => exact RB8.out); (case hn => exact hz8_); (case hr => intro hback; first | (go_simp; done) | (go_simp; rfl)); intro w70 hw8; have hb : Below wc.heap.size wc w70 := (by rw [hw8]; exact pw_below_drewN BL.out nd); clear hw8; have n0_ := Aside0.mk (below_step HB.out hb); clear HB; have HB := n0_; clear n0_ hb) | ((with_reducible refine gate_callee (f := 18) rfl ?_); refine goesL_ (some 88) rfl rfl Try.func18 (by kernel_rfl) rfl #[.string (t169.extract 0 22)] rfl (by (try simp only [List.map_toArray, List.map_cons, List.map_nil]); first | done | rfl | (simp only [List.length_drop, List.length_take]; rfl)) ?_; (with_reducible refine (ipv4_Get.calls kj8 (t169.extract 0 22) t202 t203 t204 t205 t206 t207 t208 t209 t210 t211 t212 t213 _ A41.out).mono ?_); rintro e w46 ⟨rfl, hb⟩; refine ⟨_, rfl, ?_⟩; have n0_ := Aside0.mk (below_step (by repeat (first | (with_reducible first | exact HB.out | apply below_alloc | apply pw_below_drewN | apply below_drew1) | exact HB.out)) hb); clear HB; have HB := n0_; clear n0_; (try clear hb); (try clear hb2); (try clear hk); (try clear hi)) | ((with_reducible refine gate_dst (N := 10) rfl ?_); (try (refine gate_guard (by rfl) ?_; dsimp only)); refine box_event ?hg (N := 10) ?hd (cs := #[.int .i64 0, .int .i64 0, .bool false, .bool false, .int .i64 0, .int .i64 0, .int .i64 0, .int .u32 0, .int .u32 0, .string (⟨#[]⟩ : ByteArray)]) (t := 24) ?hr ?_; (case hd => rfl); (case hg => rfl); (case hr => first | (go_simp; done) | (go_simp; rfl)); intro gb214 hg w47 hbox hb; have n0_ := Aside0.mk (below_step (by repeat (first | (with_reducible first | exact HB.out | apply below_alloc | apply pw_below_drewN | apply below_drew1) | exact HB.out)) hb); have n1_ := Aside0.mk (hbox); have n2_ := Aside0.mk ((by rw [hg]; exact (below_size (by repeat (first | (with_reducible first | exact HB.out | apply below_alloc | apply pw_below_drewN | apply below_drew1) | exact HB.out))) : w.heap.size ≤ gb214)); have n3_ := Aside0.mk ((by rw [hg]; exact (below_size (by repeat (first | (with_reducible first | exact HB.out | apply below_alloc | apply pw_below_drewN | apply below_drew1) | exact HB.out))) : w.heap.size ≤ gb214)); clear HB; have HB := n0_; have BK214 := n1_; have GW214 := n2_; have GE214 := n3_; clear n0_ n1_ n2_ n3_; clear hb hbox hg; have hcz48_0 : w47.cell? ⟨gb214, 0, none⟩ = some (.int .i64 0) := (blk_cell BK214.out 0).trans rfl; have hcz48_1 : w47.cell? ⟨gb214, 1, none⟩ = some (.int .i64 0) := (blk_cell BK214.out 1).trans rfl; have hcz48_2 : w47.cell? ⟨gb214, 2, none⟩ = some (.bool false) := (blk_cell BK214.out 2).trans rfl; have hcz48_3 : w47.cell? ⟨gb214, 3, none⟩ = some (.bool false) := (blk_cell BK214.out 3).trans rfl; have hcz48_4 : w47.cell? ⟨gb214, 4, none⟩ = some (.int .i64 0) := (blk_cell BK214.out 4).trans rfl; have hcz48_5 : w47.cell? ⟨gb214, 5, none⟩ = some (.int .i64 0) := (blk_cell BK214.out 5).trans rfl; have hcz48_6 : w47.cell? ⟨gb214, 6, none⟩ = some (.int .i64 0) := (blk_cell BK214.out 6).trans rfl; have hcz48_7 : w47.cell? ⟨gb214, 7, none⟩ = some (.int .u32 0) := (blk_cell BK214.out 7).trans rfl; have hcz48_8 : w47.cell? ⟨gb214, 8, none⟩ = some (.int .u32 0) := (blk_cell BK214.out 8).trans rfl; have hcz48_9 : w47.cell? ⟨gb214, 9, none⟩ = some (.string (⟨#[]⟩ : ByteArray)) := (blk_cell BK214.out 9).trans rfl; have hfz48_0 := blk_frozen BK214.out 0; have hfz48_1 := blk_frozen BK214.out 1; have hfz48_2 := blk_frozen BK214.out 2; have hfz48_3 := blk_frozen BK214.out 3; have hfz48_4 := blk_frozen BK214.out 4; have hfz48_5 := blk_frozen BK214.out 5; have hfz48_6 := blk_frozen BK214.out 6; have hfz48_7 := blk_frozen BK214.out 7; have hfz48_8 := blk_frozen BK214.out 8; have hfz48_9 := blk_frozen BK214.out 9) | (go_at_call 15; (with_reducible refine (rampartlaw03_awake.calls kj8  t215 _ A45.out (by first | rfl | exact HR.out)).mono ?_); rintro e w49 ⟨rfl, hb⟩; have n0_ := Aside0.mk (blk_below (g := gb214) (o := .cells #[.int .i64 t202, .int .i64 t203, .bool t204, .bool t205, .int .i64 t206, .int .i64 t207, .int .i64 t208, .int .u32 t209, .int .u32 t210, .string t211] 24 (0, 0)) (by (with_reducible repeat (first | refine blk_drewN ?_ _ | refine blk_drew ?_ | refine blk_alloc ?_ _)); refine blk_put (cs := #[.int .i64 t202, .int .i64 t203, .bool t204, .bool t205, .int .i64 t206, .int .i64 t207, .int .i64 t208, .int .u32 t209, .int .u32 t210, .string (⟨#[]⟩ : ByteArray)]) ?_ 9 _ rfl; (with_reducible repeat (first | refine blk_drewN ?_ _ | refine blk_drew ?_ | refine blk_alloc ?_ _)); refine blk_put (cs := #[.int .i64 t202, .int .i64 t203, .bool t204, .bool t205, .int .i64 t206, .int .i64 t207, .int .i64 t208, .int .u32 t209, .int .u32 0, .string (⟨#[]⟩ : ByteArray)]) ?_ 8 _ rfl; (with_reducible repeat (first | refine blk_drewN ?_ _ | refine blk_drew ?_ | refine blk_alloc ?_ _)); refine blk_put (cs := #[.int .i64 t202, .int .i64 t203, .bool t204, .bool t205, .int .i64 t206, .int .i64 t207, .int .i64 t208, .int .u32 0, .int .u32 0, .string (⟨#[]⟩ : ByteArray)]) ?_ 7 _ rfl; (with_reducible repeat (first | refine blk_drewN ?_ _ | refine blk_drew ?_ | refine blk_alloc ?_ _)); refine blk_put (cs := #[.int .i64 t202, .int .i64 t203, .bool t204, .bool t205, .int .i64 t206, .int .i64 t207, .int .i64 0, .int .u32 0, .int .u32 0, .string (⟨#[]⟩ : ByteArray)]) ?_ 6 _ rfl; (with_reducible repeat (first | refine blk_drewN ?_ _ | refine blk_drew ?_ | refine blk_alloc ?_ _)); refine blk_put (cs := #[.int .i64 t202, .int .i64 t203, .bool t204, .bool t205, .int .i64 t206, .int .i64 0, .int .i64 0, .int .u32 0, .int .u32 0, .string (⟨#[]⟩ : ByteArray)]) ?_ 5 _ rfl; (with_reducible repeat (first | refine blk_drewN ?_ _ | refine blk_drew ?_ | refine blk_alloc ?_ _)); refine blk_put (cs := #[.int .i64 t202, .int .i64 t203, .bool t204, .bool t205, .int .i64 0, .int .i64 0, .int .i64 0, .int .u32 0, .int .u32 0, .string (⟨#[]⟩ : ByteArray)]) ?_ 4 _ rfl; (with_reducible repeat (first | refine blk_drewN ?_ _ | refine blk_drew ?_ | refine blk_alloc ?_ _)); refine blk_put (cs := #[.int .i64 t202, .int .i64 t203, .bool t204, .bool false, .int .i64 0, .int .i64 0, .int .i64 0, .int .u32 0, .int .u32 0, .string (⟨#[]⟩ : ByteArray)]) ?_ 3 _ rfl; (with_reducible repeat (first | refine blk_drewN ?_ _ | refine blk_drew ?_ | refine blk_alloc ?_ _)); refine blk_put (cs := #[.int .i64 t202, .int .i64 t203, .bool false, .bool false, .int .i64 0, .int .i64 0, .int .i64 0, .int .u32 0, .int .u32 0, .string (⟨#[]⟩ : ByteArray)]) ?_ 2 _ rfl; (with_reducible repeat (first | refine blk_drewN ?_ _ | refine blk_drew ?_ | refine blk_alloc ?_ _)); refine blk_put (cs := #[.int .i64 t202, .int .i64 0, .bool false, .bool false, .int .i64 0, .int .i64 0, .int .i64 0, .int .u32 0, .int .u32 0, .string (⟨#[]⟩ : ByteArray)]) ?_ 1 _ rfl; (with_reducible repeat (first | refine blk_drewN ?_ _ | refine blk_drew ?_ | refine blk_alloc ?_ _)); refine blk_put (cs := #[.int .i64 0, .int .i64 0, .bool false, .bool false, .int .i64 0, .int .i64 0, .int .i64 0, .int .u32 0, .int .u32 0, .string (⟨#[]⟩ : ByteArray)]) ?_ 0 _ rfl; (with_reducible repeat (first | refine blk_drewN ?_ _ | refine blk_drew ?_ | refine blk_alloc ?_ _)); exact BK214.out) hb); have n1_ := Aside0.mk (below_step (by repeat (first | (with_reducible first | exact HB.out | apply below_alloc | apply pw_below_drewN | apply below_drew1 | refine below_set ?_ GE214.out) | exact HB.out)) hb); clear BK214; clear HB; have BK214 := n0_; have HB := n1_; clear n0_ n1_; (try clear hb); (try clear hb2); (try clear hk); (try clear hi)))
               go_ret
               exact ⟨by first | rfl | (simp [errW_none, errW_some] <;> rfl) | (simp [*, errW_none, errW_some] <;> rfl), by repeat (first | (with_reducible first | exact HB.out | apply below_alloc | apply pw_below_drewN | apply below_drew1 | refine below_set ?_ GE214.out) | exact HB.out)⟩
              ·
               rw [if_neg c44] at H
               have c44b0 : (t207 == 0) = false := beq_eq_false_iff_ne.mpr c44
               have c44b1 : (t207 != 0) = true := bne_iff_ne.mpr c44
               exact absurd ((Option.some.inj H).trans HR.out) (by decide)
             ·
              rw [if_neg c43] at H
              have c43b0 : (t212.toList == ([] : List UInt8)) = false := beq_eq_false_iff_ne.mpr c43
              have c43b1 : (t212.toList != ([] : List UInt8)) = true := bne_iff_ne.mpr c43
              exact absurd ((Option.some.inj H).trans HR.out) (by decide)
            ·
             rw [if_neg c42] at H
             have c42b0 : (t213 == 2) = false := beq_eq_false_iff_ne.mpr c42
             have c42b1 : (t213 != 2) = true := bne_iff_ne.mpr c42
             exact absurd ((Option.some.inj H).trans HR.out) (by decide)
           ·
            rw [if_neg c40] at H
            exact absurd H (by simp)
          ·
           rw [if_neg c39] at H
           exact absurd H (by simp)
         ·
          rw [if_neg c38] at H
          have c38b0 : (t171 == 2) = false := beq_eq_false_iff_ne.mpr c38
          have c38b1 : (t171 != 2) = true := bne_iff_ne.mpr c38
          by_cases c50 : t171 = 3
          ·
           rw [if_pos c50] at H
           have c50b0 : (t171 == 3) = true := beq_iff_eq.mpr c50
           have c50b1 : (t171 != 3) = false := bne_eq_false_iff_eq.mpr c50
           clear c50
           replace H := Option.bind_eq_some_iff.mp H
           obtain ⟨t216, A510, H⟩ := H
           replace H : ((gosem_cut_init.f t216 3 23).bind fun t217 => ((ipv4_Get.f kj8 t217).bind fun bt218 => (if bt218.2.2.2.2.2.2.2.2.2.2.2 = 3 then (if bt218.2.2.2.2.2.2.2.2.2.2.1.toList = ([] : List UInt8) then (if bt218.2.2.2.2.2.1 = 0 then ((rampartlaw03_awake.f kj8).bind fun t231 => (some t231)) else (some false)) else (some false)) else (some false)))) = some r := H
           have A51 := Aside0.mk A510
           clear A510
           replace H := Option.bind_eq_some_iff.mp H
           obtain ⟨t217, A520, H⟩ := H
           replace H : ((ipv4_Get.f kj8 t217).bind fun bt218 => (if bt218.2.2.2.2.2.2.2.2.2.2.2 = 3 then (if bt218.2.2.2.2.2.2.2.2.2.2.1.toList = ([] : List UInt8) then (if bt218.2.2.2.2.2.1 = 0 then ((rampartlaw03_awake.f kj8).bind fun t231 => (some t231)) else (some false)) else (some false)) else (some false))) = some r := H
           have A52 := Aside0.mk A520
           clear A520
           replace H := Option.bind_eq_some_iff.mp H
           obtain ⟨⟨t218, t219, t220, t221, t222, t223, t224, t225, t226, t227, t228, t229⟩, A530, H⟩ := H
           replace H : (if t229 = 3 then (if t228.toList = ([] : List UInt8) then (if t223 = 0 then ((rampartlaw03_awake.f kj8).bind fun t231 => (some t231)) else (some false)) else (some false)) else (some false)) = some r := H
           have A53 := Aside0.mk A530
           clear A530
           by_cases c54 : t229 = 3
           ·
            rw [if_pos c54] at H
            have c54b0 : (t229 == 3) = true := beq_iff_eq.mpr c54
            have c54b1 : (t229 != 3) = false := bne_eq_false_iff_eq.mpr c54
            clear c54
            by_cases c55 : t228.toList = ([] : List UInt8)
            ·
             rw [if_pos c55] at H
             have c55b0 : (t228.toList == ([] : List UInt8)) = true := beq_iff_eq.mpr c55
             have c55b1 : (t228.toList != ([] : List UInt8)) = false := bne_eq_false_iff_eq.mpr c55
             clear c55
             by_cases c56 : t223 = 0
             ·
              rw [if_pos c56] at H
              have c56b0 : (t223 == 0) = true := beq_iff_eq.mpr c56
              have c56b1 : (t223 != 0) = false := bne_eq_false_iff_eq.mpr c56
              clear c56
              replace H := Option.bind_eq_some_iff.mp H
              obtain ⟨t231, A570, H⟩ := H
              replace H : (some t231) = some r := H
              have A57 := Aside0.mk A570
              clear A570
              obtain rfl := Option.some.inj H
              have hconv8 := fun (s : ByteArray) (w : World) => Lib.run_convert_string_bytes (P := Try.prog) w 9 34 5 s Try.underlying9 Try.underlying34 Try.underlying5
              have ht_ : t171 = 3 := beq_iff_eq.mp c50b0
              have hix_ : ∀ w : World, (Instr.index 39 (.agg #[.int .i64 3, .int .i64 3, .int .i64 2, .int .i64 3, .int .i64 2, .int .i64 3, .int .i64 4]) (.int .i64 3)).run Try.prog w = .ok (.int .i64 3) w := fun w => by kernel_rfl
              go_wp2_with (first | ((with_reducible refine gate_dst (N := 39) rfl ?_); refine conv_event_c ?hg (N := 39) ?hd (s := t169) ?hr ?_; (case hd => rfl); (case hg => rfl); (case hr => first | (go_simp; done) | (go_simp; rfl)); intro g8 hg8 c8 hcc_ w8 hrow8 hb8; have BB := Aside0.mk hrow8; have BL := Aside0.mk hb8; have GG := Aside0.mk (show wc.heap.size ≤ g8 from Nat.le_of_eq hg8.symm); clear hrow8 hg8 hb8) | ((with_reducible refine gate_callee (f := 23) rfl ?_); refine goesL_ (some 41) rfl rfl Try.func23 (by kernel_rfl) rfl #[.int .i64 a0, .int .i64 7] rfl (by (try simp only [List.map_toArray, List.map_cons, List.map_nil]); first | done | rfl | (simp only [List.length_drop, List.length_take]; rfl)) ?_; (with_reducible refine (rampartlaw00_Place.calls a0 7 t171 _ A13.out).mono ?_); rintro e w' ⟨rfl, ⟨nd, rfl⟩⟩; refine ⟨_, rfl, ?_⟩; (try (rw [drewN_self wc]; generalize hq_ : World.drewN wc _ = wc; have n0_ : Aside0 (Below w.heap.size w wc) := ⟨by rw [← hq_]; exact (by repeat (first | (with_reducible first | exact HB.out | apply below_alloc | apply pw_below_drewN | apply below_drew1) | exact HB.out))⟩; clear HB hq_; have HB := n0_; clear n0_)); have B1_ := row8_drewN BB.out nd; have SB0 := set_bounds A51.out; have hc8_0 : (World.drewN w8 nd).cell? ⟨g8, 2, none⟩ = some (.int .u8 (bt t169 (2))) := row8_cell B1_ (i := 2) SB0.1 SB0.2; have hf8_0 : (World.drewN w8 nd).frozen? ⟨g8, 2, none⟩ = false := row8_frozen B1_ (i := 2) SB0.1 SB0.2; have TT0 := set_eq A51.out; have RB8_0 : Row8 ((World.drewN w8 nd).setCell ⟨g8, 2, none⟩ (.int .u8 (0))) g8 t216 := (by rw [TT0]; exact row8_set B1_ (i := 2) (v := 0) SB0.1 SB0.2 (by first | decide | exact (bits8_range _ _ _).1 | omega) (by first | decide | exact (bits8_range _ _ _).2 | omega)); have hz8_0 : t216.size = t169.size := (by rw [TT0, bset_size]); have SB1 := set_bounds A52.out; have hc8_1 : ((World.drewN w8 nd).setCell ⟨g8, 2, none⟩ (.int .u8 (0))).cell? ⟨g8, 3, none⟩ = some (.int .u8 (bt t216 (3))) := row8_cell RB8_0 (i := 3) SB1.1 SB1.2; have hf8_1 : ((World.drewN w8 nd).setCell ⟨g8, 2, none⟩ (.int .u8 (0))).frozen? ⟨g8, 3, none⟩ = false := row8_frozen RB8_0 (i := 3) SB1.1 SB1.2; have TT1 := set_eq A52.out; have RB8_1 : Row8 (((World.drewN w8 nd).setCell ⟨g8, 2, none⟩ (.int .u8 (0))).setCell ⟨g8, 3, none⟩ (.int .u8 (23))) g8 t217 := (by rw [TT1]; exact row8_set RB8_0 (i := 3) (v := 23) SB1.1 SB1.2 (by first | decide | exact (bits8_range _ _ _).1 | omega) (by first | decide | exact (bits8_range _ _ _).2 | omega)); have hz8_1 : t217.size = t216.size := (by rw [TT1, bset_size]); have RB8 := Aside0.mk RB8_1; clear B1_ RB8_0 RB8_1) | ((with_reducible refine gate_dst (N := 87) rfl ?_); refine back_row ?hg (N := 87) ?hd (g := g8) (n := t169.size) (s := t217) Try.underlying34 Try.underlying5 Try.underlying9 ?hrow ?hn ?hr ?_; (case hd => rfl); (case hg => rfl); (case hrow => exact RB8.out); (case hn => rw [hz8_1, hz8_0]); (case hr => intro hback; first | (go_simp; done) | (go_simp; rfl)); intro w59 hw8; have hb : Below wc.heap.size wc w59 := (by rw [hw8]; exact (below_set (j := 3) (v := .int .u8 (23)) (below_set (j := 2) (v := .int .u8 (0)) (pw_below_drewN BL.out nd) GG.out) GG.out)); clear hw8; have n0_ := Aside0.mk (below_step (by repeat (first | (with_reducible first | exact HB.out | apply below_alloc | apply pw_below_drewN | apply below_drew1) | exact HB.out)) hb); clear HB; have HB := n0_; clear n0_; (try clear hb); (try clear hb2); (try clear hk); (try clear hi)) | ((with_reducible refine gate_callee (f := 18) rfl ?_); refine goesL_ (some 88) rfl rfl Try.func18 (by kernel_rfl) rfl #[.string t217] rfl (by (try simp only [List.map_toArray, List.map_cons, List.map_nil]); first | done | rfl | (simp only [List.length_drop, List.length_take]; rfl)) ?_; (with_reducible refine (ipv4_Get.calls kj8 t217 t218 t219 t220 t221 t222 t223 t224 t225 t226 t227 t228 t229 _ A53.out).mono ?_); rintro e w60 ⟨rfl, hb⟩; refine ⟨_, rfl, ?_⟩; have n0_ := Aside0.mk (below_step (by repeat (first | (with_reducible first | exact HB.out | apply below_alloc | apply pw_below_drewN | apply below_drew1) | exact HB.out)) hb); clear HB; have HB := n0_; clear n0_; (try clear hb); (try clear hb2); (try clear hk); (try clear hi)) | ((with_reducible refine gate_dst (N := 10) rfl ?_); (try (refine gate_guard (by rfl) ?_; dsimp only)); refine box_event ?hg (N := 10) ?hd (cs := #[.int .i64 0, .int .i64 0, .bool false, .bool false, .int .i64 0, .int .i64 0, .int .i64 0, .int .u32 0, .int .u32 0, .string (⟨#[]⟩ : ByteArray)]) (t := 24) ?hr ?_; (case hd => rfl); (case hg => rfl); (case hr => first | (go_simp; done) | (go_simp; rfl)); intro gb230 hg w61 hbox hb; have n0_ := Aside0.mk (below_step (by repeat (first | (with_reducible first | exact HB.out | apply below_alloc | apply pw_below_drewN | apply below_drew1) | exact HB.out)) hb); have n1_ := Aside0.mk (hbox); have n2_ := Aside0.mk ((by rw [hg]; exact (below_size (by repeat (first | (with_reducible first | exact HB.out | apply below_alloc | apply pw_below_drewN | apply below_drew1) | exact HB.out))) : w.heap.size ≤ gb230)); have n3_ := Aside0.mk ((by rw [hg]; exact (below_size (by repeat (first | (with_reducible first | exact HB.out | apply below_alloc | apply pw_below_drewN | apply below_drew1) | exact HB.out))) : w.heap.size ≤ gb230)); clear HB; have HB := n0_; have BK230 := n1_; have GW230 := n2_; have GE230 := n3_; clear n0_ n1_ n2_ n3_; clear hb hbox hg; have hcz62_0 : w61.cell? ⟨gb230, 0, none⟩ = some (.int .i64 0) := (blk_cell BK230.out 0).trans rfl; have hcz62_1 : w61.cell? ⟨gb230, 1, none⟩ = some (.int .i64 0) := (blk_cell BK230.out 1).trans rfl; have hcz62_2 : w61.cell? ⟨gb230, 2, none⟩ = some (.bool false) := (blk_cell BK230.out 2).trans rfl; have hcz62_3 : w61.cell? ⟨gb230, 3, none⟩ = some (.bool false) := (blk_cell BK230.out 3).trans rfl; have hcz62_4 : w61.cell? ⟨gb230, 4, none⟩ = some (.int .i64 0) := (blk_cell BK230.out 4).trans rfl; have hcz62_5 : w61.cell? ⟨gb230, 5, none⟩ = some (.int .i64 0) := (blk_cell BK230.out 5).trans rfl; have hcz62_6 : w61.cell? ⟨gb230, 6, none⟩ = some (.int .i64 0) := (blk_cell BK230.out 6).trans rfl; have hcz62_7 : w61.cell? ⟨gb230, 7, none⟩ = some (.int .u32 0) := (blk_cell BK230.out 7).trans rfl; have hcz62_8 : w61.cell? ⟨gb230, 8, none⟩ = some (.int .u32 0) := (blk_cell BK230.out 8).trans rfl; have hcz62_9 : w61.cell? ⟨gb230, 9, none⟩ = some (.string (⟨#[]⟩ : ByteArray)) := (blk_cell BK230.out 9).trans rfl; have hfz62_0 := blk_frozen BK230.out 0; have hfz62_1 := blk_frozen BK230.out 1; have hfz62_2 := blk_frozen BK230.out 2; have hfz62_3 := blk_frozen BK230.out 3; have hfz62_4 := blk_frozen BK230.out 4; have hfz62_5 := blk_frozen BK230.out 5; have hfz62_6 := blk_frozen BK230.out 6; have hfz62_7 := blk_frozen BK230.out 7; have hfz62_8 := blk_frozen BK230.out 8; have hfz62_9 := blk_frozen BK230.out 9) | (go_at_call 15; (with_reducible refine (rampartlaw03_awake.calls kj8  t231 _ A57.out (by first | rfl | exact HR.out)).mono ?_); rintro e w63 ⟨rfl, hb⟩; have n0_ := Aside0.mk (blk_below (g := gb230) (o := .cells #[.int .i64 t218, .int .i64 t219, .bool t220, .bool t221, .int .i64 t222, .int .i64 t223, .int .i64 t224, .int .u32 t225, .int .u32 t226, .string t227] 24 (0, 0)) (by (with_reducible repeat (first | refine blk_drewN ?_ _ | refine blk_drew ?_ | refine blk_alloc ?_ _)); refine blk_put (cs := #[.int .i64 t218, .int .i64 t219, .bool t220, .bool t221, .int .i64 t222, .int .i64 t223, .int .i64 t224, .int .u32 t225, .int .u32 t226, .string (⟨#[]⟩ : ByteArray)]) ?_ 9 _ rfl; (with_reducible repeat (first | refine blk_drewN ?_ _ | refine blk_drew ?_ | refine blk_alloc ?_ _)); refine blk_put (cs := #[.int .i64 t218, .int .i64 t219, .bool t220, .bool t221, .int .i64 t222, .int .i64 t223, .int .i64 t224, .int .u32 t225, .int .u32 0, .string (⟨#[]⟩ : ByteArray)]) ?_ 8 _ rfl; (with_reducible repeat (first | refine blk_drewN ?_ _ | refine blk_drew ?_ | refine blk_alloc ?_ _)); refine blk_put (cs := #[.int .i64 t218, .int .i64 t219, .bool t220, .bool t221, .int .i64 t222, .int .i64 t223, .int .i64 t224, .int .u32 0, .int .u32 0, .string (⟨#[]⟩ : ByteArray)]) ?_ 7 _ rfl; (with_reducible repeat (first | refine blk_drewN ?_ _ | refine blk_drew ?_ | refine blk_alloc ?_ _)); refine blk_put (cs := #[.int .i64 t218, .int .i64 t219, .bool t220, .bool t221, .int .i64 t222, .int .i64 t223, .int .i64 0, .int .u32 0, .int .u32 0, .string (⟨#[]⟩ : ByteArray)]) ?_ 6 _ rfl; (with_reducible repeat (first | refine blk_drewN ?_ _ | refine blk_drew ?_ | refine blk_alloc ?_ _)); refine blk_put (cs := #[.int .i64 t218, .int .i64 t219, .bool t220, .bool t221, .int .i64 t222, .int .i64 0, .int .i64 0, .int .u32 0, .int .u32 0, .string (⟨#[]⟩ : ByteArray)]) ?_ 5 _ rfl; (with_reducible repeat (first | refine blk_drewN ?_ _ | refine blk_drew ?_ | refine blk_alloc ?_ _)); refine blk_put (cs := #[.int .i64 t218, .int .i64 t219, .bool t220, .bool t221, .int .i64 0, .int .i64 0, .int .i64 0, .int .u32 0, .int .u32 0, .string (⟨#[]⟩ : ByteArray)]) ?_ 4 _ rfl; (with_reducible repeat (first | refine blk_drewN ?_ _ | refine blk_drew ?_ | refine blk_alloc ?_ _)); refine blk_put (cs := #[.int .i64 t218, .int .i64 t219, .bool t220, .bool false, .int .i64 0, .int .i64 0, .int .i64 0, .int .u32 0, .int .u32 0, .string (⟨#[]⟩ : ByteArray)]) ?_ 3 _ rfl; (with_reducible repeat (first | refine blk_drewN ?_ _ | refine blk_drew ?_ | refine blk_alloc ?_ _)); refine blk_put (cs := #[.int .i64 t218, .int .i64 t219, .bool false, .bool false, .int .i64 0, .int .i64 0, .int .i64 0, .int .u32 0, .int .u32 0, .string (⟨#[]⟩ : ByteArray)]) ?_ 2 _ rfl; (with_reducible repeat (first | refine blk_drewN ?_ _ | refine blk_drew ?_ | refine blk_alloc ?_ _)); refine blk_put (cs := #[.int .i64 t218, .int .i64 0, .bool false, .bool false, .int .i64 0, .int .i64 0, .int .i64 0, .int .u32 0, .int .u32 0, .string (⟨#[]⟩ : ByteArray)]) ?_ 1 _ rfl; (with_reducible repeat (first | refine blk_drewN ?_ _ | refine blk_drew ?_ | refine blk_alloc ?_ _)); refine blk_put (cs := #[.int .i64 0, .int .i64 0, .bool false, .bool false, .int .i64 0, .int .i64 0, .int .i64 0, .int .u32 0, .int .u32 0, .string (⟨#[]⟩ : ByteArray)]) ?_ 0 _ rfl; (with_reducible repeat (first | refine blk_drewN ?_ _ | refine blk_drew ?_ | refine blk_alloc ?_ _)); exact BK230.out) hb); have n1_ := Aside0.mk (below_step (by repeat (first | (with_reducible first | exact HB.out | apply below_alloc | apply pw_below_drewN | apply below_drew1 | refine below_set ?_ GE230.out) | exact HB.out)) hb); clear BK230; clear HB; have BK230 := n0_; have HB := n1_; clear n0_ n1_; (try clear hb); (try clear hb2); (try clear hk); (try clear hi)))
              go_ret
              exact ⟨by first | rfl | (simp [errW_none, errW_some] <;> rfl) | (simp [*, errW_none, errW_some] <;> rfl), by repeat (first | (with_reducible first | exact HB.out | apply below_alloc | apply pw_below_drewN | apply below_drew1 | refine below_set ?_ GE230.out) | exact HB.out)⟩
             ·
              rw [if_neg c56] at H
              have c56b0 : (t223 == 0) = false := beq_eq_false_iff_ne.mpr c56
              have c56b1 : (t223 != 0) = true := bne_iff_ne.mpr c56
              exact absurd ((Option.some.inj H).trans HR.out) (by decide)
            ·
             rw [if_neg c55] at H
             have c55b0 : (t228.toList == ([] : List UInt8)) = false := beq_eq_false_iff_ne.mpr c55
             have c55b1 : (t228.toList != ([] : List UInt8)) = true := bne_iff_ne.mpr c55
             exact absurd ((Option.some.inj H).trans HR.out) (by decide)
           ·
            rw [if_neg c54] at H
            have c54b0 : (t229 == 3) = false := beq_eq_false_iff_ne.mpr c54
            have c54b1 : (t229 != 3) = true := bne_iff_ne.mpr c54
            exact absurd ((Option.some.inj H).trans HR.out) (by decide)
          ·
           rw [if_neg c50] at H
           have c50b0 : (t171 == 3) = false := beq_eq_false_iff_ne.mpr c50
           have c50b1 : (t171 != 3) = true := bne_iff_ne.mpr c50
           by_cases c64 : t171 = 4
           ·
            rw [if_pos c64] at H
            have c64b0 : (t171 == 4) = true := beq_iff_eq.mpr c64
            have c64b1 : (t171 != 4) = false := bne_eq_false_iff_eq.mpr c64
            clear c64
            obtain ⟨ji65, hji65⟩ : ∃ j_ : Int, (wrap64 ((t169.size : Int) - 1)) = j_ := ⟨_, rfl⟩
            replace H : (if 0 ≤ (ji65) then (if (ji65) ≤ (t169.size : Int) then ((ipv4_Get.f kj8 (t169.extract 0 ((ji65) : Int).toNat)).bind fun bt232 => (if bt232.2.2.2.2.2.2.2.2.2.2.2 = 2 then (if bt232.2.2.2.2.2.2.2.2.2.2.1.toList = ([] : List UInt8) then (if bt232.2.2.2.2.2.1 = 0 then ((rampartlaw03_awake.f kj8).bind fun t245 => (some t245)) else (some false)) else (some false)) else (some false))) else (none)) else (none)) = some r := by first | (rw [hji65] at H; exact H) | (simp only [hji65] at H ⊢; exact H)
            (try rw [hji65] at A13)
            have hji65w : (IntKind.i64.wrap ((t169.size : Int) - 1)) = ji65 := (i64_w _).trans hji65
            by_cases c66 : 0 ≤ (ji65)
            ·
             rw [if_pos c66] at H
             have c66b0 := eq_true c66
             have c66b1 : decide (0 ≤ (ji65)) = true := decide_eq_true c66
             clear c66
             by_cases c67 : (ji65) ≤ (t169.size : Int)
             ·
              rw [if_pos c67] at H
              have c67b0 := eq_true c67
              have c67b1 : decide ((ji65) ≤ (t169.size : Int)) = true := decide_eq_true c67
              clear c67
              replace H := Option.bind_eq_some_iff.mp H
              obtain ⟨⟨t232, t233, t234, t235, t236, t237, t238, t239, t240, t241, t242, t243⟩, A680, H⟩ := H
              replace H : (if t243 = 2 then (if t242.toList = ([] : List UInt8) then (if t237 = 0 then ((rampartlaw03_awake.f kj8).bind fun t245 => (some t245)) else (some false)) else (some false)) else (some false)) = some r := H
              have A68 := Aside0.mk A680
              clear A680
              by_cases c69 : t243 = 2
              ·
               rw [if_pos c69] at H
               have c69b0 : (t243 == 2) = true := beq_iff_eq.mpr c69
               have c69b1 : (t243 != 2) = false := bne_eq_false_iff_eq.mpr c69
               clear c69
               by_cases c70 : t242.toList = ([] : List UInt8)
               ·
                rw [if_pos c70] at H
                have c70b0 : (t242.toList == ([] : List UInt8)) = true := beq_iff_eq.mpr c70
                have c70b1 : (t242.toList != ([] : List UInt8)) = false := bne_eq_false_iff_eq.mpr c70
                clear c70
                by_cases c71 : t237 = 0
                ·
                 rw [if_pos c71] at H
                 have c71b0 : (t237 == 0) = true := beq_iff_eq.mpr c71
                 have c71b1 : (t237 != 0) = false := bne_eq_false_iff_eq.mpr c71
                 clear c71
                 replace H := Option.bind_eq_some_iff.mp H
                 obtain ⟨t245, A720, H⟩ := H
                 replace H : (some t245) = some r := H
                 have A72 := Aside0.mk A720
                 clear A720
                 obtain rfl := Option.some.inj H
                 have hconv8 := fun (s : ByteArray) (w : World) => Lib.run_convert_string_bytes (P := Try.prog) w 9 34 5 s Try.underlying9 Try.underlying34 Try.underlying5
                 have ht_ : t171 = 4 := beq_iff_eq.mp c64b0
                 have hix_ : ∀ w : World, (Instr.index 39 (.agg #[.int .i64 3, .int .i64 3, .int .i64 2, .int .i64 3, .int .i64 2, .int .i64 3, .int .i64 4]) (.int .i64 4)).run Try.prog w = .ok (.int .i64 2) w := fun w => by kernel_rfl
                 go_wp2_with (first | ((with_reducible refine gate_dst (N := 39) rfl ?_); refine conv_event_c ?hg (N := 39) ?hd (s := t169) ?hr ?_; (case hd => rfl); (case hg => rfl); (case hr => first | (go_simp; done) | (go_simp; rfl)); intro g8 hg8 c8 hcc_ w8 hrow8 hb8; have BB := Aside0.mk hrow8; have BL := Aside0.mk hb8; have GG := Aside0.mk (show wc.heap.size ≤ g8 from Nat.le_of_eq hg8.symm); clear hrow8 hg8 hb8) | ((with_reducible refine gate_callee (f := 23) rfl ?_); refine goesL_ (some 41) rfl rfl Try.func23 (by kernel_rfl) rfl #[.int .i64 a0, .int .i64 7] rfl (by (try simp only [List.map_toArray, List.map_cons, List.map_nil]); first | done | rfl | (simp only [List.length_drop, List.length_take]; rfl)) ?_; (with_reducible refine (rampartlaw00_Place.calls a0 7 t171 _ A13.out).mono ?_); rintro e w' ⟨rfl, ⟨nd, rfl⟩⟩; refine ⟨_, rfl, ?_⟩; (try (rw [drewN_self wc]; generalize hq_ : World.drewN wc _ = wc; have n0_ : Aside0 (Below w.heap.size w wc) := ⟨by rw [← hq_]; exact (by repeat (first | (with_reducible first | exact HB.out | apply below_alloc | apply pw_below_drewN | apply below_drew1) | exact HB.out))⟩; clear HB hq_; have HB := n0_; clear n0_)); have B1_ := row8_drewN BB.out nd; have RB8 := Aside0.mk B1_; have hz_ : (ji65 : Int) ≤ (t169.size : Int) := of_decide_eq_true (by first | (with_reducible assumption) | assumption); have hz0_ : 0 ≤ (ji65 : Int) := of_decide_eq_true (by first | (with_reducible assumption) | assumption); have hz8_ : ((ji65) : Int).toNat ≤ t169.size := (by omega); have hzi_ : ((ji65 : Int) ≤ (t169.size : Int)) = True := eq_true (by omega); have hzn_ : (((ji65) : Int).toNat ≤ t169.size) = True := eq_true hz8_; have hcn_ : (((ji65) : Int).toNat ≤ c8) = True := eq_true (by omega); have hci_ : ((ji65 : Int) ≤ (c8 : Int)) = True := eq_true (by omega); clear B1_) | ((with_reducible refine gate_dst (N := 87) rfl ?_); refine pre_row ?hg (N := 87) ?hd (g := g8) (n := ((ji65) : Int).toNat) (s := t169) Try.underlying34 Try.underlying5 Try.underlying9 ?hrow ?hn ?hr ?_; (case hd => rfl); (case hg => rfl); (case hrow => exact RB8.out); (case hn => exact hz8_); (case hr => intro hback; first | (go_simp; done) | (go_simp; rfl)); intro w70 hw8; have hb : Below wc.heap.size wc w70 := (by rw [hw8]; exact pw_below_drewN BL.out nd); clear hw8; have n0_ := Aside0.mk (below_step HB.out hb); clear HB; have HB := n0_; clear n0_ hb) | ((with_reducible refine gate_callee (f := 18) rfl ?_); refine goesL_ (some 88) rfl rfl Try.func18 (by kernel_rfl) rfl #[.string (t169.extract 0 ((ji65) : Int).toNat)] rfl (by (try simp only [List.map_toArray, List.map_cons, List.map_nil]); first | done | (simp only [hji65]; rfl) | rfl | (simp only [List.length_drop, List.length_take]; rfl)) ?_; (with_reducible refine (ipv4_Get.calls kj8 (t169.extract 0 ((ji65) : Int).toNat) t232 t233 t234 t235 t236 t237 t238 t239 t240 t241 t242 t243 _ A68.out).mono ?_); rintro e w73 ⟨rfl, hb⟩; refine ⟨_, rfl, ?_⟩; have n0_ := Aside0.mk (below_step (by repeat (first | (with_reducible first | exact HB.out | apply below_alloc | apply pw_below_drewN | apply below_drew1) | exact HB.out)) hb); clear HB; have HB := n0_; clear n0_; (try clear hb); (try clear hb2); (try clear hk); (try clear hi)) | ((with_reducible refine gate_dst (N := 10) rfl ?_); (try (refine gate_guard (by rfl) ?_; dsimp only)); refine box_event ?hg (N := 10) ?hd (cs := #[.int .i64 0, .int .i64 0, .bool false, .bool false, .int .i64 0, .int .i64 0, .int .i64 0, .int .u32 0, .int .u32 0, .string (⟨#[]⟩ : ByteArray)]) (t := 24) ?hr ?_; (case hd => rfl); (case hg => rfl); (case hr => first | (go_simp; done) | (go_simp; rfl)); intro gb244 hg w74 hbox hb; have n0_ := Aside0.mk (below_step (by repeat (first | (with_reducible first | exact HB.out | apply below_alloc | apply pw_below_drewN | apply below_drew1) | exact HB.out)) hb); have n1_ := Aside0.mk (hbox); have n2_ := Aside0.mk ((by rw [hg]; exact (below_size (by repeat (first | (with_reducible first | exact HB.out | apply below_alloc | apply pw_below_drewN | apply below_drew1) | exact HB.out))) : w.heap.size ≤ gb244)); have n3_ := Aside0.mk ((by rw [hg]; exact (below_size (by repeat (first | (with_reducible first | exact HB.out | apply below_alloc | apply pw_below_drewN | apply below_drew1) | exact HB.out))) : w.heap.size ≤ gb244)); clear HB; have HB := n0_; have BK244 := n1_; have GW244 := n2_; have GE244 := n3_; clear n0_ n1_ n2_ n3_; clear hb hbox hg; have hcz75_0 : w74.cell? ⟨gb244, 0, none⟩ = some (.int .i64 0) := (blk_cell BK244.out 0).trans rfl; have hcz75_1 : w74.cell? ⟨gb244, 1, none⟩ = some (.int .i64 0) := (blk_cell BK244.out 1).trans rfl; have hcz75_2 : w74.cell? ⟨gb244, 2, none⟩ = some (.bool false) := (blk_cell BK244.out 2).trans rfl; have hcz75_3 : w74.cell? ⟨gb244, 3, none⟩ = some (.bool false) := (blk_cell BK244.out 3).trans rfl; have hcz75_4 : w74.cell? ⟨gb244, 4, none⟩ = some (.int .i64 0) := (blk_cell BK244.out 4).trans rfl; have hcz75_5 : w74.cell? ⟨gb244, 5, none⟩ = some (.int .i64 0) := (blk_cell BK244.out 5).trans rfl; have hcz75_6 : w74.cell? ⟨gb244, 6, none⟩ = some (.int .i64 0) := (blk_cell BK244.out 6).trans rfl; have hcz75_7 : w74.cell? ⟨gb244, 7, none⟩ = some (.int .u32 0) := (blk_cell BK244.out 7).trans rfl; have hcz75_8 : w74.cell? ⟨gb244, 8, none⟩ = some (.int .u32 0) := (blk_cell BK244.out 8).trans rfl; have hcz75_9 : w74.cell? ⟨gb244, 9, none⟩ = some (.string (⟨#[]⟩ : ByteArray)) := (blk_cell BK244.out 9).trans rfl; have hfz75_0 := blk_frozen BK244.out 0; have hfz75_1 := blk_frozen BK244.out 1; have hfz75_2 := blk_frozen BK244.out 2; have hfz75_3 := blk_frozen BK244.out 3; have hfz75_4 := blk_frozen BK244.out 4; have hfz75_5 := blk_frozen BK244.out 5; have hfz75_6 := blk_frozen BK244.out 6; have hfz75_7 := blk_frozen BK244.out 7; have hfz75_8 := blk_frozen BK244.out 8; have hfz75_9 := blk_frozen BK244.out 9) | (go_at_call 15; (with_reducible refine (rampartlaw03_awake.calls kj8  t245 _ A72.out (by first | rfl | exact HR.out)).mono ?_); rintro e w76 ⟨rfl, hb⟩; have n0_ := Aside0.mk (blk_below (g := gb244) (o := .cells #[.int .i64 t232, .int .i64 t233, .bool t234, .bool t235, .int .i64 t236, .int .i64 t237, .int .i64 t238, .int .u32 t239, .int .u32 t240, .string t241] 24 (0, 0)) (by (with_reducible repeat (first | refine blk_drewN ?_ _ | refine blk_drew ?_ | refine blk_alloc ?_ _)); refine blk_put (cs := #[.int .i64 t232, .int .i64 t233, .bool t234, .bool t235, .int .i64 t236, .int .i64 t237, .int .i64 t238, .int .u32 t239, .int .u32 t240, .string (⟨#[]⟩ : ByteArray)]) ?_ 9 _ rfl; (with_reducible repeat (first | refine blk_drewN ?_ _ | refine blk_drew ?_ | refine blk_alloc ?_ _)); refine blk_put (cs := #[.int .i64 t232, .int .i64 t233, .bool t234, .bool t235, .int .i64 t236, .int .i64 t237, .int .i64 t238, .int .u32 t239, .int .u32 0, .string (⟨#[]⟩ : ByteArray)]) ?_ 8 _ rfl; (with_reducible repeat (first | refine blk_drewN ?_ _ | refine blk_drew ?_ | refine blk_alloc ?_ _)); refine blk_put (cs := #[.int .i64 t232, .int .i64 t233, .bool t234, .bool t235, .int .i64 t236, .int .i64 t237, .int .i64 t238, .int .u32 0, .int .u32 0, .string (⟨#[]⟩ : ByteArray)]) ?_ 7 _ rfl; (with_reducible repeat (first | refine blk_drewN ?_ _ | refine blk_drew ?_ | refine blk_alloc ?_ _)); refine blk_put (cs := #[.int .i64 t232, .int .i64 t233, .bool t234, .bool t235, .int .i64 t236, .int .i64 t237, .int .i64 0, .int .u32 0, .int .u32 0, .string (⟨#[]⟩ : ByteArray)]) ?_ 6 _ rfl; (with_reducible repeat (first | refine blk_drewN ?_ _ | refine blk_drew ?_ | refine blk_alloc ?_ _)); refine blk_put (cs := #[.int .i64 t232, .int .i64 t233, .bool t234, .bool t235, .int .i64 t236, .int .i64 0, .int .i64 0, .int .u32 0, .int .u32 0, .string (⟨#[]⟩ : ByteArray)]) ?_ 5 _ rfl; (with_reducible repeat (first | refine blk_drewN ?_ _ | refine blk_drew ?_ | refine blk_alloc ?_ _)); refine blk_put (cs := #[.int .i64 t232, .int .i64 t233, .bool t234, .bool t235, .int .i64 0, .int .i64 0, .int .i64 0, .int .u32 0, .int .u32 0, .string (⟨#[]⟩ : ByteArray)]) ?_ 4 _ rfl; (with_reducible repeat (first | refine blk_drewN ?_ _ | refine blk_drew ?_ | refine blk_alloc ?_ _)); refine blk_put (cs := #[.int .i64 t232, .int .i64 t233, .bool t234, .bool false, .int .i64 0, .int .i64 0, .int .i64 0, .int .u32 0, .int .u32 0, .string (⟨#[]⟩ : ByteArray)]) ?_ 3 _ rfl; (with_reducible repeat (first | refine blk_drewN ?_ _ | refine blk_drew ?_ | refine blk_alloc ?_ _)); refine blk_put (cs := #[.int .i64 t232, .int .i64 t233, .bool false, .bool false, .int .i64 0, .int .i64 0, .int .i64 0, .int .u32 0, .int .u32 0, .string (⟨#[]⟩ : ByteArray)]) ?_ 2 _ rfl; (with_reducible repeat (first | refine blk_drewN ?_ _ | refine blk_drew ?_ | refine blk_alloc ?_ _)); refine blk_put (cs := #[.int .i64 t232, .int .i64 0, .bool false, .bool false, .int .i64 0, .int .i64 0, .int .i64 0, .int .u32 0, .int .u32 0, .string (⟨#[]⟩ : ByteArray)]) ?_ 1 _ rfl; (with_reducible repeat (first | refine blk_drewN ?_ _ | refine blk_drew ?_ | refine blk_alloc ?_ _)); refine blk_put (cs := #[.int .i64 0, .int .i64 0, .bool false, .bool false, .int .i64 0, .int .i64 0, .int .i64 0, .int .u32 0, .int .u32 0, .string (⟨#[]⟩ : ByteArray)]) ?_ 0 _ rfl; (with_reducible repeat (first | refine blk_drewN ?_ _ | refine blk_drew ?_ | refine blk_alloc ?_ _)); exact BK244.out) hb); have n1_ := Aside0.mk (below_step (by repeat (first | (with_reducible first | exact HB.out | apply below_alloc | apply pw_below_drewN | apply below_drew1 | refine below_set ?_ GE244.out) | exact HB.out)) hb); clear BK244; clear HB; have BK244 := n0_; have HB := n1_; clear n0_ n1_; (try clear hb); (try clear hb2); (try clear hk); (try clear hi)))
                 go_ret
                 exact ⟨by first | rfl | (simp [errW_none, errW_some] <;> rfl) | (simp only [← hji65]; first | rfl | (simp [errW_none, errW_some] <;> rfl)) | (simp [*, errW_none, errW_some] <;> rfl), by repeat (first | (with_reducible first | exact HB.out | apply below_alloc | apply pw_below_drewN | apply below_drew1 | refine below_set ?_ GE244.out) | exact HB.out)⟩
                ·
                 rw [if_neg c71] at H
                 have c71b0 : (t237 == 0) = false := beq_eq_false_iff_ne.mpr c71
                 have c71b1 : (t237 != 0) = true := bne_iff_ne.mpr c71
                 exact absurd ((Option.some.inj H).trans HR.out) (by decide)
               ·
                rw [if_neg c70] at H
                have c70b0 : (t242.toList == ([] : List UInt8)) = false := beq_eq_false_iff_ne.mpr c70
                have c70b1 : (t242.toList != ([] : List UInt8)) = true := bne_iff_ne.mpr c70
                exact absurd ((Option.some.inj H).trans HR.out) (by decide)
              ·
               rw [if_neg c69] at H
               have c69b0 : (t243 == 2) = false := beq_eq_false_iff_ne.mpr c69
               have c69b1 : (t243 != 2) = true := bne_iff_ne.mpr c69
               exact absurd ((Option.some.inj H).trans HR.out) (by decide)
             ·
              rw [if_neg c67] at H
              exact absurd H (by simp)
            ·
             rw [if_neg c66] at H
             exact absurd H (by simp)
           ·
            rw [if_neg c64] at H
            have c64b0 : (t171 == 4) = false := beq_eq_false_iff_ne.mpr c64
            have c64b1 : (t171 != 4) = true := bne_iff_ne.mpr c64
            by_cases c77 : t171 = 5
            ·
             rw [if_pos c77] at H
             have c77b0 : (t171 == 5) = true := beq_iff_eq.mpr c77
             have c77b1 : (t171 != 5) = false := bne_eq_false_iff_eq.mpr c77
             clear c77
             by_cases c78 : 6 < (t169.size : Int)
             ·
              rw [if_pos c78] at H
              have c78b0 : decide (6 < (t169.size : Int)) = true := decide_eq_true c78
              have c78b1 : decide (6 < t169.size) = true := decide_eq_true (by omega)
              clear c78
              replace H := Option.bind_eq_some_iff.mp H
              obtain ⟨t246, A800, H⟩ := H
              replace H : ((ipv4_Get.f kj8 t246).bind fun bt247 => (if bt247.2.2.2.2.2.2.2.2.2.2.2 = 3 then (if bt247.2.2.2.2.2.2.2.2.2.2.1.toList = ([] : List UInt8) then (if bt247.2.2.2.2.2.1 = 0 then ((rampartlaw03_awake.f kj8).bind fun t260 => (some t260)) else (some false)) else (some false)) else (some false))) = some r := H
              have A80 := Aside0.mk A800
              clear A800
              replace H := Option.bind_eq_some_iff.mp H
              obtain ⟨⟨t247, t248, t249, t250, t251, t252, t253, t254, t255, t256, t257, t258⟩, A810, H⟩ := H
              replace H : (if t258 = 3 then (if t257.toList = ([] : List UInt8) then (if t252 = 0 then ((rampartlaw03_awake.f kj8).bind fun t260 => (some t260)) else (some false)) else (some false)) else (some false)) = some r := H
              have A81 := Aside0.mk A810
              clear A810
              by_cases c82 : t258 = 3
              ·
               rw [if_pos c82] at H
               have c82b0 : (t258 == 3) = true := beq_iff_eq.mpr c82
               have c82b1 : (t258 != 3) = false := bne_eq_false_iff_eq.mpr c82
               clear c82
               by_cases c83 : t257.toList = ([] : List UInt8)
               ·
                rw [if_pos c83] at H
                have c83b0 : (t257.toList == ([] : List UInt8)) = true := beq_iff_eq.mpr c83
                have c83b1 : (t257.toList != ([] : List UInt8)) = false := bne_eq_false_iff_eq.mpr c83
                clear c83
                by_cases c84 : t252 = 0
                ·
                 rw [if_pos c84] at H
                 have c84b0 : (t252 == 0) = true := beq_iff_eq.mpr c84
                 have c84b1 : (t252 != 0) = false := bne_eq_false_iff_eq.mpr c84
                 clear c84
                 replace H := Option.bind_eq_some_iff.mp H
                 obtain ⟨t260, A850, H⟩ := H
                 replace H : (some t260) = some r := H
                 have A85 := Aside0.mk A850
                 clear A850
                 obtain rfl := Option.some.inj H
                 have hconv8 := fun (s : ByteArray) (w : World) => Lib.run_convert_string_bytes (P := Try.prog) w 9 34 5 s Try.underlying9 Try.underlying34 Try.underlying5
                 have ht_ : t171 = 5 := beq_iff_eq.mp c77b0
                 have hix_ : ∀ w : World, (Instr.index 39 (.agg #[.int .i64 3, .int .i64 3, .int .i64 2, .int .i64 3, .int .i64 2, .int .i64 3, .int .i64 4]) (.int .i64 5)).run Try.prog w = .ok (.int .i64 3) w := fun w => by kernel_rfl
                 go_wp2_with (first | ((with_reducible refine gate_dst (N := 39) rfl ?_); refine conv_event_c ?hg (N := 39) ?hd (s := t169) ?hr ?_; (case hd => rfl); (case hg => rfl); (case hr => first | (go_simp; done) | (go_simp; rfl)); intro g8 hg8 c8 hcc_ w8 hrow8 hb8; have BB := Aside0.mk hrow8; have BL := Aside0.mk hb8; have GG := Aside0.mk (show wc.heap.size ≤ g8 from Nat.le_of_eq hg8.symm); clear hrow8 hg8 hb8) | ((with_reducible refine gate_callee (f := 23) rfl ?_); refine goesL_ (some 41) rfl rfl Try.func23 (by kernel_rfl) rfl #[.int .i64 a0, .int .i64 7] rfl (by (try simp only [List.map_toArray, List.map_cons, List.map_nil]); first | done | rfl | (simp only [List.length_drop, List.length_take]; rfl)) ?_; (with_reducible refine (rampartlaw00_Place.calls a0 7 t171 _ A13.out).mono ?_); rintro e w' ⟨rfl, ⟨nd, rfl⟩⟩; refine ⟨_, rfl, ?_⟩; (try (rw [drewN_self wc]; generalize hq_ : World.drewN wc _ = wc; have n0_ : Aside0 (Below w.heap.size w wc) := ⟨by rw [← hq_]; exact (by repeat (first | (with_reducible first | exact HB.out | apply below_alloc | apply pw_below_drewN | apply below_drew1) | exact HB.out))⟩; clear HB hq_; have HB := n0_; clear n0_)); have p79 : 0 ≤ (6 : Int) := (by omega); have q79 : 6 < t169.size := (by have : (6 : Int) < (t169.size : Int) := of_decide_eq_true (by first | (with_reducible assumption) | assumption); omega); have hx79 : ∀ h : 6 < t169.size, ((t169[6]'h).toNat : Int) = bt t169 6 := bt_at t169 6; clear p79; have qi79 : (6 < (t169.size : Int)) = True := eq_true (of_decide_eq_true (by first | (with_reducible assumption) | assumption)); replace q79 := eq_true q79; have B1_ := row8_drewN BB.out nd; have SB0 := set_bounds A80.out; have hc8_0 : (World.drewN w8 nd).cell? ⟨g8, 6, none⟩ = some (.int .u8 (bt t169 (6))) := row8_cell B1_ (i := 6) SB0.1 SB0.2; have hf8_0 : (World.drewN w8 nd).frozen? ⟨g8, 6, none⟩ = false := row8_frozen B1_ (i := 6) SB0.1 SB0.2; have TT0 := set_eq A80.out; have RB8_0 : Row8 ((World.drewN w8 nd).setCell ⟨g8, 6, none⟩ (.int .u8 ((Go.bits .or .u8 (bt t169 6) 128)))) g8 t246 := (by rw [TT0]; exact row8_set B1_ (i := 6) (v := (Go.bits .or .u8 (bt t169 6) 128)) SB0.1 SB0.2 (by first | decide | exact (bits8_range _ _ _).1 | omega) (by first | decide | exact (bits8_range _ _ _).2 | omega)); have hz8_0 : t246.size = t169.size := (by rw [TT0, bset_size]); have RB8 := Aside0.mk RB8_0; clear B1_ RB8_0) | ((with_reducible refine gate_dst (N := 87) rfl ?_); refine back_row ?hg (N := 87) ?hd (g := g8) (n := t169.size) (s := t246) Try.underlying34 Try.underlying5 Try.underlying9 ?hrow ?hn ?hr ?_; (case hd => rfl); (case hg => rfl); (case hrow => exact RB8.out); (case hn => rw [hz8_0]); (case hr => intro hback; first | (go_simp; done) | (go_simp; rfl)); intro w86 hw8; have hb : Below wc.heap.size wc w86 := (by rw [hw8]; exact (below_set (j := 6) (v := .int .u8 ((Go.bits .or .u8 (bt t169 6) 128))) (pw_below_drewN BL.out nd) GG.out)); clear hw8; have n0_ := Aside0.mk (below_step (by repeat (first | (with_reducible first | exact HB.out | apply below_alloc | apply pw_below_drewN | apply below_drew1) | exact HB.out)) hb); clear HB; have HB := n0_; clear n0_; (try clear hb); (try clear hb2); (try clear hk); (try clear hi)) | ((with_reducible refine gate_callee (f := 18) rfl ?_); refine goesL_ (some 88) rfl rfl Try.func18 (by kernel_rfl) rfl #[.string t246] rfl (by (try simp only [List.map_toArray, List.map_cons, List.map_nil]); first | done | rfl | (simp only [List.length_drop, List.length_take]; rfl)) ?_; (with_reducible refine (ipv4_Get.calls kj8 t246 t247 t248 t249 t250 t251 t252 t253 t254 t255 t256 t257 t258 _ A81.out).mono ?_); rintro e w87 ⟨rfl, hb⟩; refine ⟨_, rfl, ?_⟩; have n0_ := Aside0.mk (below_step (by repeat (first | (with_reducible first | exact HB.out | apply below_alloc | apply pw_below_drewN | apply below_drew1) | exact HB.out)) hb); clear HB; have HB := n0_; clear n0_; (try clear hb); (try clear hb2); (try clear hk); (try clear hi)) | ((with_reducible refine gate_dst (N := 10) rfl ?_); (try (refine gate_guard (by rfl) ?_; dsimp only)); refine box_event ?hg (N := 10) ?hd (cs := #[.int .i64 0, .int .i64 0, .bool false, .bool false, .int .i64 0, .int .i64 0, .int .i64 0, .int .u32 0, .int .u32 0, .string (⟨#[]⟩ : ByteArray)]) (t := 24) ?hr ?_; (case hd => rfl); (case hg => rfl); (case hr => first | (go_simp; done) | (go_simp; rfl)); intro gb259 hg w88 hbox hb; have n0_ := Aside0.mk (below_step (by repeat (first | (with_reducible first | exact HB.out | apply below_alloc | apply pw_below_drewN | apply below_drew1) | exact HB.out)) hb); have n1_ := Aside0.mk (hbox); have n2_ := Aside0.mk ((by rw [hg]; exact (below_size (by repeat (first | (with_reducible first | exact HB.out | apply below_alloc | apply pw_below_drewN | apply below_drew1) | exact HB.out))) : w.heap.size ≤ gb259)); have n3_ := Aside0.mk ((by rw [hg]; exact (below_size (by repeat (first | (with_reducible first | exact HB.out | apply below_alloc | apply pw_below_drewN | apply below_drew1) | exact HB.out))) : w.heap.size ≤ gb259)); clear HB; have HB := n0_; have BK259 := n1_; have GW259 := n2_; have GE259 := n3_; clear n0_ n1_ n2_ n3_; clear hb hbox hg; have hcz89_0 : w88.cell? ⟨gb259, 0, none⟩ = some (.int .i64 0) := (blk_cell BK259.out 0).trans rfl; have hcz89_1 : w88.cell? ⟨gb259, 1, none⟩ = some (.int .i64 0) := (blk_cell BK259.out 1).trans rfl; have hcz89_2 : w88.cell? ⟨gb259, 2, none⟩ = some (.bool false) := (blk_cell BK259.out 2).trans rfl; have hcz89_3 : w88.cell? ⟨gb259, 3, none⟩ = some (.bool false) := (blk_cell BK259.out 3).trans rfl; have hcz89_4 : w88.cell? ⟨gb259, 4, none⟩ = some (.int .i64 0) := (blk_cell BK259.out 4).trans rfl; have hcz89_5 : w88.cell? ⟨gb259, 5, none⟩ = some (.int .i64 0) := (blk_cell BK259.out 5).trans rfl; have hcz89_6 : w88.cell? ⟨gb259, 6, none⟩ = some (.int .i64 0) := (blk_cell BK259.out 6).trans rfl; have hcz89_7 : w88.cell? ⟨gb259, 7, none⟩ = some (.int .u32 0) := (blk_cell BK259.out 7).trans rfl; have hcz89_8 : w88.cell? ⟨gb259, 8, none⟩ = some (.int .u32 0) := (blk_cell BK259.out 8).trans rfl; have hcz89_9 : w88.cell? ⟨gb259, 9, none⟩ = some (.string (⟨#[]⟩ : ByteArray)) := (blk_cell BK259.out 9).trans rfl; have hfz89_0 := blk_frozen BK259.out 0; have hfz89_1 := blk_frozen BK259.out 1; have hfz89_2 := blk_frozen BK259.out 2; have hfz89_3 := blk_frozen BK259.out 3; have hfz89_4 := blk_frozen BK259.out 4; have hfz89_5 := blk_frozen BK259.out 5; have hfz89_6 := blk_frozen BK259.out 6; have hfz89_7 := blk_frozen BK259.out 7; have hfz89_8 := blk_frozen BK259.out 8; have hfz89_9 := blk_frozen BK259.out 9) | (go_at_call 15; (with_reducible refine (rampartlaw03_awake.calls kj8  t260 _ A85.out (by first | rfl | exact HR.out)).mono ?_); rintro e w90 ⟨rfl, hb⟩; have n0_ := Aside0.mk (blk_below (g := gb259) (o := .cells #[.int .i64 t247, .int .i64 t248, .bool t249, .bool t250, .int .i64 t251, .int .i64 t252, .int .i64 t253, .int .u32 t254, .int .u32 t255, .string t256] 24 (0, 0)) (by (with_reducible repeat (first | refine blk_drewN ?_ _ | refine blk_drew ?_ | refine blk_alloc ?_ _)); refine blk_put (cs := #[.int .i64 t247, .int .i64 t248, .bool t249, .bool t250, .int .i64 t251, .int .i64 t252, .int .i64 t253, .int .u32 t254, .int .u32 t255, .string (⟨#[]⟩ : ByteArray)]) ?_ 9 _ rfl; (with_reducible repeat (first | refine blk_drewN ?_ _ | refine blk_drew ?_ | refine blk_alloc ?_ _)); refine blk_put (cs := #[.int .i64 t247, .int .i64 t248, .bool t249, .bool t250, .int .i64 t251, .int .i64 t252, .int .i64 t253, .int .u32 t254, .int .u32 0, .string (⟨#[]⟩ : ByteArray)]) ?_ 8 _ rfl; (with_reducible repeat (first | refine blk_drewN ?_ _ | refine blk_drew ?_ | refine blk_alloc ?_ _)); refine blk_put (cs := #[.int .i64 t247, .int .i64 t248, .bool t249, .bool t250, .int .i64 t251, .int .i64 t252, .int .i64 t253, .int .u32 0, .int .u32 0, .string (⟨#[]⟩ : ByteArray)]) ?_ 7 _ rfl; (with_reducible repeat (first | refine blk_drewN ?_ _ | refine blk_drew ?_ | refine blk_alloc ?_ _)); refine blk_put (cs := #[.int .i64 t247, .int .i64 t248, .bool t249, .bool t250, .int .i64 t251, .int .i64 t252, .int .i64 0, .int .u32 0, .int .u32 0, .string (⟨#[]⟩ : ByteArray)]) ?_ 6 _ rfl; (with_reducible repeat (first | refine blk_drewN ?_ _ | refine blk_drew ?_ | refine blk_alloc ?_ _)); refine blk_put (cs := #[.int .i64 t247, .int .i64 t248, .bool t249, .bool t250, .int .i64 t251, .int .i64 0, .int .i64 0, .int .u32 0, .int .u32 0, .string (⟨#[]⟩ : ByteArray)]) ?_ 5 _ rfl; (with_reducible repeat (first | refine blk_drewN ?_ _ | refine blk_drew ?_ | refine blk_alloc ?_ _)); refine blk_put (cs := #[.int .i64 t247, .int .i64 t248, .bool t249, .bool t250, .int .i64 0, .int .i64 0, .int .i64 0, .int .u32 0, .int .u32 0, .string (⟨#[]⟩ : ByteArray)]) ?_ 4 _ rfl; (with_reducible repeat (first | refine blk_drewN ?_ _ | refine blk_drew ?_ | refine blk_alloc ?_ _)); refine blk_put (cs := #[.int .i64 t247, .int .i64 t248, .bool t249, .bool false, .int .i64 0, .int .i64 0, .int .i64 0, .int .u32 0, .int .u32 0, .string (⟨#[]⟩ : ByteArray)]) ?_ 3 _ rfl; (with_reducible repeat (first | refine blk_drewN ?_ _ | refine blk_drew ?_ | refine blk_alloc ?_ _)); refine blk_put (cs := #[.int .i64 t247, .int .i64 t248, .bool false, .bool false, .int .i64 0, .int .i64 0, .int .i64 0, .int .u32 0, .int .u32 0, .string (⟨#[]⟩ : ByteArray)]) ?_ 2 _ rfl; (with_reducible repeat (first | refine blk_drewN ?_ _ | refine blk_drew ?_ | refine blk_alloc ?_ _)); refine blk_put (cs := #[.int .i64 t247, .int .i64 0, .bool false, .bool false, .int .i64 0, .int .i64 0, .int .i64 0, .int .u32 0, .int .u32 0, .string (⟨#[]⟩ : ByteArray)]) ?_ 1 _ rfl; (with_reducible repeat (first | refine blk_drewN ?_ _ | refine blk_drew ?_ | refine blk_alloc ?_ _)); refine blk_put (cs := #[.int .i64 0, .int .i64 0, .bool false, .bool false, .int .i64 0, .int .i64 0, .int .i64 0, .int .u32 0, .int .u32 0, .string (⟨#[]⟩ : ByteArray)]) ?_ 0 _ rfl; (with_reducible repeat (first | refine blk_drewN ?_ _ | refine blk_drew ?_ | refine blk_alloc ?_ _)); exact BK259.out) hb); have n1_ := Aside0.mk (below_step (by repeat (first | (with_reducible first | exact HB.out | apply below_alloc | apply pw_below_drewN | apply below_drew1 | refine below_set ?_ GE259.out) | exact HB.out)) hb); clear BK259; clear HB; have BK259 := n0_; have HB := n1_; clear n0_ n1_; (try clear hb); (try clear hb2); (try clear hk); (try clear hi)))
                 go_ret
                 exact ⟨by first | rfl | (simp [errW_none, errW_some] <;> rfl) | (simp [*, errW_none, errW_some] <;> rfl), by repeat (first | (with_reducible first | exact HB.out | apply below_alloc | apply pw_below_drewN | apply below_drew1 | refine below_set ?_ GE259.out) | exact HB.out)⟩
                ·
                 rw [if_neg c84] at H
                 have c84b0 : (t252 == 0) = false := beq_eq_false_iff_ne.mpr c84
                 have c84b1 : (t252 != 0) = true := bne_iff_ne.mpr c84
                 exact absurd ((Option.some.inj H).trans HR.out) (by decide)
               ·
                rw [if_neg c83] at H
                have c83b0 : (t257.toList == ([] : List UInt8)) = false := beq_eq_false_iff_ne.mpr c83
                have c83b1 : (t257.toList != ([] : List UInt8)) = true := bne_iff_ne.mpr c83
                exact absurd ((Option.some.inj H).trans HR.out) (by decide)
              ·
               rw [if_neg c82] at H
               have c82b0 : (t258 == 3) = false := beq_eq_false_iff_ne.mpr c82
               have c82b1 : (t258 != 3) = true := bne_iff_ne.mpr c82
               exact absurd ((Option.some.inj H).trans HR.out) (by decide)
             ·
              rw [if_neg c78] at H
              exact absurd H (by simp)
            ·
             rw [if_neg c77] at H
             have c77b0 : (t171 == 5) = false := beq_eq_false_iff_ne.mpr c77
             have c77b1 : (t171 != 5) = true := bne_iff_ne.mpr c77
             by_cases c91 : 8 < (t169.size : Int)
             ·
              rw [if_pos c91] at H
              have c91b0 : decide (8 < (t169.size : Int)) = true := decide_eq_true c91
              have c91b1 : decide (8 < t169.size) = true := decide_eq_true (by omega)
              clear c91
              replace H := Option.bind_eq_some_iff.mp H
              obtain ⟨t261, A930, H⟩ := H
              replace H : ((ipv4_Get.f kj8 t261).bind fun bt262 => (if bt262.2.2.2.2.2.2.2.2.2.2.2 = 4 then (if bt262.2.2.2.2.2.2.2.2.2.2.1.toList = ([] : List UInt8) then (if bt262.2.2.2.2.2.1 = 0 then ((rampartlaw03_awake.f kj8).bind fun t275 => (some t275)) else (some false)) else (some false)) else (some false))) = some r := H
              have A93 := Aside0.mk A930
              clear A930
              replace H := Option.bind_eq_some_iff.mp H
              obtain ⟨⟨t262, t263, t264, t265, t266, t267, t268, t269, t270, t271, t272, t273⟩, A940, H⟩ := H
              replace H : (if t273 = 4 then (if t272.toList = ([] : List UInt8) then (if t267 = 0 then ((rampartlaw03_awake.f kj8).bind fun t275 => (some t275)) else (some false)) else (some false)) else (some false)) = some r := H
              have A94 := Aside0.mk A940
              clear A940
              by_cases c95 : t273 = 4
              ·
               rw [if_pos c95] at H
               have c95b0 : (t273 == 4) = true := beq_iff_eq.mpr c95
               have c95b1 : (t273 != 4) = false := bne_eq_false_iff_eq.mpr c95
               clear c95
               by_cases c96 : t272.toList = ([] : List UInt8)
               ·
                rw [if_pos c96] at H
                have c96b0 : (t272.toList == ([] : List UInt8)) = true := beq_iff_eq.mpr c96
                have c96b1 : (t272.toList != ([] : List UInt8)) = false := bne_eq_false_iff_eq.mpr c96
                clear c96
                by_cases c97 : t267 = 0
                ·
                 rw [if_pos c97] at H
                 have c97b0 : (t267 == 0) = true := beq_iff_eq.mpr c97
                 have c97b1 : (t267 != 0) = false := bne_eq_false_iff_eq.mpr c97
                 clear c97
                 replace H := Option.bind_eq_some_iff.mp H
                 obtain ⟨t275, A980, H⟩ := H
                 replace H : (some t275) = some r := H
                 have A98 := Aside0.mk A980
                 clear A980
                 obtain rfl := Option.some.inj H
                 have hconv8 := fun (s : ByteArray) (w : World) => Lib.run_convert_string_bytes (P := Try.prog) w 9 34 5 s Try.underlying9 Try.underlying34 Try.underlying5
                 have ht_ : t171 = 6 := by have hp_ := place_in _ 7 _ (by omega) (by omega) A13.out; have n5_ := beq_eq_false_iff_ne.mp c77b0; have n4_ := beq_eq_false_iff_ne.mp c64b0; have n3_ := beq_eq_false_iff_ne.mp c50b0; have n2_ := beq_eq_false_iff_ne.mp c38b0; have n1_ := beq_eq_false_iff_ne.mp c26b0; have n0_ := beq_eq_false_iff_ne.mp c14b0; omega
                 have hix_ : ∀ w : World, (Instr.index 39 (.agg #[.int .i64 3, .int .i64 3, .int .i64 2, .int .i64 3, .int .i64 2, .int .i64 3, .int .i64 4]) (.int .i64 6)).run Try.prog w = .ok (.int .i64 4) w := fun w => by kernel_rfl
                 go_wp2_with (first | ((with_reducible refine gate_dst (N := 39) rfl ?_); refine conv_event_c ?hg (N := 39) ?hd (s := t169) ?hr ?_; (case hd => rfl); (case hg => rfl); (case hr => first | (go_simp; done) | (go_simp; rfl)); intro g8 hg8 c8 hcc_ w8 hrow8 hb8; have BB := Aside0.mk hrow8; have BL := Aside0.mk hb8; have GG := Aside0.mk (show wc.heap.size ≤ g8 from Nat.le_of_eq hg8.symm); clear hrow8 hg8 hb8) | ((with_reducible refine gate_callee (f := 23) rfl ?_); refine goesL_ (some 41) rfl rfl Try.func23 (by kernel_rfl) rfl #[.int .i64 a0, .int .i64 7] rfl (by (try simp only [List.map_toArray, List.map_cons, List.map_nil]); first | done | rfl | (simp only [List.length_drop, List.length_take]; rfl)) ?_; (with_reducible refine (rampartlaw00_Place.calls a0 7 t171 _ A13.out).mono ?_); rintro e w' ⟨rfl, ⟨nd, rfl⟩⟩; refine ⟨_, rfl, ?_⟩; (try (rw [drewN_self wc]; generalize hq_ : World.drewN wc _ = wc; have n0_ : Aside0 (Below w.heap.size w wc) := ⟨by rw [← hq_]; exact (by repeat (first | (with_reducible first | exact HB.out | apply below_alloc | apply pw_below_drewN | apply below_drew1) | exact HB.out))⟩; clear HB hq_; have HB := n0_; clear n0_)); have p92 : 0 ≤ (8 : Int) := (by omega); have q92 : 8 < t169.size := (by have : (8 : Int) < (t169.size : Int) := of_decide_eq_true (by first | (with_reducible assumption) | assumption); omega); have hx92 : ∀ h : 8 < t169.size, ((t169[8]'h).toNat : Int) = bt t169 8 := bt_at t169 8; clear p92; have qi92 : (8 < (t169.size : Int)) = True := eq_true (of_decide_eq_true (by first | (with_reducible assumption) | assumption)); replace q92 := eq_true q92; have B1_ := row8_drewN BB.out nd; have SB0 := set_bounds A93.out; have hc8_0 : (World.drewN w8 nd).cell? ⟨g8, 8, none⟩ = some (.int .u8 (bt t169 (8))) := row8_cell B1_ (i := 8) SB0.1 SB0.2; have hf8_0 : (World.drewN w8 nd).frozen? ⟨g8, 8, none⟩ = false := row8_frozen B1_ (i := 8) SB0.1 SB0.2; have TT0 := set_eq A93.out; have RB8_0 : Row8 ((World.drewN w8 nd).setCell ⟨g8, 8, none⟩ (.int .u8 ((((bt t169 8) + 1) % 256)))) g8 t261 := (by rw [TT0]; exact row8_set B1_ (i := 8) (v := (((bt t169 8) + 1) % 256)) SB0.1 SB0.2 (by first | decide | exact (bits8_range _ _ _).1 | omega) (by first | decide | exact (bits8_range _ _ _).2 | omega)); have hz8_0 : t261.size = t169.size := (by rw [TT0, bset_size]); have RB8 := Aside0.mk RB8_0; clear B1_ RB8_0) | ((with_reducible refine gate_dst (N := 87) rfl ?_); refine back_row ?hg (N := 87) ?hd (g := g8) (n := t169.size) (s := t261) Try.underlying34 Try.underlying5 Try.underlying9 ?hrow ?hn ?hr ?_; (case hd => rfl); (case hg => rfl); (case hrow => exact RB8.out); (case hn => rw [hz8_0]); (case hr => intro hback; first | (go_simp; done) | (go_simp; rfl)); intro w99 hw8; have hb : Below wc.heap.size wc w99 := (by rw [hw8]; exact (below_set (j := 8) (v := .int .u8 ((((bt t169 8) + 1) % 256))) (pw_below_drewN BL.out nd) GG.out)); clear hw8; have n0_ := Aside0.mk (below_step (by repeat (first | (with_reducible first | exact HB.out | apply below_alloc | apply pw_below_drewN | apply below_drew1) | exact HB.out)) hb); clear HB; have HB := n0_; clear n0_; (try clear hb); (try clear hb2); (try clear hk); (try clear hi)) | ((with_reducible refine gate_callee (f := 18) rfl ?_); refine goesL_ (some 88) rfl rfl Try.func18 (by kernel_rfl) rfl #[.string t261] rfl (by (try simp only [List.map_toArray, List.map_cons, List.map_nil]); first | done | rfl | (simp only [List.length_drop, List.length_take]; rfl)) ?_; (with_reducible refine (ipv4_Get.calls kj8 t261 t262 t263 t264 t265 t266 t267 t268 t269 t270 t271 t272 t273 _ A94.out).mono ?_); rintro e w100 ⟨rfl, hb⟩; refine ⟨_, rfl, ?_⟩; have n0_ := Aside0.mk (below_step (by repeat (first | (with_reducible first | exact HB.out | apply below_alloc | apply pw_below_drewN | apply below_drew1) | exact HB.out)) hb); clear HB; have HB := n0_; clear n0_; (try clear hb); (try clear hb2); (try clear hk); (try clear hi)) | ((with_reducible refine gate_dst (N := 10) rfl ?_); (try (refine gate_guard (by rfl) ?_; dsimp only)); refine box_event ?hg (N := 10) ?hd (cs := #[.int .i64 0, .int .i64 0, .bool false, .bool false, .int .i64 0, .int .i64 0, .int .i64 0, .int .u32 0, .int .u32 0, .string (⟨#[]⟩ : ByteArray)]) (t := 24) ?hr ?_; (case hd => rfl); (case hg => rfl); (case hr => first | (go_simp; done) | (go_simp; rfl)); intro gb274 hg w101 hbox hb; have n0_ := Aside0.mk (below_step (by repeat (first | (with_reducible first | exact HB.out | apply below_alloc | apply pw_below_drewN | apply below_drew1) | exact HB.out)) hb); have n1_ := Aside0.mk (hbox); have n2_ := Aside0.mk ((by rw [hg]; exact (below_size (by repeat (first | (with_reducible first | exact HB.out | apply below_alloc | apply pw_below_drewN | apply below_drew1) | exact HB.out))) : w.heap.size ≤ gb274)); have n3_ := Aside0.mk ((by rw [hg]; exact (below_size (by repeat (first | (with_reducible first | exact HB.out | apply below_alloc | apply pw_below_drewN | apply below_drew1) | exact HB.out))) : w.heap.size ≤ gb274)); clear HB; have HB := n0_; have BK274 := n1_; have GW274 := n2_; have GE274 := n3_; clear n0_ n1_ n2_ n3_; clear hb hbox hg; have hcz102_0 : w101.cell? ⟨gb274, 0, none⟩ = some (.int .i64 0) := (blk_cell BK274.out 0).trans rfl; have hcz102_1 : w101.cell? ⟨gb274, 1, none⟩ = some (.int .i64 0) := (blk_cell BK274.out 1).trans rfl; have hcz102_2 : w101.cell? ⟨gb274, 2, none⟩ = some (.bool false) := (blk_cell BK274.out 2).trans rfl; have hcz102_3 : w101.cell? ⟨gb274, 3, none⟩ = some (.bool false) := (blk_cell BK274.out 3).trans rfl; have hcz102_4 : w101.cell? ⟨gb274, 4, none⟩ = some (.int .i64 0) := (blk_cell BK274.out 4).trans rfl; have hcz102_5 : w101.cell? ⟨gb274, 5, none⟩ = some (.int .i64 0) := (blk_cell BK274.out 5).trans rfl; have hcz102_6 : w101.cell? ⟨gb274, 6, none⟩ = some (.int .i64 0) := (blk_cell BK274.out 6).trans rfl; have hcz102_7 : w101.cell? ⟨gb274, 7, none⟩ = some (.int .u32 0) := (blk_cell BK274.out 7).trans rfl; have hcz102_8 : w101.cell? ⟨gb274, 8, none⟩ = some (.int .u32 0) := (blk_cell BK274.out 8).trans rfl; have hcz102_9 : w101.cell? ⟨gb274, 9, none⟩ = some (.string (⟨#[]⟩ : ByteArray)) := (blk_cell BK274.out 9).trans rfl; have hfz102_0 := blk_frozen BK274.out 0; have hfz102_1 := blk_frozen BK274.out 1; have hfz102_2 := blk_frozen BK274.out 2; have hfz102_3 := blk_frozen BK274.out 3; have hfz102_4 := blk_frozen BK274.out 4; have hfz102_5 := blk_frozen BK274.out 5; have hfz102_6 := blk_frozen BK274.out 6; have hfz102_7 := blk_frozen BK274.out 7; have hfz102_8 := blk_frozen BK274.out 8; have hfz102_9 := blk_frozen BK274.out 9) | (go_at_call 15; (with_reducible refine (rampartlaw03_awake.calls kj8  t275 _ A98.out (by first | rfl | exact HR.out)).mono ?_); rintro e w103 ⟨rfl, hb⟩; have n0_ := Aside0.mk (blk_below (g := gb274) (o := .cells #[.int .i64 t262, .int .i64 t263, .bool t264, .bool t265, .int .i64 t266, .int .i64 t267, .int .i64 t268, .int .u32 t269, .int .u32 t270, .string t271] 24 (0, 0)) (by (with_reducible repeat (first | refine blk_drewN ?_ _ | refine blk_drew ?_ | refine blk_alloc ?_ _)); refine blk_put (cs := #[.int .i64 t262, .int .i64 t263, .bool t264, .bool t265, .int .i64 t266, .int .i64 t267, .int .i64 t268, .int .u32 t269, .int .u32 t270, .string (⟨#[]⟩ : ByteArray)]) ?_ 9 _ rfl; (with_reducible repeat (first | refine blk_drewN ?_ _ | refine blk_drew ?_ | refine blk_alloc ?_ _)); refine blk_put (cs := #[.int .i64 t262, .int .i64 t263, .bool t264, .bool t265, .int .i64 t266, .int .i64 t267, .int .i64 t268, .int .u32 t269, .int .u32 0, .string (⟨#[]⟩ : ByteArray)]) ?_ 8 _ rfl; (with_reducible repeat (first | refine blk_drewN ?_ _ | refine blk_drew ?_ | refine blk_alloc ?_ _)); refine blk_put (cs := #[.int .i64 t262, .int .i64 t263, .bool t264, .bool t265, .int .i64 t266, .int .i64 t267, .int .i64 t268, .int .u32 0, .int .u32 0, .string (⟨#[]⟩ : ByteArray)]) ?_ 7 _ rfl; (with_reducible repeat (first | refine blk_drewN ?_ _ | refine blk_drew ?_ | refine blk_alloc ?_ _)); refine blk_put (cs := #[.int .i64 t262, .int .i64 t263, .bool t264, .bool t265, .int .i64 t266, .int .i64 t267, .int .i64 0, .int .u32 0, .int .u32 0, .string (⟨#[]⟩ : ByteArray)]) ?_ 6 _ rfl; (with_reducible repeat (first | refine blk_drewN ?_ _ | refine blk_drew ?_ | refine blk_alloc ?_ _)); refine blk_put (cs := #[.int .i64 t262, .int .i64 t263, .bool t264, .bool t265, .int .i64 t266, .int .i64 0, .int .i64 0, .int .u32 0, .int .u32 0, .string (⟨#[]⟩ : ByteArray)]) ?_ 5 _ rfl; (with_reducible repeat (first | refine blk_drewN ?_ _ | refine blk_drew ?_ | refine blk_alloc ?_ _)); refine blk_put (cs := #[.int .i64 t262, .int .i64 t263, .bool t264, .bool t265, .int .i64 0, .int .i64 0, .int .i64 0, .int .u32 0, .int .u32 0, .string (⟨#[]⟩ : ByteArray)]) ?_ 4 _ rfl; (with_reducible repeat (first | refine blk_drewN ?_ _ | refine blk_drew ?_ | refine blk_alloc ?_ _)); refine blk_put (cs := #[.int .i64 t262, .int .i64 t263, .bool t264, .bool false, .int .i64 0, .int .i64 0, .int .i64 0, .int .u32 0, .int .u32 0, .string (⟨#[]⟩ : ByteArray)]) ?_ 3 _ rfl; (with_reducible repeat (first | refine blk_drewN ?_ _ | refine blk_drew ?_ | refine blk_alloc ?_ _)); refine blk_put (cs := #[.int .i64 t262, .int .i64 t263, .bool false, .bool false, .int .i64 0, .int .i64 0, .int .i64 0, .int .u32 0, .int .u32 0, .string (⟨#[]⟩ : ByteArray)]) ?_ 2 _ rfl; (with_reducible repeat (first | refine blk_drewN ?_ _ | refine blk_drew ?_ | refine blk_alloc ?_ _)); refine blk_put (cs := #[.int .i64 t262, .int .i64 0, .bool false, .bool false, .int .i64 0, .int .i64 0, .int .i64 0, .int .u32 0, .int .u32 0, .string (⟨#[]⟩ : ByteArray)]) ?_ 1 _ rfl; (with_reducible repeat (first | refine blk_drewN ?_ _ | refine blk_drew ?_ | refine blk_alloc ?_ _)); refine blk_put (cs := #[.int .i64 0, .int .i64 0, .bool false, .bool false, .int .i64 0, .int .i64 0, .int .i64 0, .int .u32 0, .int .u32 0, .string (⟨#[]⟩ : ByteArray)]) ?_ 0 _ rfl; (with_reducible repeat (first | refine blk_drewN ?_ _ | refine blk_drew ?_ | refine blk_alloc ?_ _)); exact BK274.out) hb); have n1_ := Aside0.mk (below_step (by repeat (first | (with_reducible first | exact HB.out | apply below_alloc | apply pw_below_drewN | apply below_drew1 | refine below_set ?_ GE274.out) | exact HB.out)) hb); clear BK274; clear HB; have BK274 := n0_; have HB := n1_; clear n0_ n1_; (try clear hb); (try clear hb2); (try clear hk); (try clear hi)))
                 go_ret
                 exact ⟨by first | rfl | (simp [errW_none, errW_some] <;> rfl) | (simp [*, errW_none, errW_some] <;> rfl), by repeat (first | (with_reducible first | exact HB.out | apply below_alloc | apply pw_below_drewN | apply below_drew1 | refine below_set ?_ GE274.out) | exact HB.out)⟩
                ·
                 rw [if_neg c97] at H
                 have c97b0 : (t267 == 0) = false := beq_eq_false_iff_ne.mpr c97
                 have c97b1 : (t267 != 0) = true := bne_iff_ne.mpr c97
                 exact absurd ((Option.some.inj H).trans HR.out) (by decide)
               ·
                rw [if_neg c96] at H
                have c96b0 : (t272.toList == ([] : List UInt8)) = false := beq_eq_false_iff_ne.mpr c96
                have c96b1 : (t272.toList != ([] : List UInt8)) = true := bne_iff_ne.mpr c96
                exact absurd ((Option.some.inj H).trans HR.out) (by decide)
              ·
               rw [if_neg c95] at H
               have c95b0 : (t273 == 4) = false := beq_eq_false_iff_ne.mpr c95
               have c95b1 : (t273 != 4) = true := bne_iff_ne.mpr c95
               exact absurd ((Option.some.inj H).trans HR.out) (by decide)
             ·
              rw [if_neg c91] at H
              exact absurd H (by simp)

/-- THE ONE PURE STATEMENT of rampartlaw03_Ipv4Wrong: yours. -/
def rampartlaw03_Ipv4Wrong.Pure : Prop := ∀ (a0 : Int) (a1 : ByteArray), (Lit.int .i64 a0).wf = true → a1.size ≤ 140737488351232 → ∃ k, rampartlaw03_Ipv4Wrong.f k a0 a1 = some true
theorem rampartlaw03_Ipv4Wrong.walk (P : rampartlaw03_Ipv4Wrong.Pure) (a0 : Int) (a1 : ByteArray) (w : World) (w0 : (Lit.int .i64 a0).wf = true) (w1 : a1.size ≤ 140737488351232) :
  Calls Try.prog 6 #[.int .i64 a0, .string a1] w fun e w' => e = .returned (.bool true) ∧ Below w.heap.size w w' := by
 obtain ⟨k, h⟩ := P a0 a1 w0 w1
 refine (rampartlaw03_Ipv4Wrong.calls k a0 a1 true w h rfl).mono ?_
 rintro e w' ⟨rfl, hd⟩
 exact ⟨rfl, hd⟩


end Go.Proofs.Ytgolimfljndnmaa.HV
