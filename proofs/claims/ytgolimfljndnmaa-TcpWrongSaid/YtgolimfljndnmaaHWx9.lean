/- What is proved: each Go function of this text answers as the plain Lean function beside it (a law: its given row, out of the plain statement). Conditions: those that stand in each theorem. Written by my drive.py, which calls the printer of the kit for what that covers. -/
import Derived.Test.YtgolimfljndnmaaHWx0
import Derived.Test.YtgolimfljndnmaaHWx1
import Derived.Test.YtgolimfljndnmaaHWx4
import Derived.Test.YtgolimfljndnmaaHWx7
import Derived.Test.YtgolimfljndnmaaHWx8
namespace Go.Proofs.Ytgolimfljndnmaa.HW
open Go.RowKit Go.Proofs.YtgolimfljndnmaaW.PrintWords Go.Proofs.YtgolimfljndnmaaW.PrintLast Go.Proofs.YtgolimfljndnmaaW.PrintMore
attribute [local go_sem] max2_int min2_int max_two min_two max_three min_three max_four min_four   -- for this text's walks alone
set_option linter.unusedVariables false
set_option linter.unusedSimpArgs false

/-! ### rampartlaw04_TcpWrong: function 10 -/
theorem bset_size (s : ByteArray) (i : Nat) (v : Int) : (bset s i v).size = s.size := by
 show (s.data.toList.set i _).toArray.size = _
 simp
def cells8 (s : ByteArray) (pad : Nat) : Array Value := (s.data.map fun b => Value.int .u8 b.toNat) ++ Array.replicate pad (.int .u8 0)
/-- Block g holds the bytes s, then zeros; its mark lies behind its last cell. -/
def Row8 (w : World) (g : Nat) (s : ByteArray) : Prop := ∃ pad : Nat, w.heap[g]? = some (.cells (cells8 s pad) 5 ((cells8 s pad).size, (cells8 s pad).size + 1))
theorem cells8_size (s : ByteArray) (pad : Nat) : (cells8 s pad).size = s.size + pad := by simp [cells8]
theorem row8_new (w : World) (s : ByteArray) : Row8 (Lib.bytesWorld w 5 s) w.heap.size s := ⟨_, Lib.bytesWorld_at_new w 5 s⟩
theorem row8_move {w w' : World} {g : Nat} {s : ByteArray} (h : Row8 w g s) (hm : w'.heap[g]? = w.heap[g]?) : Row8 w' g s := by
 obtain ⟨p, hp⟩ := h
 exact ⟨p, hm.trans hp⟩
theorem row8_lt {w : World} {g : Nat} {s : ByteArray} (h : Row8 w g s) : g < w.heap.size := by
 obtain ⟨p, hp⟩ := h
 exact (Array.getElem?_eq_some_iff.1 hp).1
theorem row8_below {w w' : World} {g : Nat} {s : ByteArray} (h : Row8 w g s) (hb : Below w.heap.size w w') : Row8 w' g s := row8_move h (hb.block g (row8_lt h))
theorem row8_drewN {w : World} {g : Nat} {s : ByteArray} (h : Row8 w g s) (n : Nat) : Row8 (w.drewN n) g s := row8_below h (pw_below_drewN (Below.refl _ _) n)
theorem row8_cell {w : World} {g : Nat} {s : ByteArray} (h : Row8 w g s) {i : Int} (h0 : 0 ≤ i) (h1 : i < (s.size : Int)) : w.cell? ⟨g, i.toNat, none⟩ = some (.int .u8 (bt s i)) := by
 obtain ⟨p, hp⟩ := h
 have hi : i.toNat < s.size := by omega
 have hb := bt_at s i
 have e : w.cell? ⟨g, i.toNat, none⟩ = (cells8 s p)[i.toNat]? := by simp [World.cell?, hp]
 rw [e, cells8, Array.getElem?_append_left (by simpa using hi)]
 rw [Array.getElem?_map, Array.getElem?_eq_getElem (show i.toNat < s.data.size from hi)]
 show some (Value.int .u8 ((s.data[i.toNat]).toNat : Int)) = _
 rw [← hb hi]
 rfl
theorem row8_frozen {w : World} {g : Nat} {s : ByteArray} (h : Row8 w g s) {i : Int} (h0 : 0 ≤ i) (h1 : i < (s.size : Int)) : w.frozen? ⟨g, i.toNat, none⟩ = false := by
 obtain ⟨p, hp⟩ := h
 have hz := cells8_size s p
 simp only [World.frozen?, hp]
 rw [hz]
 simp
 omega
theorem row8_set {w : World} {g : Nat} {s : ByteArray} (h : Row8 w g s) {i : Int} (h0 : 0 ≤ i) (h1 : i < (s.size : Int)) {v : Int} (hv0 : 0 ≤ v) (hv1 : v < 256) : Row8 (w.setCell ⟨g, i.toNat, none⟩ (.int .u8 v)) g (bset s i.toNat v) := by
 obtain ⟨p, hp⟩ := h
 have hi : i.toNat < s.size := by omega
 have hz := cells8_size s p
 have hz2 : (cells8 (bset s i.toNat v) p).size = (cells8 s p).size := by rw [cells8_size, cells8_size, bset_size]
 have hc : (cells8 s p).setIfInBounds i.toNat (.int .u8 v) = cells8 (bset s i.toNat v) p := by
  have hvn : ((UInt8.ofNat v.toNat).toNat : Int) = v := by
   rw [UInt8.toNat_ofNat', Nat.mod_eq_of_lt (by omega)]
   omega
  apply Array.ext_getElem?
  intro j
  rw [Array.getElem?_setIfInBounds]
  have hs : s.data.size = s.size := rfl
  have hb : (bset s i.toNat v).data = s.data.set i.toNat (UInt8.ofNat v.toNat) hi := by
   apply Array.ext'
   simp [bset]
  by_cases hj : i.toNat = j
  ·
   subst hj
   rw [if_pos rfl, if_pos (by rw [hz]; omega), cells8, hb, Array.getElem?_append_left (by simpa using hi)]
   simp
   omega
  ·
   rw [if_neg hj]
   unfold cells8
   rw [hb]
   by_cases hjs : j < s.size
   ·
    rw [Array.getElem?_append_left (by simpa using hjs), Array.getElem?_append_left (by simpa using hjs)]
    simp [hj]
   ·
    rw [Array.getElem?_append_right (by simpa using Nat.le_of_not_lt hjs), Array.getElem?_append_right (by simpa using Nat.le_of_not_lt hjs)]
    simp
 refine ⟨p, ?_⟩
 rw [hz2, ← hc]
 simp [World.setCell, Array.getElem?_modify, hp]
theorem row8_back {P : Program} {w : World} {g : Nat} {s : ByteArray} (h : Row8 w g s) (n cap : Nat) (hn : n = s.size) (hs : P.underlying 34 = some (.slice 5)) (he : P.underlying 5 = some (.int .u8)) (hd : P.underlying 9 = some .string) :
  (convert 34 9 (.slice (some ⟨g, 0, none⟩) n cap)).run P w = .ok (.string s) w := by
 subst hn
 have := run_convert_bytes_back (P := P) w 34 9 5 ⟨g, 0, none⟩ cap s.data.toList hs he hd (fun j hj => by
  have hj' : j < s.size := by simpa using hj
  have hc := row8_cell h (i := (j : Int)) (by omega) (by omega)
  have hb := bt_at s (j : Int)
  rw [Int.toNat_natCast] at hc hb
  have e : (⟨g, 0, none⟩ : Addr).add j = ⟨g, j, none⟩ := by simp [Addr.add]; omega
  rw [e, hc, ← hb hj']
  rfl)
 have hl : s.data.toList.length = s.size := by simp
 rw [hl] at this
 rw [this]
theorem conv_event {P : Program} {ops : Array Oper} {Q : Exit → Act → World → Prop} {rest : List Oper} {o : Oper} {a : Act} {W : World} (hgd : o.guard = none) {N : Tmp} (_hd : o.dst = some N) {s : ByteArray}
  (hrun : (execOp a.eval o).run P W = .ok (.value (.slice (some ⟨W.heap.size, 0, none⟩) s.size (grownCap W s.size 0 5))) (Lib.bytesWorld W 5 s))
  (h : ∀ g, g = W.heap.size → ∀ c w1, Row8 w1 g s → Below W.heap.size W w1 → wpList P ops Q rest (a.put o.dst (.slice (some ⟨g, 0, none⟩) s.size c)) w1) : wpList P ops Q (o :: rest) a W :=
 Kd.event_run hgd hrun (h _ rfl _ _ (row8_new W s) (by
  refine ⟨rfl, rfl, rfl, ?_, fun i hi => Lib.bytesWorld_at_old W 5 s i hi⟩
  rw [Lib.bytesWorld_size]; omega))
theorem back_event {P : Program} {ops : Array Oper} {Q : Exit → Act → World → Prop} {rest : List Oper} {o : Oper} {a : Act} {W : World} (hgd : o.guard = none) {N : Tmp} (_hd : o.dst = some N) {s : ByteArray}
  (hrun : (execOp a.eval o).run P W = .ok (.value (.string s)) W) (h : ∀ w1, w1 = W → wpList P ops Q rest (a.put o.dst (.string s)) w1) : wpList P ops Q (o :: rest) a W :=
 Kd.event_run hgd hrun (h W rfl)
theorem set_eq {s t : ByteArray} {i v : Int} (h : gosem_cut_init.f s i v = some t) : t = bset s i.toNat v := by
 unfold gosem_cut_init.f at h
 split at h
 ·
  exact (Option.some.inj h).symm
 ·
  cases h
theorem set_bounds {s t : ByteArray} {i v : Int} (h : gosem_cut_init.f s i v = some t) : 0 ≤ i ∧ i < (s.size : Int) := by
 unfold gosem_cut_init.f at h
 split at h
 ·
  assumption
 ·
  cases h
theorem bits8_range (op : BinOp) (x y : Int) : 0 ≤ Go.bits op .u8 x y ∧ Go.bits op .u8 x y < 256 := by
 unfold Go.bits
 split <;> (try rw [IntKind.wrap_u8]) <;> omega

theorem row8_other {w : World} {g g' i : Nat} {s : ByteArray} {v : Value} (h : Row8 w g s) (hne : g ≠ g') : Row8 (w.setCell ⟨g', i, none⟩ v) g s :=
 row8_move h (by simp [World.setCell, Array.getElem?_modify, Ne.symm hne])
theorem back_row {P : Program} {ops : Array Oper} {Q : Exit → Act → World → Prop} {rest : List Oper} {o : Oper} {a : Act} {W : World} (hgd : o.guard = none) {N : Tmp} (_hd : o.dst = some N) {g n : Nat} {s : ByteArray}
  (hs : P.underlying 34 = some (.slice 5)) (he : P.underlying 5 = some (.int .u8)) (hd9 : P.underlying 9 = some .string) (hrow : Row8 W g s) (hn : n = s.size)
  (hrun : (∀ cap, (convert 34 9 (.slice (some ⟨g, 0, none⟩) n cap)).run P W = .ok (.string s) W) → (execOp a.eval o).run P W = .ok (.value (.string s)) W) (h : ∀ w1, w1 = W → wpList P ops Q rest (a.put o.dst (.string s)) w1) : wpList P ops Q (o :: rest) a W :=
 Kd.event_run hgd (hrun (fun cap => row8_back hrow n cap hn hs he hd9)) (h W rfl)

theorem tmod_in (a n : Int) (hn : 0 < n) : -n < Int.tmod a n ∧ Int.tmod a n < n := by
 by_cases h : 0 ≤ a
 ·
  rw [Int.tmod_eq_emod_of_nonneg h]
  have h1 := Int.emod_nonneg a (show n ≠ 0 by omega)
  have h2 := Int.emod_lt_of_pos a hn
  omega
 ·
  have e : Int.tmod a n = -((-a) % n) := by
   rw [← Int.tmod_eq_emod_of_nonneg (show 0 ≤ -a by omega), Int.neg_tmod, Int.neg_neg]
  have h1 := Int.emod_nonneg (-a) (show n ≠ 0 by omega)
  have h2 := Int.emod_lt_of_pos (-a) hn
  omega
theorem place_in (a n t : Int) (hn : 0 < n) (hn2 : n ≤ 1000) (h : rampartlaw00_Place.f a n = some t) : 0 ≤ t ∧ t < n := by
 have h1 := tmod_in a n hn
 unfold rampartlaw00_Place.f at h
 rw [if_neg (by omega)] at h
 split at h
 ·
  obtain rfl := Option.some.inj h
  unfold wrap64
  omega
 ·
  obtain rfl := Option.some.inj h
  omega
theorem conv_event_c {P : Program} {ops : Array Oper} {Q : Exit → Act → World → Prop} {rest : List Oper} {o : Oper} {a : Act} {W : World} (hgd : o.guard = none) {N : Tmp} (_hd : o.dst = some N) {s : ByteArray}
  (hrun : (execOp a.eval o).run P W = .ok (.value (.slice (some ⟨W.heap.size, 0, none⟩) s.size (grownCap W s.size 0 5))) (Lib.bytesWorld W 5 s))
  (h : ∀ g, g = W.heap.size → ∀ c, s.size ≤ c → ∀ w1, Row8 w1 g s → Below W.heap.size W w1 → wpList P ops Q rest (a.put o.dst (.slice (some ⟨g, 0, none⟩) s.size c)) w1) : wpList P ops Q (o :: rest) a W :=
 Kd.event_run hgd hrun (h _ rfl _ (grownCap_ge W s.size 0 5) _ (row8_new W s) (by
  refine ⟨rfl, rfl, rfl, ?_, fun i hi => Lib.bytesWorld_at_old W 5 s i hi⟩
  rw [Lib.bytesWorld_size]; omega))
theorem row8_pre {P : Program} {w : World} {g : Nat} {s : ByteArray} (h : Row8 w g s) (n cap : Nat) (hn : n ≤ s.size) (hs : P.underlying 34 = some (.slice 5)) (he : P.underlying 5 = some (.int .u8)) (hd : P.underlying 9 = some .string) :
  (convert 34 9 (.slice (some ⟨g, 0, none⟩) n cap)).run P w = .ok (.string (s.extract 0 n)) w := by
 have hl : (s.data.toList.take n).length = n := by rw [List.length_take, show s.data.toList.length = s.size by simp]; omega
 have := run_convert_bytes_back (P := P) w 34 9 5 ⟨g, 0, none⟩ cap (s.data.toList.take n) hs he hd (fun j hj => by
  have hj' : j < n := by rw [hl] at hj; exact hj
  have hc := row8_cell h (i := (j : Int)) (by omega) (by omega)
  have hb := bt_at s (j : Int)
  rw [Int.toNat_natCast] at hc hb
  have e : (⟨g, 0, none⟩ : Addr).add j = ⟨g, j, none⟩ := by simp [Addr.add]; omega
  rw [e, hc, ← hb (by omega), List.getElem_take]
  rfl)
 rw [hl] at this
 rw [this]
 congr 2
 simp [ByteArray.ext_iff]
 apply Array.ext'
 simp
theorem pre_row {P : Program} {ops : Array Oper} {Q : Exit → Act → World → Prop} {rest : List Oper} {o : Oper} {a : Act} {W : World} (hgd : o.guard = none) {N : Tmp} (_hd : o.dst = some N) {g n : Nat} {s : ByteArray}
  (hs : P.underlying 34 = some (.slice 5)) (he : P.underlying 5 = some (.int .u8)) (hd9 : P.underlying 9 = some .string) (hrow : Row8 W g s) (hn : n ≤ s.size)
  (hrun : (∀ cap, (convert 34 9 (.slice (some ⟨g, 0, none⟩) n cap)).run P W = .ok (.string (s.extract 0 n)) W) → (execOp a.eval o).run P W = .ok (.value (.string (s.extract 0 n))) W) (h : ∀ w1, w1 = W → wpList P ops Q rest (a.put o.dst (.string (s.extract 0 n))) w1) : wpList P ops Q (o :: rest) a W :=
 Kd.event_run hgd (hrun (fun cap => row8_pre hrow n cap hn hs he hd9)) (h W rfl)
/-! ### rampartlaw04_TcpWrong: function 10 -/
def rampartlaw04_TcpWrong.j0 : Nat → Int → ByteArray → Bool → Option (Bool)
 | 0, _, _, _ => none
 | k + 1, x0, x5, x32 => if x32 = true then (some false) else ((rampartlaw00_Place.f x0 6).bind fun t166 => (if t166 = 0 then (if 0 ≤ 19 then (if 19 ≤ (x5.size : Int) then ((tcp_Get.f k 1 2 (x5.extract 0 19)).bind fun bt167 => (if bt167.2.2.2.2.2.2.2.2 = 2 then (if bt167.2.2.2.2.2.2.2.1.toList = ([] : List UInt8) then (if bt167.1 = 0 then ((rampartlaw04_awake.f k).bind fun t177 => (some t177)) else (some false)) else (some false)) else (some false))) else (none)) else (none)) else (if t166 = 1 then ((gosem_cut_init.f x5 12 64).bind fun t178 => ((tcp_Get.f k 1 2 t178).bind fun bt179 => (if bt179.2.2.2.2.2.2.2.2 = 3 then (if bt179.2.2.2.2.2.2.2.1.toList = ([] : List UInt8) then (if bt179.1 = 0 then ((rampartlaw04_awake.f k).bind fun t189 => (some t189)) else (some false)) else (some false)) else (some false)))) else (if t166 = 2 then (if 0 ≤ 22 then (if 22 ≤ (x5.size : Int) then ((tcp_Get.f k 1 2 (x5.extract 0 22)).bind fun bt190 => (if bt190.2.2.2.2.2.2.2.2 = 2 then (if bt190.2.2.2.2.2.2.2.1.toList = ([] : List UInt8) then (if bt190.1 = 0 then ((rampartlaw04_awake.f k).bind fun t200 => (some t200)) else (some false)) else (some false)) else (some false))) else (none)) else (none)) else (if t166 = 3 then (if 12 < (x5.size : Int) then ((gosem_cut_init.f x5 12 (Go.bits .or .u8 (bt x5 12) 1)).bind fun t201 => ((tcp_Get.f k 1 2 t201).bind fun bt202 => (if bt202.2.2.2.2.2.2.2.2 = 3 then (if bt202.2.2.2.2.2.2.2.1.toList = ([] : List UInt8) then (if bt202.1 = 0 then ((rampartlaw04_awake.f k).bind fun t212 => (some t212)) else (some false)) else (some false)) else (some false)))) else (none)) else (if t166 = 4 then ((gosem_cut_init.f x5 13 64).bind fun t213 => ((tcp_Get.f k 1 2 t213).bind fun bt214 => (if bt214.2.2.2.2.2.2.2.2 = 3 then (if bt214.2.2.2.2.2.2.2.1.toList = ([] : List UInt8) then (if bt214.1 = 0 then ((rampartlaw04_awake.f k).bind fun t224 => (some t224)) else (some false)) else (some false)) else (some false)))) else (if 15 < (x5.size : Int) then ((gosem_cut_init.f x5 15 (((bt x5 15) + 1) % 256)).bind fun t225 => ((tcp_Get.f k 1 2 t225).bind fun bt226 => (if bt226.2.2.2.2.2.2.2.2 = 4 then (if bt226.2.2.2.2.2.2.2.1.toList = ([] : List UInt8) then (if bt226.1 = 0 then ((rampartlaw04_awake.f k).bind fun t236 => (some t236)) else (some false)) else (some false)) else (some false)))) else (none))))))))
def rampartlaw04_TcpWrong.f (k : Nat) (a0 : Int) (a1 : ByteArray) : Option (Bool) := if (a1.size : Int) > 500 then ((rampartlaw04_awake.f k).bind fun t163 => (some t163)) else ((tcp_Put.f k 1 2 5 80 0 0 0 0 (⟨#[1, 1, 1, 1]⟩ : ByteArray) a1).bind fun bt164 => (if bt164.2 = 0 then (rampartlaw04_TcpWrong.j0 k a0 bt164.1 ((bt164.1.size : Int) != (wrap64 (24 + (a1.size : Int))))) else (rampartlaw04_TcpWrong.j0 k a0 bt164.1 true)))
theorem rampartlaw04_TcpWrong.mono_l : ∀ k, (∀ y0 y1 y2, LeO (rampartlaw04_TcpWrong.j0 k y0 y1 y2) (rampartlaw04_TcpWrong.j0 (k + 1) y0 y1 y2))
 | 0 => fun _ _ _ r h => by simp [rampartlaw04_TcpWrong.j0] at h
 | k + 1 => by
  have ih0 := rampartlaw04_TcpWrong.mono_l k
  ·
   intro y0 y1 y2
   unfold rampartlaw04_TcpWrong.j0
   repeat' first
   | (with_reducible exact ih0 _ _ _)
   | (with_reducible exact rampartlaw04_awake.mono _)
   | (with_reducible exact tcp_Get.mono _ _ _ _)
   | (with_reducible exact tcp_Put.mono _ _ _ _ _ _ _ _ _ _ _)
   | (with_reducible exact LeO.refl _)
   | (with_reducible exact LeO.none _)
   | (with_reducible refine LeO.ite ?_ ?_)
   | (with_reducible refine LeO.bind ?_ (fun _ => ?_))
   | exact ih0 _ _ _
   | exact rampartlaw04_awake.mono _
   | exact tcp_Get.mono _ _ _ _
   | exact tcp_Put.mono _ _ _ _ _ _ _ _ _ _ _
   | exact LeO.none _
   | refine LeO.ite ?_ ?_
   | refine LeO.bind ?_ (fun _ => ?_)
theorem rampartlaw04_TcpWrong.mono : ∀ a0 a1 k, LeO (rampartlaw04_TcpWrong.f k a0 a1) (rampartlaw04_TcpWrong.f (k + 1) a0 a1) := by
 intro a0 a1 k
 have ih0 := rampartlaw04_TcpWrong.mono_l k
 unfold rampartlaw04_TcpWrong.f
 repeat' first
   | (with_reducible exact ih0 _ _ _)
   | (with_reducible exact rampartlaw04_awake.mono _)
   | (with_reducible exact tcp_Get.mono _ _ _ _)
   | (with_reducible exact tcp_Put.mono _ _ _ _ _ _ _ _ _ _ _)
   | (with_reducible exact LeO.refl _)
   | (with_reducible exact LeO.none _)
   | (with_reducible refine LeO.ite ?_ ?_)
   | (with_reducible refine LeO.bind ?_ (fun _ => ?_))
   | exact ih0 _ _ _
   | exact rampartlaw04_awake.mono _
   | exact tcp_Get.mono _ _ _ _
   | exact tcp_Put.mono _ _ _ _ _ _ _ _ _ _ _
   | exact LeO.none _
   | refine LeO.ite ?_ ?_
   | refine LeO.bind ?_ (fun _ => ?_)
theorem rampartlaw04_TcpWrong.j0_no {k : Nat} {y0 : Int} {y1 : ByteArray} {r : Bool} (hr : r = true) : ¬ (rampartlaw04_TcpWrong.j0 k y0 y1 true = some r) := by
 subst hr
 cases k with
 | zero => intro h; simp only [rampartlaw04_TcpWrong.j0] at h; cases h
 | succ k => intro h; simp only [rampartlaw04_TcpWrong.j0, if_true] at h; cases h
set_option maxHeartbeats 8000000 in
set_option maxRecDepth 100000 in
theorem rampartlaw04_TcpWrong.calls (k : Nat) (a0 : Int) (a1 : ByteArray) (r : Bool) (w : World) (h : rampartlaw04_TcpWrong.f k a0 a1 = some r) (HR0 : r = true) :
  Calls Try.prog 10 #[.int .i64 a0, .string a1] w fun e w' => e = .returned (.bool r) ∧ Below w.heap.size w w' := by
 have HR := Aside0.mk HR0
 clear HR0
 have hu42 := Try.underlying42
 have hu50 := Try.underlying50
 have HB := Aside0.mk (Below.refl w.heap.size w)
 have H : (if (a1.size : Int) > 500 then ((rampartlaw04_awake.f k).bind fun t163 => (some t163)) else ((tcp_Put.f k 1 2 5 80 0 0 0 0 (⟨#[1, 1, 1, 1]⟩ : ByteArray) a1).bind fun bt164 => (if bt164.2 = 0 then (rampartlaw04_TcpWrong.j0 k a0 bt164.1 ((bt164.1.size : Int) != (wrap64 (24 + (a1.size : Int))))) else (rampartlaw04_TcpWrong.j0 k a0 bt164.1 true)))) = some r := h
 clear h
 by_cases c3 : (a1.size : Int) > 500
 ·
  rw [if_pos c3] at H
  have c3b0 : decide (500 < (a1.size : Int)) = true := decide_eq_true c3
  have c3b1 : decide (500 < a1.size) = true := decide_eq_true (by omega)
  clear c3
  replace H := Option.bind_eq_some_iff.mp H
  obtain ⟨t163, A40, H⟩ := H
  replace H : (some t163) = some r := H
  have A4 := Aside0.mk A40
  clear A40
  obtain rfl := Option.some.inj H
  go_enter Try.func10, Try.ntmps10
  go_wp2_with (first | ((with_reducible refine gate_callee (f := 24) rfl ?_); refine goesL_ (some 16) rfl rfl Try.func24 (by kernel_rfl) rfl #[] rfl (by (try simp only [List.map_toArray, List.map_cons, List.map_nil]); first | done | rfl | (simp only [List.length_drop, List.length_take]; rfl)) ?_; (with_reducible refine (rampartlaw04_awake.calls k  t163 _ A4.out (by first | rfl | exact HR.out)).mono ?_); rintro e w5 ⟨rfl, hb⟩; refine ⟨_, rfl, ?_⟩; have n0_ := Aside0.mk (below_step (by repeat (first | (with_reducible first | exact HB.out | apply below_alloc | apply pw_below_drewN | apply below_drew1) | exact HB.out)) hb); clear HB; have HB := n0_; clear n0_; (try clear hb); (try clear hb2); (try clear hk); (try clear hi)))
  go_ret
  exact ⟨by first | rfl | (simp [errW_none, errW_some] <;> rfl) | (simp [*, errW_none, errW_some] <;> rfl), by repeat (first | (with_reducible first | exact HB.out | apply below_alloc | apply pw_below_drewN | apply below_drew1) | exact HB.out)⟩
 ·
  rw [if_neg c3] at H
  have c3b0 : decide (500 < (a1.size : Int)) = false := decide_eq_false c3
  have c3b1 : decide (500 < a1.size) = false := decide_eq_false (by omega)
  clear c3
  replace H := Option.bind_eq_some_iff.mp H
  obtain ⟨⟨t164, t165⟩, A60, H⟩ := H
  replace H : (if t165 = 0 then (rampartlaw04_TcpWrong.j0 k a0 t164 ((t164.size : Int) != (wrap64 (24 + (a1.size : Int))))) else (rampartlaw04_TcpWrong.j0 k a0 t164 true)) = some r := H
  have A6 := Aside0.mk A60
  clear A60
  have HC7 := Aside0.mk H
  clear H
  go_enter Try.func10, Try.ntmps10
  go_upto_region 4 with (first | ((with_reducible refine gate_callee (f := 25) rfl ?_); refine goesL_ (some 20) rfl rfl Try.func25 (by kernel_rfl) rfl #[.int .u32 1, .int .u32 2, .agg #[.int .i64 5, .int .i64 80, .int .u32 0, .int .u32 0, .int .i64 0, .int .i64 0, .string (⟨#[1, 1, 1, 1]⟩ : ByteArray)], .string a1] rfl (by (try simp only [List.map_toArray, List.map_cons, List.map_nil]); first | done | rfl | (simp only [List.length_drop, List.length_take]; rfl)) ?_; (with_reducible refine (tcp_Put.calls k 1 2 5 80 0 0 0 0 (⟨#[1, 1, 1, 1]⟩ : ByteArray) a1 t164 t165 _ A6.out).mono ?_); rintro e w8 ⟨rfl, hb⟩; refine ⟨_, rfl, ?_⟩; have n0_ := Aside0.mk (below_step (by repeat (first | (with_reducible first | exact HB.out | apply below_alloc | apply pw_below_drewN | apply below_drew1) | exact HB.out)) hb); clear HB; have HB := n0_; clear n0_; (try clear hb); (try clear hb2); (try clear hk); (try clear hi)))
  (try simp only [Act.put, List.setIfInBounds_toArray, List.set_cons_zero, List.set_cons_succ])
  go_cut [32] (fun v32 wc => ∃ (kq : Nat) (x32_6 : Bool), v32 = .bool x32_6 ∧ Aside0 (rampartlaw04_TcpWrong.j0 kq a0 t164 x32_6 = some r) ∧ Aside0 (kq ≤ k) ∧ Aside0 (Below w.heap.size w wc))
  case first =>
   have H := HC7.out
   clear HC7
   by_cases c9 : t165 = 0
   ·
    rw [if_pos c9] at H
    have c9b0 : (t165 == 0) = true := beq_iff_eq.mpr c9
    have c9b1 : (t165 != 0) = false := bne_eq_false_iff_eq.mpr c9
    clear c9
    (first | rw [c9b0] | (simp only [i64_w, i32_w]; rw [c9b0]) | skip)
    have H' := Aside0.mk H
    clear H
    go_wp2
    go_meet
    case rel => exact ⟨_, (((t164.size : Int) != (wrap64 (24 + (a1.size : Int))))), (by first | rfl | (simp; done) | (simp [*]; done)), H', ⟨by first | omega | exact Nat.le_refl _⟩, ⟨by repeat (first | (with_reducible first | exact HB.out | apply below_alloc | apply pw_below_drewN | apply below_drew1) | exact HB.out)⟩⟩
   ·
    rw [if_neg c9] at H
    exact absurd H (rampartlaw04_TcpWrong.j0_no HR.out)
  case rest =>
   clear HC7
   try clear c1
   try clear c2
   try clear p2
   try clear c3
   try clear c3b0
   try clear c3b1
   try clear p6
   try clear c9
   try clear c9b0
   try clear c9b1
   obtain ⟨kq, x32_6, rfl, HA, HJ6, HB⟩ := hcut
   cases kq with
   | zero => exact absurd HA.out (by simp [rampartlaw04_TcpWrong.j0])
   | succ kj6 =>
    have H := HA.out
    clear HA
    simp only [rampartlaw04_TcpWrong.j0] at H
    by_cases c10 : x32_6 = true
    ·
     subst c10
     have H1 : (some false) = some r := by rw [if_pos rfl] at H; exact H
     clear H
     have H := H1
     clear H1
     exact absurd ((Option.some.inj H).trans HR.out) (by decide)
    ·
     replace c10 := Bool.eq_false_iff.mpr c10
     subst c10
     have H1 : ((rampartlaw00_Place.f a0 6).bind fun t166 => (if t166 = 0 then (if 0 ≤ 19 then (if 19 ≤ (t164.size : Int) then ((tcp_Get.f kj6 1 2 (t164.extract 0 19)).bind fun bt167 => (if bt167.2.2.2.2.2.2.2.2 = 2 then (if bt167.2.2.2.2.2.2.2.1.toList = ([] : List UInt8) then (if bt167.1 = 0 then ((rampartlaw04_awake.f kj6).bind fun t177 => (some t177)) else (some false)) else (some false)) else (some false))) else (none)) else (none)) else (if t166 = 1 then ((gosem_cut_init.f t164 12 64).bind fun t178 => ((tcp_Get.f kj6 1 2 t178).bind fun bt179 => (if bt179.2.2.2.2.2.2.2.2 = 3 then (if bt179.2.2.2.2.2.2.2.1.toList = ([] : List UInt8) then (if bt179.1 = 0 then ((rampartlaw04_awake.f kj6).bind fun t189 => (some t189)) else (some false)) else (some false)) else (some false)))) else (if t166 = 2 then (if 0 ≤ 22 then (if 22 ≤ (t164.size : Int) then ((tcp_Get.f kj6 1 2 (t164.extract 0 22)).bind fun bt190 => (if bt190.2.2.2.2.2.2.2.2 = 2 then (if bt190.2.2.2.2.2.2.2.1.toList = ([] : List UInt8) then (if bt190.1 = 0 then ((rampartlaw04_awake.f kj6).bind fun t200 => (some t200)) else (some false)) else (some false)) else (some false))) else (none)) else (none)) else (if t166 = 3 then (if 12 < (t164.size : Int) then ((gosem_cut_init.f t164 12 (Go.bits .or .u8 (bt t164 12) 1)).bind fun t201 => ((tcp_Get.f kj6 1 2 t201).bind fun bt202 => (if bt202.2.2.2.2.2.2.2.2 = 3 then (if bt202.2.2.2.2.2.2.2.1.toList = ([] : List UInt8) then (if bt202.1 = 0 then ((rampartlaw04_awake.f kj6).bind fun t212 => (some t212)) else (some false)) else (some false)) else (some false)))) else (none)) else (if t166 = 4 then ((gosem_cut_init.f t164 13 64).bind fun t213 => ((tcp_Get.f kj6 1 2 t213).bind fun bt214 => (if bt214.2.2.2.2.2.2.2.2 = 3 then (if bt214.2.2.2.2.2.2.2.1.toList = ([] : List UInt8) then (if bt214.1 = 0 then ((rampartlaw04_awake.f kj6).bind fun t224 => (some t224)) else (some false)) else (some false)) else (some false)))) else (if 15 < (t164.size : Int) then ((gosem_cut_init.f t164 15 (((bt t164 15) + 1) % 256)).bind fun t225 => ((tcp_Get.f kj6 1 2 t225).bind fun bt226 => (if bt226.2.2.2.2.2.2.2.2 = 4 then (if bt226.2.2.2.2.2.2.2.1.toList = ([] : List UInt8) then (if bt226.1 = 0 then ((rampartlaw04_awake.f kj6).bind fun t236 => (some t236)) else (some false)) else (some false)) else (some false)))) else (none)))))))) = some r := by rw [if_neg (show ¬ (false = true) by decide)] at H; exact H
     clear H
     have H := H1
     clear H1
     replace H := Option.bind_eq_some_iff.mp H
     obtain ⟨t166, A110, H⟩ := H
     replace H : (if t166 = 0 then (if 0 ≤ 19 then (if 19 ≤ (t164.size : Int) then ((tcp_Get.f kj6 1 2 (t164.extract 0 19)).bind fun bt167 => (if bt167.2.2.2.2.2.2.2.2 = 2 then (if bt167.2.2.2.2.2.2.2.1.toList = ([] : List UInt8) then (if bt167.1 = 0 then ((rampartlaw04_awake.f kj6).bind fun t177 => (some t177)) else (some false)) else (some false)) else (some false))) else (none)) else (none)) else (if t166 = 1 then ((gosem_cut_init.f t164 12 64).bind fun t178 => ((tcp_Get.f kj6 1 2 t178).bind fun bt179 => (if bt179.2.2.2.2.2.2.2.2 = 3 then (if bt179.2.2.2.2.2.2.2.1.toList = ([] : List UInt8) then (if bt179.1 = 0 then ((rampartlaw04_awake.f kj6).bind fun t189 => (some t189)) else (some false)) else (some false)) else (some false)))) else (if t166 = 2 then (if 0 ≤ 22 then (if 22 ≤ (t164.size : Int) then ((tcp_Get.f kj6 1 2 (t164.extract 0 22)).bind fun bt190 => (if bt190.2.2.2.2.2.2.2.2 = 2 then (if bt190.2.2.2.2.2.2.2.1.toList = ([] : List UInt8) then (if bt190.1 = 0 then ((rampartlaw04_awake.f kj6).bind fun t200 => (some t200)) else (some false)) else (some false)) else (some false))) else (none)) else (none)) else (if t166 = 3 then (if 12 < (t164.size : Int) then ((gosem_cut_init.f t164 12 (Go.bits .or .u8 (bt t164 12) 1)).bind fun t201 => ((tcp_Get.f kj6 1 2 t201).bind fun bt202 => (if bt202.2.2.2.2.2.2.2.2 = 3 then (if bt202.2.2.2.2.2.2.2.1.toList = ([] : List UInt8) then (if bt202.1 = 0 then ((rampartlaw04_awake.f kj6).bind fun t212 => (some t212)) else (some false)) else (some false)) else (some false)))) else (none)) else (if t166 = 4 then ((gosem_cut_init.f t164 13 64).bind fun t213 => ((tcp_Get.f kj6 1 2 t213).bind fun bt214 => (if bt214.2.2.2.2.2.2.2.2 = 3 then (if bt214.2.2.2.2.2.2.2.1.toList = ([] : List UInt8) then (if bt214.1 = 0 then ((rampartlaw04_awake.f kj6).bind fun t224 => (some t224)) else (some false)) else (some false)) else (some false)))) else (if 15 < (t164.size : Int) then ((gosem_cut_init.f t164 15 (((bt t164 15) + 1) % 256)).bind fun t225 => ((tcp_Get.f kj6 1 2 t225).bind fun bt226 => (if bt226.2.2.2.2.2.2.2.2 = 4 then (if bt226.2.2.2.2.2.2.2.1.toList = ([] : List UInt8) then (if bt226.1 = 0 then ((rampartlaw04_awake.f kj6).bind fun t236 => (some t236)) else (some false)) else (some false)) else (some false)))) else (none))))))) = some r := H
     have A11 := Aside0.mk A110
     clear A110
     by_cases c12 : t166 = 0
     ·
      rw [if_pos c12] at H
      have c12b0 : (t166 == 0) = true := beq_iff_eq.mpr c12
      have c12b1 : (t166 != 0) = false := bne_eq_false_iff_eq.mpr c12
      clear c12
      by_cases c13 : 0 ≤ 19
      ·
       rw [if_pos c13] at H
       have c13b0 := eq_true c13
       have c13b1 : decide (0 ≤ 19) = true := decide_eq_true c13
       clear c13
       by_cases c14 : 19 ≤ (t164.size : Int)
       ·
        rw [if_pos c14] at H
        have c14b0 := eq_true c14
        have c14b1 : decide (19 ≤ (t164.size : Int)) = true := decide_eq_true c14
        clear c14
        replace H := Option.bind_eq_some_iff.mp H
        obtain ⟨⟨t167, t168, t169, t170, t171, t172, t173, t174, t175⟩, A150, H⟩ := H
        replace H : (if t175 = 2 then (if t174.toList = ([] : List UInt8) then (if t167 = 0 then ((rampartlaw04_awake.f kj6).bind fun t177 => (some t177)) else (some false)) else (some false)) else (some false)) = some r := H
        have A15 := Aside0.mk A150
        clear A150
        by_cases c16 : t175 = 2
        ·
         rw [if_pos c16] at H
         have c16b0 : (t175 == 2) = true := beq_iff_eq.mpr c16
         have c16b1 : (t175 != 2) = false := bne_eq_false_iff_eq.mpr c16
         clear c16
         by_cases c17 : t174.toList = ([] : List UInt8)
         ·
          rw [if_pos c17] at H
          have c17b0 : (t174.toList == ([] : List UInt8)) = true := beq_iff_eq.mpr c17
          have c17b1 : (t174.toList != ([] : List UInt8)) = false := bne_eq_false_iff_eq.mpr c17
          clear c17
          by_cases c18 : t167 = 0
          ·
           rw [if_pos c18] at H
           have c18b0 : (t167 == 0) = true := beq_iff_eq.mpr c18
           have c18b1 : (t167 != 0) = false := bne_eq_false_iff_eq.mpr c18
           clear c18
           replace H := Option.bind_eq_some_iff.mp H
           obtain ⟨t177, A190, H⟩ := H
           replace H : (some t177) = some r := H
           have A19 := Aside0.mk A190
           clear A190
           obtain rfl := Option.some.inj H
           have hconv8 := fun (s : ByteArray) (w : World) => Lib.run_convert_string_bytes (P := Try.prog) w 9 34 5 s Try.underlying9 Try.underlying34 Try.underlying5
           have ht_ : t166 = 0 := beq_iff_eq.mp c12b0
           have hix_ : ∀ w : World, (Instr.index 50 (.agg #[.int .i64 2, .int .i64 3, .int .i64 2, .int .i64 3, .int .i64 3, .int .i64 4]) (.int .i64 0)).run Try.prog w = .ok (.int .i64 2) w := fun w => by kernel_rfl
           go_wp2_with (first | ((with_reducible refine gate_dst (N := 34) rfl ?_); refine conv_event_c ?hg (N := 34) ?hd (s := t164) ?hr ?_; (case hd => rfl); (case hg => rfl); (case hr => first | (go_simp; done) | (go_simp; rfl)); intro g8 hg8 c8 hcc_ w8 hrow8 hb8; have BB := Aside0.mk hrow8; have BL := Aside0.mk hb8; have GG := Aside0.mk (show wc.heap.size ≤ g8 from Nat.le_of_eq hg8.symm); clear hrow8 hg8 hb8) | ((with_reducible refine gate_callee (f := 23) rfl ?_); refine goesL_ (some 36) rfl rfl Try.func23 (by kernel_rfl) rfl #[.int .i64 a0, .int .i64 6] rfl (by (try simp only [List.map_toArray, List.map_cons, List.map_nil]); first | done | rfl | (simp only [List.length_drop, List.length_take]; rfl)) ?_; (with_reducible refine (rampartlaw00_Place.calls a0 6 t166 _ A11.out).mono ?_); rintro e w' ⟨rfl, ⟨nd, rfl⟩⟩; refine ⟨_, rfl, ?_⟩; (try (rw [drewN_self wc]; generalize hq_ : World.drewN wc _ = wc; have n0_ : Aside0 (Below w.heap.size w wc) := ⟨by rw [← hq_]; exact (by repeat (first | (with_reducible first | exact HB.out | apply below_alloc | apply pw_below_drewN | apply below_drew1) | exact HB.out))⟩; clear HB hq_; have HB := n0_; clear n0_)); have B1_ := row8_drewN BB.out nd; have RB8 := Aside0.mk B1_; have hz8_ : 19 ≤ t164.size := (by have hz_ : (19 : Int) ≤ (t164.size : Int) := of_decide_eq_true (by first | (with_reducible assumption) | assumption); omega); have hzi_ : ((19 : Int) ≤ (t164.size : Int)) = True := eq_true (by omega); have hzn_ : (19 ≤ t164.size) = True := eq_true hz8_; have hcn_ : (19 ≤ c8) = True := eq_true (by omega); have hci_ : ((19 : Int) ≤ (c8 : Int)) = True := eq_true (by omega); clear B1_) | ((with_reducible refine gate_dst (N := 73) rfl ?_); refine pre_row ?hg (N := 73) ?hd (g := g8) (n := 19) (s := t164) Try.underlying34 Try.underlying5 Try.underlying9 ?hrow ?hn ?hr ?_; (case hd => rfl); (case hg => rfl); (case hrow => exact RB8.out); (case hn => exact hz8_); (case hr => intro hback; first | (go_simp; done) | (go_simp; rfl)); intro w70 hw8; have hb : Below wc.heap.size wc w70 := (by rw [hw8]; exact pw_below_drewN BL.out nd); clear hw8; have n0_ := Aside0.mk (below_step HB.out hb); clear HB; have HB := n0_; clear n0_ hb) | ((with_reducible refine gate_callee (f := 27) rfl ?_); refine goesL_ (some 74) rfl rfl Try.func27 (by kernel_rfl) rfl #[.int .u32 1, .int .u32 2, .string (t164.extract 0 19)] rfl (by (try simp only [List.map_toArray, List.map_cons, List.map_nil]); first | done | rfl | (simp only [List.length_drop, List.length_take]; rfl)) ?_; (with_reducible refine (tcp_Get.calls kj6 1 2 (t164.extract 0 19) t167 t168 t169 t170 t171 t172 t173 t174 t175 _ A15.out).mono ?_); rintro e w20 ⟨rfl, hb⟩; refine ⟨_, rfl, ?_⟩; have n0_ := Aside0.mk (below_step (by repeat (first | (with_reducible first | exact HB.out | apply below_alloc | apply pw_below_drewN | apply below_drew1) | exact HB.out)) hb); clear HB; have HB := n0_; clear n0_; (try clear hb); (try clear hb2); (try clear hk); (try clear hi)) | ((with_reducible refine gate_dst (N := 10) rfl ?_); (try (refine gate_guard (by rfl) ?_; dsimp only)); refine box_event ?hg (N := 10) ?hd (cs := #[.int .i64 0, .int .i64 0, .int .u32 0, .int .u32 0, .int .i64 0, .int .i64 0, .string (⟨#[]⟩ : ByteArray)]) (t := 42) ?hr ?_; (case hd => rfl); (case hg => rfl); (case hr => first | (go_simp; done) | (go_simp; rfl)); intro gb176 hg w21 hbox hb; have n0_ := Aside0.mk (below_step (by repeat (first | (with_reducible first | exact HB.out | apply below_alloc | apply pw_below_drewN | apply below_drew1) | exact HB.out)) hb); have n1_ := Aside0.mk (hbox); have n2_ := Aside0.mk ((by rw [hg]; exact (below_size (by repeat (first | (with_reducible first | exact HB.out | apply below_alloc | apply pw_below_drewN | apply below_drew1) | exact HB.out))) : w.heap.size ≤ gb176)); have n3_ := Aside0.mk ((by rw [hg]; exact (below_size (by repeat (first | (with_reducible first | exact HB.out | apply below_alloc | apply pw_below_drewN | apply below_drew1) | exact HB.out))) : w.heap.size ≤ gb176)); clear HB; have HB := n0_; have BK176 := n1_; have GW176 := n2_; have GE176 := n3_; clear n0_ n1_ n2_ n3_; clear hb hbox hg; have hcz22_0 : w21.cell? ⟨gb176, 0, none⟩ = some (.int .i64 0) := (blk_cell BK176.out 0).trans rfl; have hcz22_1 : w21.cell? ⟨gb176, 1, none⟩ = some (.int .i64 0) := (blk_cell BK176.out 1).trans rfl; have hcz22_2 : w21.cell? ⟨gb176, 2, none⟩ = some (.int .u32 0) := (blk_cell BK176.out 2).trans rfl; have hcz22_3 : w21.cell? ⟨gb176, 3, none⟩ = some (.int .u32 0) := (blk_cell BK176.out 3).trans rfl; have hcz22_4 : w21.cell? ⟨gb176, 4, none⟩ = some (.int .i64 0) := (blk_cell BK176.out 4).trans rfl; have hcz22_5 : w21.cell? ⟨gb176, 5, none⟩ = some (.int .i64 0) := (blk_cell BK176.out 5).trans rfl; have hcz22_6 : w21.cell? ⟨gb176, 6, none⟩ = some (.string (⟨#[]⟩ : ByteArray)) := (blk_cell BK176.out 6).trans rfl; have hfz22_0 := blk_frozen BK176.out 0; have hfz22_1 := blk_frozen BK176.out 1; have hfz22_2 := blk_frozen BK176.out 2; have hfz22_3 := blk_frozen BK176.out 3; have hfz22_4 := blk_frozen BK176.out 4; have hfz22_5 := blk_frozen BK176.out 5; have hfz22_6 := blk_frozen BK176.out 6) | (go_at_call 24; (with_reducible refine (rampartlaw04_awake.calls kj6  t177 _ A19.out (by first | rfl | exact HR.out)).mono ?_); rintro e w23 ⟨rfl, hb⟩; have n0_ := Aside0.mk (blk_below (g := gb176) (o := .cells #[.int .i64 t167, .int .i64 t168, .int .u32 t169, .int .u32 t170, .int .i64 t171, .int .i64 t172, .string t173] 42 (0, 0)) (by (with_reducible repeat (first | refine blk_drewN ?_ _ | refine blk_drew ?_ | refine blk_alloc ?_ _)); refine blk_put (cs := #[.int .i64 t167, .int .i64 t168, .int .u32 t169, .int .u32 t170, .int .i64 t171, .int .i64 t172, .string (⟨#[]⟩ : ByteArray)]) ?_ 6 _ rfl; (with_reducible repeat (first | refine blk_drewN ?_ _ | refine blk_drew ?_ | refine blk_alloc ?_ _)); refine blk_put (cs := #[.int .i64 t167, .int .i64 t168, .int .u32 t169, .int .u32 t170, .int .i64 t171, .int .i64 0, .string (⟨#[]⟩ : ByteArray)]) ?_ 5 _ rfl; (with_reducible repeat (first | refine blk_drewN ?_ _ | refine blk_drew ?_ | refine blk_alloc ?_ _)); refine blk_put (cs := #[.int .i64 t167, .int .i64 t168, .int .u32 t169, .int .u32 t170, .int .i64 0, .int .i64 0, .string (⟨#[]⟩ : ByteArray)]) ?_ 4 _ rfl; (with_reducible repeat (first | refine blk_drewN ?_ _ | refine blk_drew ?_ | refine blk_alloc ?_ _)); refine blk_put (cs := #[.int .i64 t167, .int .i64 t168, .int .u32 t169, .int .u32 0, .int .i64 0, .int .i64 0, .string (⟨#[]⟩ : ByteArray)]) ?_ 3 _ rfl; (with_reducible repeat (first | refine blk_drewN ?_ _ | refine blk_drew ?_ | refine blk_alloc ?_ _)); refine blk_put (cs := #[.int .i64 t167, .int .i64 t168, .int .u32 0, .int .u32 0, .int .i64 0, .int .i64 0, .string (⟨#[]⟩ : ByteArray)]) ?_ 2 _ rfl; (with_reducible repeat (first | refine blk_drewN ?_ _ | refine blk_drew ?_ | refine blk_alloc ?_ _)); refine blk_put (cs := #[.int .i64 t167, .int .i64 0, .int .u32 0, .int .u32 0, .int .i64 0, .int .i64 0, .string (⟨#[]⟩ : ByteArray)]) ?_ 1 _ rfl; (with_reducible repeat (first | refine blk_drewN ?_ _ | refine blk_drew ?_ | refine blk_alloc ?_ _)); refine blk_put (cs := #[.int .i64 0, .int .i64 0, .int .u32 0, .int .u32 0, .int .i64 0, .int .i64 0, .string (⟨#[]⟩ : ByteArray)]) ?_ 0 _ rfl; (with_reducible repeat (first | refine blk_drewN ?_ _ | refine blk_drew ?_ | refine blk_alloc ?_ _)); exact BK176.out) hb); have n1_ := Aside0.mk (below_step (by repeat (first | (with_reducible first | exact HB.out | apply below_alloc | apply pw_below_drewN | apply below_drew1 | refine below_set ?_ GE176.out) | exact HB.out)) hb); clear BK176; clear HB; have BK176 := n0_; have HB := n1_; clear n0_ n1_; (try clear hb); (try clear hb2); (try clear hk); (try clear hi)))
           go_ret
           exact ⟨by first | rfl | (simp [errW_none, errW_some] <;> rfl) | (simp [*, errW_none, errW_some] <;> rfl), by repeat (first | (with_reducible first | exact HB.out | apply below_alloc | apply pw_below_drewN | apply below_drew1 | refine below_set ?_ GE176.out) | exact HB.out)⟩
          ·
           rw [if_neg c18] at H
           have c18b0 : (t167 == 0) = false := beq_eq_false_iff_ne.mpr c18
           have c18b1 : (t167 != 0) = true := bne_iff_ne.mpr c18
           exact absurd ((Option.some.inj H).trans HR.out) (by decide)
         ·
          rw [if_neg c17] at H
          have c17b0 : (t174.toList == ([] : List UInt8)) = false := beq_eq_false_iff_ne.mpr c17
          have c17b1 : (t174.toList != ([] : List UInt8)) = true := bne_iff_ne.mpr c17
          exact absurd ((Option.some.inj H).trans HR.out) (by decide)
        ·
         rw [if_neg c16] at H
         have c16b0 : (t175 == 2) = false := beq_eq_false_iff_ne.mpr c16
         have c16b1 : (t175 != 2) = true := bne_iff_ne.mpr c16
         exact absurd ((Option.some.inj H).trans HR.out) (by decide)
       ·
        rw [if_neg c14] at H
        exact absurd H (by simp)
      ·
       rw [if_neg c13] at H
       exact absurd H (by simp)
     ·
      rw [if_neg c12] at H
      have c12b0 : (t166 == 0) = false := beq_eq_false_iff_ne.mpr c12
      have c12b1 : (t166 != 0) = true := bne_iff_ne.mpr c12
      by_cases c24 : t166 = 1
      ·
       rw [if_pos c24] at H
       have c24b0 : (t166 == 1) = true := beq_iff_eq.mpr c24
       have c24b1 : (t166 != 1) = false := bne_eq_false_iff_eq.mpr c24
       clear c24
       replace H := Option.bind_eq_some_iff.mp H
       obtain ⟨t178, A250, H⟩ := H
       replace H : ((tcp_Get.f kj6 1 2 t178).bind fun bt179 => (if bt179.2.2.2.2.2.2.2.2 = 3 then (if bt179.2.2.2.2.2.2.2.1.toList = ([] : List UInt8) then (if bt179.1 = 0 then ((rampartlaw04_awake.f kj6).bind fun t189 => (some t189)) else (some false)) else (some false)) else (some false))) = some r := H
       have A25 := Aside0.mk A250
       clear A250
       replace H := Option.bind_eq_some_iff.mp H
       obtain ⟨⟨t179, t180, t181, t182, t183, t184, t185, t186, t187⟩, A260, H⟩ := H
       replace H : (if t187 = 3 then (if t186.toList = ([] : List UInt8) then (if t179 = 0 then ((rampartlaw04_awake.f kj6).bind fun t189 => (some t189)) else (some false)) else (some false)) else (some false)) = some r := H
       have A26 := Aside0.mk A260
       clear A260
       by_cases c27 : t187 = 3
       ·
        rw [if_pos c27] at H
        have c27b0 : (t187 == 3) = true := beq_iff_eq.mpr c27
        have c27b1 : (t187 != 3) = false := bne_eq_false_iff_eq.mpr c27
        clear c27
        by_cases c28 : t186.toList = ([] : List UInt8)
        ·
         rw [if_pos c28] at H
         have c28b0 : (t186.toList == ([] : List UInt8)) = true := beq_iff_eq.mpr c28
         have c28b1 : (t186.toList != ([] : List UInt8)) = false := bne_eq_false_iff_eq.mpr c28
         clear c28
         by_cases c29 : t179 = 0
         ·
          rw [if_pos c29] at H
          have c29b0 : (t179 == 0) = true := beq_iff_eq.mpr c29
          have c29b1 : (t179 != 0) = false := bne_eq_false_iff_eq.mpr c29
          clear c29
          replace H := Option.bind_eq_some_iff.mp H
          obtain ⟨t189, A300, H⟩ := H
          replace H : (some t189) = some r := H
          have A30 := Aside0.mk A300
          clear A300
          obtain rfl := Option.some.inj H
          have hconv8 := fun (s : ByteArray) (w : World) => Lib.run_convert_string_bytes (P := Try.prog) w 9 34 5 s Try.underlying9 Try.underlying34 Try.underlying5
          have ht_ : t166 = 1 := beq_iff_eq.mp c24b0
          have hix_ : ∀ w : World, (Instr.index 50 (.agg #[.int .i64 2, .int .i64 3, .int .i64 2, .int .i64 3, .int .i64 3, .int .i64 4]) (.int .i64 1)).run Try.prog w = .ok (.int .i64 3) w := fun w => by kernel_rfl
          go_wp2_with (first | ((with_reducible refine gate_dst (N := 34) rfl ?_); refine conv_event_c ?hg (N := 34) ?hd (s := t164) ?hr ?_; (case hd => rfl); (case hg => rfl); (case hr => first | (go_simp; done) | (go_simp; rfl)); intro g8 hg8 c8 hcc_ w8 hrow8 hb8; have BB := Aside0.mk hrow8; have BL := Aside0.mk hb8; have GG := Aside0.mk (show wc.heap.size ≤ g8 from Nat.le_of_eq hg8.symm); clear hrow8 hg8 hb8) | ((with_reducible refine gate_callee (f := 23) rfl ?_); refine goesL_ (some 36) rfl rfl Try.func23 (by kernel_rfl) rfl #[.int .i64 a0, .int .i64 6] rfl (by (try simp only [List.map_toArray, List.map_cons, List.map_nil]); first | done | rfl | (simp only [List.length_drop, List.length_take]; rfl)) ?_; (with_reducible refine (rampartlaw00_Place.calls a0 6 t166 _ A11.out).mono ?_); rintro e w' ⟨rfl, ⟨nd, rfl⟩⟩; refine ⟨_, rfl, ?_⟩; (try (rw [drewN_self wc]; generalize hq_ : World.drewN wc _ = wc; have n0_ : Aside0 (Below w.heap.size w wc) := ⟨by rw [← hq_]; exact (by repeat (first | (with_reducible first | exact HB.out | apply below_alloc | apply pw_below_drewN | apply below_drew1) | exact HB.out))⟩; clear HB hq_; have HB := n0_; clear n0_)); have B1_ := row8_drewN BB.out nd; have SB0 := set_bounds A25.out; have hc8_0 : (World.drewN w8 nd).cell? ⟨g8, 12, none⟩ = some (.int .u8 (bt t164 (12))) := row8_cell B1_ (i := 12) SB0.1 SB0.2; have hf8_0 : (World.drewN w8 nd).frozen? ⟨g8, 12, none⟩ = false := row8_frozen B1_ (i := 12) SB0.1 SB0.2; have TT0 := set_eq A25.out; have RB8 : Aside0 (Row8 ((World.drewN w8 nd).setCell ⟨g8, 12, none⟩ (.int .u8 (64))) g8 t178) := ⟨(by rw [TT0]; exact row8_set B1_ (i := 12) (v := 64) SB0.1 SB0.2 (by first | decide | exact (bits8_range _ _ _).1 | omega) (by first | decide | exact (bits8_range _ _ _).2 | omega))⟩; have hz8_ : t178.size = t164.size := (by rw [TT0, bset_size]); clear B1_) | ((with_reducible refine gate_dst (N := 73) rfl ?_); refine back_row ?hg (N := 73) ?hd (g := g8) (n := t164.size) (s := t178) Try.underlying34 Try.underlying5 Try.underlying9 ?hrow ?hn ?hr ?_; (case hd => rfl); (case hg => rfl); (case hrow => exact RB8.out); (case hn => exact hz8_.symm); (case hr => intro hback; first | (go_simp; done) | (go_simp; rfl)); intro w31 hw8; have hb : Below wc.heap.size wc w31 := (by rw [hw8]; exact below_set (j := 12) (v := .int .u8 (64)) (pw_below_drewN BL.out nd) GG.out); clear hw8; have n0_ := Aside0.mk (below_step (by repeat (first | (with_reducible first | exact HB.out | apply below_alloc | apply pw_below_drewN | apply below_drew1) | exact HB.out)) hb); clear HB; have HB := n0_; clear n0_; (try clear hb); (try clear hb2); (try clear hk); (try clear hi)) | ((with_reducible refine gate_callee (f := 27) rfl ?_); refine goesL_ (some 74) rfl rfl Try.func27 (by kernel_rfl) rfl #[.int .u32 1, .int .u32 2, .string t178] rfl (by (try simp only [List.map_toArray, List.map_cons, List.map_nil]); first | done | rfl | (simp only [List.length_drop, List.length_take]; rfl)) ?_; (with_reducible refine (tcp_Get.calls kj6 1 2 t178 t179 t180 t181 t182 t183 t184 t185 t186 t187 _ A26.out).mono ?_); rintro e w32 ⟨rfl, hb⟩; refine ⟨_, rfl, ?_⟩; have n0_ := Aside0.mk (below_step (by repeat (first | (with_reducible first | exact HB.out | apply below_alloc | apply pw_below_drewN | apply below_drew1) | exact HB.out)) hb); clear HB; have HB := n0_; clear n0_; (try clear hb); (try clear hb2); (try clear hk); (try clear hi)) | ((with_reducible refine gate_dst (N := 10) rfl ?_); (try (refine gate_guard (by rfl) ?_; dsimp only)); refine box_event ?hg (N := 10) ?hd (cs := #[.int .i64 0, .int .i64 0, .int .u32 0, .int .u32 0, .int .i64 0, .int .i64 0, .string (⟨#[]⟩ : ByteArray)]) (t := 42) ?hr ?_; (case hd => rfl); (case hg => rfl); (case hr => first | (go_simp; done) | (go_simp; rfl)); intro gb188 hg w33 hbox hb; have n0_ := Aside0.mk (below_step (by repeat (first | (with_reducible first | exact HB.out | apply below_alloc | apply pw_below_drewN | apply below_drew1) | exact HB.out)) hb); have n1_ := Aside0.mk (hbox); have n2_ := Aside0.mk ((by rw [hg]; exact (below_size (by repeat (first | (with_reducible first | exact HB.out | apply below_alloc | apply pw_below_drewN | apply below_drew1) | exact HB.out))) : w.heap.size ≤ gb188)); have n3_ := Aside0.mk ((by rw [hg]; exact (below_size (by repeat (first | (with_reducible first | exact HB.out | apply below_alloc | apply pw_below_drewN | apply below_drew1) | exact HB.out))) : w.heap.size ≤ gb188)); clear HB; have HB := n0_; have BK188 := n1_; have GW188 := n2_; have GE188 := n3_; clear n0_ n1_ n2_ n3_; clear hb hbox hg; have hcz34_0 : w33.cell? ⟨gb188, 0, none⟩ = some (.int .i64 0) := (blk_cell BK188.out 0).trans rfl; have hcz34_1 : w33.cell? ⟨gb188, 1, none⟩ = some (.int .i64 0) := (blk_cell BK188.out 1).trans rfl; have hcz34_2 : w33.cell? ⟨gb188, 2, none⟩ = some (.int .u32 0) := (blk_cell BK188.out 2).trans rfl; have hcz34_3 : w33.cell? ⟨gb188, 3, none⟩ = some (.int .u32 0) := (blk_cell BK188.out 3).trans rfl; have hcz34_4 : w33.cell? ⟨gb188, 4, none⟩ = some (.int .i64 0) := (blk_cell BK188.out 4).trans rfl; have hcz34_5 : w33.cell? ⟨gb188, 5, none⟩ = some (.int .i64 0) := (blk_cell BK188.out 5).trans rfl; have hcz34_6 : w33.cell? ⟨gb188, 6, none⟩ = some (.string (⟨#[]⟩ : ByteArray)) := (blk_cell BK188.out 6).trans rfl; have hfz34_0 := blk_frozen BK188.out 0; have hfz34_1 := blk_frozen BK188.out 1; have hfz34_2 := blk_frozen BK188.out 2; have hfz34_3 := blk_frozen BK188.out 3; have hfz34_4 := blk_frozen BK188.out 4; have hfz34_5 := blk_frozen BK188.out 5; have hfz34_6 := blk_frozen BK188.out 6) | (go_at_call 24; (with_reducible refine (rampartlaw04_awake.calls kj6  t189 _ A30.out (by first | rfl | exact HR.out)).mono ?_); rintro e w35 ⟨rfl, hb⟩; have n0_ := Aside0.mk (blk_below (g := gb188) (o := .cells #[.int .i64 t179, .int .i64 t180, .int .u32 t181, .int .u32 t182, .int .i64 t183, .int .i64 t184, .string t185] 42 (0, 0)) (by (with_reducible repeat (first | refine blk_drewN ?_ _ | refine blk_drew ?_ | refine blk_alloc ?_ _)); refine blk_put (cs := #[.int .i64 t179, .int .i64 t180, .int .u32 t181, .int .u32 t182, .int .i64 t183, .int .i64 t184, .string (⟨#[]⟩ : ByteArray)]) ?_ 6 _ rfl; (with_reducible repeat (first | refine blk_drewN ?_ _ | refine blk_drew ?_ | refine blk_alloc ?_ _)); refine blk_put (cs := #[.int .i64 t179, .int .i64 t180, .int .u32 t181, .int .u32 t182, .int .i64 t183, .int .i64 0, .string (⟨#[]⟩ : ByteArray)]) ?_ 5 _ rfl; (with_reducible repeat (first | refine blk_drewN ?_ _ | refine blk_drew ?_ | refine blk_alloc ?_ _)); refine blk_put (cs := #[.int .i64 t179, .int .i64 t180, .int .u32 t181, .int .u32 t182, .int .i64 0, .int .i64 0, .string (⟨#[]⟩ : ByteArray)]) ?_ 4 _ rfl; (with_reducible repeat (first | refine blk_drewN ?_ _ | refine blk_drew ?_ | refine blk_alloc ?_ _)); refine blk_put (cs := #[.int .i64 t179, .int .i64 t180, .int .u32 t181, .int .u32 0, .int .i64 0, .int .i64 0, .string (⟨#[]⟩ : ByteArray)]) ?_ 3 _ rfl; (with_reducible repeat (first | refine blk_drewN ?_ _ | refine blk_drew ?_ | refine blk_alloc ?_ _)); refine blk_put (cs := #[.int .i64 t179, .int .i64 t180, .int .u32 0, .int .u32 0, .int .i64 0, .int .i64 0, .string (⟨#[]⟩ : ByteArray)]) ?_ 2 _ rfl; (with_reducible repeat (first | refine blk_drewN ?_ _ | refine blk_drew ?_ | refine blk_alloc ?_ _)); refine blk_put (cs := #[.int .i64 t179, .int .i64 0, .int .u32 0, .int .u32 0, .int .i64 0, .int .i64 0, .string (⟨#[]⟩ : ByteArray)]) ?_ 1 _ rfl; (with_reducible repeat (first | refine blk_drewN ?_ _ | refine blk_drew ?_ | refine blk_alloc ?_ _)); refine blk_put (cs := #[.int .i64 0, .int .i64 0, .int .u32 0, .int .u32 0, .int .i64 0, .int .i64 0, .string (⟨#[]⟩ : ByteArray)]) ?_ 0 _ rfl; (with_reducible repeat (first | refine blk_drewN ?_ _ | refine blk_drew ?_ | refine blk_alloc ?_ _)); exact BK188.out) hb); have n1_ := Aside0.mk (below_step (by repeat (first | (with_reducible first | exact HB.out | apply below_alloc | apply pw_below_drewN | apply below_drew1 | refine below_set ?_ GE188.out) | exact HB.out)) hb); clear BK188; clear HB; have BK188 := n0_; have HB := n1_; clear n0_ n1_; (try clear hb); (try clear hb2); (try clear hk); (try clear hi)))
          go_ret
          exact ⟨by first | rfl | (simp [errW_none, errW_some] <;> rfl) | (simp [*, errW_none, errW_some] <;> rfl), by repeat (first | (with_reducible first | exact HB.out | apply below_alloc | apply pw_below_drewN | apply below_drew1 | refine below_set ?_ GE188.out) | exact HB.out)⟩
         ·
          rw [if_neg c29] at H
          have c29b0 : (t179 == 0) = false := beq_eq_false_iff_ne.mpr c29
          have c29b1 : (t179 != 0) = true := bne_iff_ne.mpr c29
          exact absurd ((Option.some.inj H).trans HR.out) (by decide)
        ·
         rw [if_neg c28] at H
         have c28b0 : (t186.toList == ([] : List UInt8)) = false := beq_eq_false_iff_ne.mpr c28
         have c28b1 : (t186.toList != ([] : List UInt8)) = true := bne_iff_ne.mpr c28
         exact absurd ((Option.some.inj H).trans HR.out) (by decide)
       ·
        rw [if_neg c27] at H
        have c27b0 : (t187 == 3) = false := beq_eq_false_iff_ne.mpr c27
        have c27b1 : (t187 != 3) = true := bne_iff_ne.mpr c27
        exact absurd ((Option.some.inj H).trans HR.out) (by decide)
      ·
       rw [if_neg c24] at H
       have c24b0 : (t166 == 1) = false := beq_eq_false_iff_ne.mpr c24
       have c24b1 : (t166 != 1) = true := bne_iff_ne.mpr c24
       by_cases c36 : t166 = 2
       ·
        rw [if_pos c36] at H
        have c36b0 : (t166 == 2) = true := beq_iff_eq.mpr c36
        have c36b1 : (t166 != 2) = false := bne_eq_false_iff_eq.mpr c36
        clear c36
        by_cases c37 : 0 ≤ 22
        ·
         rw [if_pos c37] at H
         have c37b0 := eq_true c37
         have c37b1 : decide (0 ≤ 22) = true := decide_eq_true c37
         clear c37
         by_cases c38 : 22 ≤ (t164.size : Int)
         ·
          rw [if_pos c38] at H
          have c38b0 := eq_true c38
          have c38b1 : decide (22 ≤ (t164.size : Int)) = true := decide_eq_true c38
          clear c38
          replace H := Option.bind_eq_some_iff.mp H
          obtain ⟨⟨t190, t191, t192, t193, t194, t195, t196, t197, t198⟩, A390, H⟩ := H
          replace H : (if t198 = 2 then (if t197.toList = ([] : List UInt8) then (if t190 = 0 then ((rampartlaw04_awake.f kj6).bind fun t200 => (some t200)) else (some false)) else (some false)) else (some false)) = some r := H
          have A39 := Aside0.mk A390
          clear A390
          by_cases c40 : t198 = 2
          ·
           rw [if_pos c40] at H
           have c40b0 : (t198 == 2) = true := beq_iff_eq.mpr c40
           have c40b1 : (t198 != 2) = false := bne_eq_false_iff_eq.mpr c40
           clear c40
           by_cases c41 : t197.toList = ([] : List UInt8)
           ·
            rw [if_pos c41] at H
            have c41b0 : (t197.toList == ([] : List UInt8)) = true := beq_iff_eq.mpr c41
            have c41b1 : (t197.toList != ([] : List UInt8)) = false := bne_eq_false_iff_eq.mpr c41
            clear c41
            by_cases c42 : t190 = 0
            ·
             rw [if_pos c42] at H
             have c42b0 : (t190 == 0) = true := beq_iff_eq.mpr c42
             have c42b1 : (t190 != 0) = false := bne_eq_false_iff_eq.mpr c42
             clear c42
             replace H := Option.bind_eq_some_iff.mp H
             obtain ⟨t200, A430, H⟩ := H
             replace H : (some t200) = some r := H
             have A43 := Aside0.mk A430
             clear A430
             obtain rfl := Option.some.inj H
             have hconv8 := fun (s : ByteArray) (w : World) => Lib.run_convert_string_bytes (P := Try.prog) w 9 34 5 s Try.underlying9 Try.underlying34 Try.underlying5
             have ht_ : t166 = 2 := beq_iff_eq.mp c36b0
             have hix_ : ∀ w : World, (Instr.index 50 (.agg #[.int .i64 2, .int .i64 3, .int .i64 2, .int .i64 3, .int .i64 3, .int .i64 4]) (.int .i64 2)).run Try.prog w = .ok (.int .i64 2) w := fun w => by kernel_rfl
             go_wp2_with (first | ((with_reducible refine gate_dst (N := 34) rfl ?_); refine conv_event_c ?hg (N := 34) ?hd (s := t164) ?hr ?_; (case hd => rfl); (case hg => rfl); (case hr => first | (go_simp; done) | (go_simp; rfl)); intro g8 hg8 c8 hcc_ w8 hrow8 hb8; have BB := Aside0.mk hrow8; have BL := Aside0.mk hb8; have GG := Aside0.mk (show wc.heap.size ≤ g8 from Nat.le_of_eq hg8.symm); clear hrow8 hg8 hb8) | ((with_reducible refine gate_callee (f := 23) rfl ?_); refine goesL_ (some 36) rfl rfl Try.func23 (by kernel_rfl) rfl #[.int .i64 a0, .int .i64 6] rfl (by (try simp only [List.map_toArray, List.map_cons, List.map_nil]); first | done | rfl | (simp only [List.length_drop, List.length_take]; rfl)) ?_; (with_reducible refine (rampartlaw00_Place.calls a0 6 t166 _ A11.out).mono ?_); rintro e w' ⟨rfl, ⟨nd, rfl⟩⟩; refine ⟨_, rfl, ?_⟩; (try (rw [drewN_self wc]; generalize hq_ : World.drewN wc _ = wc; have n0_ : Aside0 (Below w.heap.size w wc) := ⟨by rw [← hq_]; exact (by repeat (first | (with_reducible first | exact HB.out | apply below_alloc | apply pw_below_drewN | apply below_drew1) | exact HB.out))⟩; clear HB hq_; have HB := n0_; clear n0_)); have B1_ := row8_drewN BB.out nd; have RB8 := Aside0.mk B1_; have hz8_ : 22 ≤ t164.size := (by have hz_ : (22 : Int) ≤ (t164.size : Int) := of_decide_eq_true (by first | (with_reducible assumption) | assumption); omega); have hzi_ : ((22 : Int) ≤ (t164.size : Int)) = True := eq_true (by omega); have hzn_ : (22 ≤ t164.size) = True := eq_true hz8_; have hcn_ : (22 ≤ c8) = True := eq_true (by omega); have hci_ : ((22 : Int) ≤ (c8 : Int)) = True := eq_true (by omega); clear B1_) | ((with_reducible refine gate_dst (N := 73) rfl ?_); refine pre_row ?hg (N := 73) ?hd (g := g8) (n := 22) (s := t164) Try.underlying34 Try.underlying5 Try.underlying9 ?hrow ?hn ?hr ?_; (case hd => rfl); (case hg => rfl); (case hrow => exact RB8.out); (case hn => exact hz8_); (case hr => intro hback; first | (go_simp; done) | (go_simp; rfl)); intro w70 hw8; have hb : Below wc.heap.size wc w70 := (by rw [hw8]; exact pw_below_drewN BL.out nd); clear hw8; have n0_ := Aside0.mk (below_step HB.out hb); clear HB; have HB := n0_; clear n0_ hb) | ((with_reducible refine gate_callee (f := 27) rfl ?_); refine goesL_ (some 74) rfl rfl Try.func27 (by kernel_rfl) rfl #[.int .u32 1, .int .u32 2, .string (t164.extract 0 22)] rfl (by (try simp only [List.map_toArray, List.map_cons, List.map_nil]); first | done | rfl | (simp only [List.length_drop, List.length_take]; rfl)) ?_; (with_reducible refine (tcp_Get.calls kj6 1 2 (t164.extract 0 22) t190 t191 t192 t193 t194 t195 t196 t197 t198 _ A39.out).mono ?_); rintro e w44 ⟨rfl, hb⟩; refine ⟨_, rfl, ?_⟩; have n0_ := Aside0.mk (below_step (by repeat (first | (with_reducible first | exact HB.out | apply below_alloc | apply pw_below_drewN | apply below_drew1) | exact HB.out)) hb); clear HB; have HB := n0_; clear n0_; (try clear hb); (try clear hb2); (try clear hk); (try clear hi)) | ((with_reducible refine gate_dst (N := 10) rfl ?_); (try (refine gate_guard (by rfl) ?_; dsimp only)); refine box_event ?hg (N := 10) ?hd (cs := #[.int .i64 0, .int .i64 0, .int .u32 0, .int .u32 0, .int .i64 0, .int .i64 0, .string (⟨#[]⟩ : ByteArray)]) (t := 42) ?hr ?_; (case hd => rfl); (case hg => rfl); (case hr => first | (go_simp; done) | (go_simp; rfl)); intro gb199 hg w45 hbox hb; have n0_ := Aside0.mk (below_step (by repeat (first | (with_reducible first | exact HB.out | apply below_alloc | apply pw_below_drewN | apply below_drew1) | exact HB.out)) hb); have n1_ := Aside0.mk (hbox); have n2_ := Aside0.mk ((by rw [hg]; exact (below_size (by repeat (first | (with_reducible first | exact HB.out | apply below_alloc | apply pw_below_drewN | apply below_drew1) | exact HB.out))) : w.heap.size ≤ gb199)); have n3_ := Aside0.mk ((by rw [hg]; exact (below_size (by repeat (first | (with_reducible first | exact HB.out | apply below_alloc | apply pw_below_drewN | apply below_drew1) | exact HB.out))) : w.heap.size ≤ gb199)); clear HB; have HB := n0_; have BK199 := n1_; have GW199 := n2_; have GE199 := n3_; clear n0_ n1_ n2_ n3_; clear hb hbox hg; have hcz46_0 : w45.cell? ⟨gb199, 0, none⟩ = some (.int .i64 0) := (blk_cell BK199.out 0).trans rfl; have hcz46_1 : w45.cell? ⟨gb199, 1, none⟩ = some (.int .i64 0) := (blk_cell BK199.out 1).trans rfl; have hcz46_2 : w45.cell? ⟨gb199, 2, none⟩ = some (.int .u32 0) := (blk_cell BK199.out 2).trans rfl; have hcz46_3 : w45.cell? ⟨gb199, 3, none⟩ = some (.int .u32 0) := (blk_cell BK199.out 3).trans rfl; have hcz46_4 : w45.cell? ⟨gb199, 4, none⟩ = some (.int .i64 0) := (blk_cell BK199.out 4).trans rfl; have hcz46_5 : w45.cell? ⟨gb199, 5, none⟩ = some (.int .i64 0) := (blk_cell BK199.out 5).trans rfl; have hcz46_6 : w45.cell? ⟨gb199, 6, none⟩ = some (.string (⟨#[]⟩ : ByteArray)) := (blk_cell BK199.out 6).trans rfl; have hfz46_0 := blk_frozen BK199.out 0; have hfz46_1 := blk_frozen BK199.out 1; have hfz46_2 := blk_frozen BK199.out 2; have hfz46_3 := blk_frozen BK199.out 3; have hfz46_4 := blk_frozen BK199.out 4; have hfz46_5 := blk_frozen BK199.out 5; have hfz46_6 := blk_frozen BK199.out 6) | (go_at_call 24; (with_reducible refine (rampartlaw04_awake.calls kj6  t200 _ A43.out (by first | rfl | exact HR.out)).mono ?_); rintro e w47 ⟨rfl, hb⟩; have n0_ := Aside0.mk (blk_below (g := gb199) (o := .cells #[.int .i64 t190, .int .i64 t191, .int .u32 t192, .int .u32 t193, .int .i64 t194, .int .i64 t195, .string t196] 42 (0, 0)) (by (with_reducible repeat (first | refine blk_drewN ?_ _ | refine blk_drew ?_ | refine blk_alloc ?_ _)); refine blk_put (cs := #[.int .i64 t190, .int .i64 t191, .int .u32 t192, .int .u32 t193, .int .i64 t194, .int .i64 t195, .string (⟨#[]⟩ : ByteArray)]) ?_ 6 _ rfl; (with_reducible repeat (first | refine blk_drewN ?_ _ | refine blk_drew ?_ | refine blk_alloc ?_ _)); refine blk_put (cs := #[.int .i64 t190, .int .i64 t191, .int .u32 t192, .int .u32 t193, .int .i64 t194, .int .i64 0, .string (⟨#[]⟩ : ByteArray)]) ?_ 5 _ rfl; (with_reducible repeat (first | refine blk_drewN ?_ _ | refine blk_drew ?_ | refine blk_alloc ?_ _)); refine blk_put (cs := #[.int .i64 t190, .int .i64 t191, .int .u32 t192, .int .u32 t193, .int .i64 0, .int .i64 0, .string (⟨#[]⟩ : ByteArray)]) ?_ 4 _ rfl; (with_reducible repeat (first | refine blk_drewN ?_ _ | refine blk_drew ?_ | refine blk_alloc ?_ _)); refine blk_put (cs := #[.int .i64 t190, .int .i64 t191, .int .u32 t192, .int .u32 0, .int .i64 0, .int .i64 0, .string (⟨#[]⟩ : ByteArray)]) ?_ 3 _ rfl; (with_reducible repeat (first | refine blk_drewN ?_ _ | refine blk_drew ?_ | refine blk_alloc ?_ _)); refine blk_put (cs := #[.int .i64 t190, .int .i64 t191, .int .u32 0, .int .u32 0, .int .i64 0, .int .i64 0, .string (⟨#[]⟩ : ByteArray)]) ?_ 2 _ rfl; (with_reducible repeat (first | refine blk_drewN ?_ _ | refine blk_drew ?_ | refine blk_alloc ?_ _)); refine blk_put (cs := #[.int .i64 t190, .int .i64 0, .int .u32 0, .int .u32 0, .int .i64 0, .int .i64 0, .string (⟨#[]⟩ : ByteArray)]) ?_ 1 _ rfl; (with_reducible repeat (first | refine blk_drewN ?_ _ | refine blk_drew ?_ | refine blk_alloc ?_ _)); refine blk_put (cs := #[.int .i64 0, .int .i64 0, .int .u32 0, .int .u32 0, .int .i64 0, .int .i64 0, .string (⟨#[]⟩ : ByteArray)]) ?_ 0 _ rfl; (with_reducible repeat (first | refine blk_drewN ?_ _ | refine blk_drew ?_ | refine blk_alloc ?_ _)); exact BK199.out) hb); have n1_ := Aside0.mk (below_step (by repeat (first | (with_reducible first | exact HB.out | apply below_alloc | apply pw_below_drewN | apply below_drew1 | refine below_set ?_ GE199.out) | exact HB.out)) hb); clear BK199; clear HB; have BK199 := n0_; have HB := n1_; clear n0_ n1_; (try clear hb); (try clear hb2); (try clear hk); (try clear hi)))
             go_ret
             exact ⟨by first | rfl | (simp [errW_none, errW_some] <;> rfl) | (simp [*, errW_none, errW_some] <;> rfl), by repeat (first | (with_reducible first | exact HB.out | apply below_alloc | apply pw_below_drewN | apply below_drew1 | refine below_set ?_ GE199.out) | exact HB.out)⟩
            ·
             rw [if_neg c42] at H
             have c42b0 : (t190 == 0) = false := beq_eq_false_iff_ne.mpr c42
             have c42b1 : (t190 != 0) = true := bne_iff_ne.mpr c42
             exact absurd ((Option.some.inj H).trans HR.out) (by decide)
           ·
            rw [if_neg c41] at H
            have c41b0 : (t197.toList == ([] : List UInt8)) = false := beq_eq_false_iff_ne.mpr c41
            have c41b1 : (t197.toList != ([] : List UInt8)) = true := bne_iff_ne.mpr c41
            exact absurd ((Option.some.inj H).trans HR.out) (by decide)
          ·
           rw [if_neg c40] at H
           have c40b0 : (t198 == 2) = false := beq_eq_false_iff_ne.mpr c40
           have c40b1 : (t198 != 2) = true := bne_iff_ne.mpr c40
           exact absurd ((Option.some.inj H).trans HR.out) (by decide)
         ·
          rw [if_neg c38] at H
          exact absurd H (by simp)
        ·
         rw [if_neg c37] at H
         exact absurd H (by simp)
       ·
        rw [if_neg c36] at H
        have c36b0 : (t166 == 2) = false := beq_eq_false_iff_ne.mpr c36
        have c36b1 : (t166 != 2) = true := bne_iff_ne.mpr c36
        by_cases c48 : t166 = 3
        ·
         rw [if_pos c48] at H
         have c48b0 : (t166 == 3) = true := beq_iff_eq.mpr c48
         have c48b1 : (t166 != 3) = false := bne_eq_false_iff_eq.mpr c48
         clear c48
         by_cases c49 : 12 < (t164.size : Int)
         ·
          rw [if_pos c49] at H
          have c49b0 : decide (12 < (t164.size : Int)) = true := decide_eq_true c49
          have c49b1 : decide (12 < t164.size) = true := decide_eq_true (by omega)
          clear c49
          replace H := Option.bind_eq_some_iff.mp H
          obtain ⟨t201, A510, H⟩ := H
          replace H : ((tcp_Get.f kj6 1 2 t201).bind fun bt202 => (if bt202.2.2.2.2.2.2.2.2 = 3 then (if bt202.2.2.2.2.2.2.2.1.toList = ([] : List UInt8) then (if bt202.1 = 0 then ((rampartlaw04_awake.f kj6).bind fun t212 => (some t212)) else (some false)) else (some false)) else (some false))) = some r := H
          have A51 := Aside0.mk A510
          clear A510
          replace H := Option.bind_eq_some_iff.mp H
          obtain ⟨⟨t202, t203, t204, t205, t206, t207, t208, t209, t210⟩, A520, H⟩ := H
          replace H : (if t210 = 3 then (if t209.toList = ([] : List UInt8) then (if t202 = 0 then ((rampartlaw04_awake.f kj6).bind fun t212 => (some t212)) else (some false)) else (some false)) else (some false)) = some r := H
          have A52 := Aside0.mk A520
          clear A520
          by_cases c53 : t210 = 3
          ·
           rw [if_pos c53] at H
           have c53b0 : (t210 == 3) = true := beq_iff_eq.mpr c53
           have c53b1 : (t210 != 3) = false := bne_eq_false_iff_eq.mpr c53
           clear c53
           by_cases c54 : t209.toList = ([] : List UInt8)
           ·
            rw [if_pos c54] at H
            have c54b0 : (t209.toList == ([] : List UInt8)) = true := beq_iff_eq.mpr c54
            have c54b1 : (t209.toList != ([] : List UInt8)) = false := bne_eq_false_iff_eq.mpr c54
            clear c54
            by_cases c55 : t202 = 0
            ·
             rw [if_pos c55] at H
             have c55b0 : (t202 == 0) = true := beq_iff_eq.mpr c55
             have c55b1 : (t202 != 0) = false := bne_eq_false_iff_eq.mpr c55
             clear c55
             replace H := Option.bind_eq_some_iff.mp H
             obtain ⟨t212, A560, H⟩ := H
             replace H : (some t212) = some r := H
             have A56 := Aside0.mk A560
             clear A560
             obtain rfl := Option.some.inj H
             have hconv8 := fun (s : ByteArray) (w : World) => Lib.run_convert_string_bytes (P := Try.prog) w 9 34 5 s Try.underlying9 Try.underlying34 Try.underlying5
             have ht_ : t166 = 3 := beq_iff_eq.mp c48b0
             have hix_ : ∀ w : World, (Instr.index 50 (.agg #[.int .i64 2, .int .i64 3, .int .i64 2, .int .i64 3, .int .i64 3, .int .i64 4]) (.int .i64 3)).run Try.prog w = .ok (.int .i64 3) w := fun w => by kernel_rfl
             go_wp2_with (first | ((with_reducible refine gate_dst (N := 34) rfl ?_); refine conv_event_c ?hg (N := 34) ?hd (s := t164) ?hr ?_; (case hd => rfl); (case hg => rfl); (case hr => first | (go_simp; done) | (go_simp; rfl)); intro g8 hg8 c8 hcc_ w8 hrow8 hb8; have BB := Aside0.mk hrow8; have BL := Aside0.mk hb8; have GG := Aside0.mk (show wc.heap.size ≤ g8 from Nat.le_of_eq hg8.symm); clear hrow8 hg8 hb8) | ((with_reducible refine gate_callee (f := 23) rfl ?_); refine goesL_ (some 36) rfl rfl Try.func23 (by kernel_rfl) rfl #[.int .i64 a0, .int .i64 6] rfl (by (try simp only [List.map_toArray, List.map_cons, List.map_nil]); first | done | rfl | (simp only [List.length_drop, List.length_take]; rfl)) ?_; (with_reducible refine (rampartlaw00_Place.calls a0 6 t166 _ A11.out).mono ?_); rintro e w' ⟨rfl, ⟨nd, rfl⟩⟩; refine ⟨_, rfl, ?_⟩; (try (rw [drewN_self wc]; generalize hq_ : World.drewN wc _ = wc; have n0_ : Aside0 (Below w.heap.size w wc) := ⟨by rw [← hq_]; exact (by repeat (first | (with_reducible first | exact HB.out | apply below_alloc | apply pw_below_drewN | apply below_drew1) | exact HB.out))⟩; clear HB hq_; have HB := n0_; clear n0_)); have p50 : 0 ≤ (12 : Int) := (by omega); have q50 : 12 < t164.size := (by have : (12 : Int) < (t164.size : Int) := of_decide_eq_true (by first | (with_reducible assumption) | assumption); omega); have hx50 : ∀ h : 12 < t164.size, ((t164[12]'h).toNat : Int) = bt t164 12 := bt_at t164 12; clear p50; have qi50 : (12 < (t164.size : Int)) = True := eq_true (of_decide_eq_true (by first | (with_reducible assumption) | assumption)); replace q50 := eq_true q50; have B1_ := row8_drewN BB.out nd; have SB0 := set_bounds A51.out; have hc8_0 : (World.drewN w8 nd).cell? ⟨g8, 12, none⟩ = some (.int .u8 (bt t164 (12))) := row8_cell B1_ (i := 12) SB0.1 SB0.2; have hf8_0 : (World.drewN w8 nd).frozen? ⟨g8, 12, none⟩ = false := row8_frozen B1_ (i := 12) SB0.1 SB0.2; have TT0 := set_eq A51.out; have RB8 : Aside0 (Row8 ((World.drewN w8 nd).setCell ⟨g8, 12, none⟩ (.int .u8 ((Go.bits .or .u8 (bt t164 12) 1)))) g8 t201) := ⟨(by rw [TT0]; exact row8_set B1_ (i := 12) (v := (Go.bits .or .u8 (bt t164 12) 1)) SB0.1 SB0.2 (by first | decide | exact (bits8_range _ _ _).1 | omega) (by first | decide | exact (bits8_range _ _ _).2 | omega))⟩; have hz8_ : t201.size = t164.size := (by rw [TT0, bset_size]); clear B1_) | ((with_reducible refine gate_dst (N := 73) rfl ?_); refine back_row ?hg (N := 73) ?hd (g := g8) (n := t164.size) (s := t201) Try.underlying34 Try.underlying5 Try.underlying9 ?hrow ?hn ?hr ?_; (case hd => rfl); (case hg => rfl); (case hrow => exact RB8.out); (case hn => exact hz8_.symm); (case hr => intro hback; first | (go_simp; done) | (go_simp; rfl)); intro w57 hw8; have hb : Below wc.heap.size wc w57 := (by rw [hw8]; exact below_set (j := 12) (v := .int .u8 ((Go.bits .or .u8 (bt t164 12) 1))) (pw_below_drewN BL.out nd) GG.out); clear hw8; have n0_ := Aside0.mk (below_step (by repeat (first | (with_reducible first | exact HB.out | apply below_alloc | apply pw_below_drewN | apply below_drew1) | exact HB.out)) hb); clear HB; have HB := n0_; clear n0_; (try clear hb); (try clear hb2); (try clear hk); (try clear hi)) | ((with_reducible refine gate_callee (f := 27) rfl ?_); refine goesL_ (some 74) rfl rfl Try.func27 (by kernel_rfl) rfl #[.int .u32 1, .int .u32 2, .string t201] rfl (by (try simp only [List.map_toArray, List.map_cons, List.map_nil]); first | done | rfl | (simp only [List.length_drop, List.length_take]; rfl)) ?_; (with_reducible refine (tcp_Get.calls kj6 1 2 t201 t202 t203 t204 t205 t206 t207 t208 t209 t210 _ A52.out).mono ?_); rintro e w58 ⟨rfl, hb⟩; refine ⟨_, rfl, ?_⟩; have n0_ := Aside0.mk (below_step (by repeat (first | (with_reducible first | exact HB.out | apply below_alloc | apply pw_below_drewN | apply below_drew1) | exact HB.out)) hb); clear HB; have HB := n0_; clear n0_; (try clear hb); (try clear hb2); (try clear hk); (try clear hi)) | ((with_reducible refine gate_dst (N := 10) rfl ?_); (try (refine gate_guard (by rfl) ?_; dsimp only)); refine box_event ?hg (N := 10) ?hd (cs := #[.int .i64 0, .int .i64 0, .int .u32 0, .int .u32 0, .int .i64 0, .int .i64 0, .string (⟨#[]⟩ : ByteArray)]) (t := 42) ?hr ?_; (case hd => rfl); (case hg => rfl); (case hr => first | (go_simp; done) | (go_simp; rfl)); intro gb211 hg w59 hbox hb; have n0_ := Aside0.mk (below_step (by repeat (first | (with_reducible first | exact HB.out | apply below_alloc | apply pw_below_drewN | apply below_drew1) | exact HB.out)) hb); have n1_ := Aside0.mk (hbox); have n2_ := Aside0.mk ((by rw [hg]; exact (below_size (by repeat (first | (with_reducible first | exact HB.out | apply below_alloc | apply pw_below_drewN | apply below_drew1) | exact HB.out))) : w.heap.size ≤ gb211)); have n3_ := Aside0.mk ((by rw [hg]; exact (below_size (by repeat (first | (with_reducible first | exact HB.out | apply below_alloc | apply pw_below_drewN | apply below_drew1) | exact HB.out))) : w.heap.size ≤ gb211)); clear HB; have HB := n0_; have BK211 := n1_; have GW211 := n2_; have GE211 := n3_; clear n0_ n1_ n2_ n3_; clear hb hbox hg; have hcz60_0 : w59.cell? ⟨gb211, 0, none⟩ = some (.int .i64 0) := (blk_cell BK211.out 0).trans rfl; have hcz60_1 : w59.cell? ⟨gb211, 1, none⟩ = some (.int .i64 0) := (blk_cell BK211.out 1).trans rfl; have hcz60_2 : w59.cell? ⟨gb211, 2, none⟩ = some (.int .u32 0) := (blk_cell BK211.out 2).trans rfl; have hcz60_3 : w59.cell? ⟨gb211, 3, none⟩ = some (.int .u32 0) := (blk_cell BK211.out 3).trans rfl; have hcz60_4 : w59.cell? ⟨gb211, 4, none⟩ = some (.int .i64 0) := (blk_cell BK211.out 4).trans rfl; have hcz60_5 : w59.cell? ⟨gb211, 5, none⟩ = some (.int .i64 0) := (blk_cell BK211.out 5).trans rfl; have hcz60_6 : w59.cell? ⟨gb211, 6, none⟩ = some (.string (⟨#[]⟩ : ByteArray)) := (blk_cell BK211.out 6).trans rfl; have hfz60_0 := blk_frozen BK211.out 0; have hfz60_1 := blk_frozen BK211.out 1; have hfz60_2 := blk_frozen BK211.out 2; have hfz60_3 := blk_frozen BK211.out 3; have hfz60_4 := blk_frozen BK211.out 4; have hfz60_5 := blk_frozen BK211.out 5; have hfz60_6 := blk_frozen BK211.out 6) | (go_at_call 24; (with_reducible refine (rampartlaw04_awake.calls kj6  t212 _ A56.out (by first | rfl | exact HR.out)).mono ?_); rintro e w61 ⟨rfl, hb⟩; have n0_ := Aside0.mk (blk_below (g := gb211) (o := .cells #[.int .i64 t202, .int .i64 t203, .int .u32 t204, .int .u32 t205, .int .i64 t206, .int .i64 t207, .string t208] 42 (0, 0)) (by (with_reducible repeat (first | refine blk_drewN ?_ _ | refine blk_drew ?_ | refine blk_alloc ?_ _)); refine blk_put (cs := #[.int .i64 t202, .int .i64 t203, .int .u32 t204, .int .u32 t205, .int .i64 t206, .int .i64 t207, .string (⟨#[]⟩ : ByteArray)]) ?_ 6 _ rfl; (with_reducible repeat (first | refine blk_drewN ?_ _ | refine blk_drew ?_ | refine blk_alloc ?_ _)); refine blk_put (cs := #[.int .i64 t202, .int .i64 t203, .int .u32 t204, .int .u32 t205, .int .i64 t206, .int .i64 0, .string (⟨#[]⟩ : ByteArray)]) ?_ 5 _ rfl; (with_reducible repeat (first | refine blk_drewN ?_ _ | refine blk_drew ?_ | refine blk_alloc ?_ _)); refine blk_put (cs := #[.int .i64 t202, .int .i64 t203, .int .u32 t204, .int .u32 t205, .int .i64 0, .int .i64 0, .string (⟨#[]⟩ : ByteArray)]) ?_ 4 _ rfl; (with_reducible repeat (first | refine blk_drewN ?_ _ | refine blk_drew ?_ | refine blk_alloc ?_ _)); refine blk_put (cs := #[.int .i64 t202, .int .i64 t203, .int .u32 t204, .int .u32 0, .int .i64 0, .int .i64 0, .string (⟨#[]⟩ : ByteArray)]) ?_ 3 _ rfl; (with_reducible repeat (first | refine blk_drewN ?_ _ | refine blk_drew ?_ | refine blk_alloc ?_ _)); refine blk_put (cs := #[.int .i64 t202, .int .i64 t203, .int .u32 0, .int .u32 0, .int .i64 0, .int .i64 0, .string (⟨#[]⟩ : ByteArray)]) ?_ 2 _ rfl; (with_reducible repeat (first | refine blk_drewN ?_ _ | refine blk_drew ?_ | refine blk_alloc ?_ _)); refine blk_put (cs := #[.int .i64 t202, .int .i64 0, .int .u32 0, .int .u32 0, .int .i64 0, .int .i64 0, .string (⟨#[]⟩ : ByteArray)]) ?_ 1 _ rfl; (with_reducible repeat (first | refine blk_drewN ?_ _ | refine blk_drew ?_ | refine blk_alloc ?_ _)); refine blk_put (cs := #[.int .i64 0, .int .i64 0, .int .u32 0, .int .u32 0, .int .i64 0, .int .i64 0, .string (⟨#[]⟩ : ByteArray)]) ?_ 0 _ rfl; (with_reducible repeat (first | refine blk_drewN ?_ _ | refine blk_drew ?_ | refine blk_alloc ?_ _)); exact BK211.out) hb); have n1_ := Aside0.mk (below_step (by repeat (first | (with_reducible first | exact HB.out | apply below_alloc | apply pw_below_drewN | apply below_drew1 | refine below_set ?_ GE211.out) | exact HB.out)) hb); clear BK211; clear HB; have BK211 := n0_; have HB := n1_; clear n0_ n1_; (try clear hb); (try clear hb2); (try clear hk); (try clear hi)))
             go_ret
             exact ⟨by first | rfl | (simp [errW_none, errW_some] <;> rfl) | (simp [*, errW_none, errW_some] <;> rfl), by repeat (first | (with_reducible first | exact HB.out | apply below_alloc | apply pw_below_drewN | apply below_drew1 | refine below_set ?_ GE211.out) | exact HB.out)⟩
            ·
             rw [if_neg c55] at H
             have c55b0 : (t202 == 0) = false := beq_eq_false_iff_ne.mpr c55
             have c55b1 : (t202 != 0) = true := bne_iff_ne.mpr c55
             exact absurd ((Option.some.inj H).trans HR.out) (by decide)
           ·
            rw [if_neg c54] at H
            have c54b0 : (t209.toList == ([] : List UInt8)) = false := beq_eq_false_iff_ne.mpr c54
            have c54b1 : (t209.toList != ([] : List UInt8)) = true := bne_iff_ne.mpr c54
            exact absurd ((Option.some.inj H).trans HR.out) (by decide)
          ·
           rw [if_neg c53] at H
           have c53b0 : (t210 == 3) = false := beq_eq_false_iff_ne.mpr c53
           have c53b1 : (t210 != 3) = true := bne_iff_ne.mpr c53
           exact absurd ((Option.some.inj H).trans HR.out) (by decide)
         ·
          rw [if_neg c49] at H
          exact absurd H (by simp)
        ·
         rw [if_neg c48] at H
         have c48b0 : (t166 == 3) = false := beq_eq_false_iff_ne.mpr c48
         have c48b1 : (t166 != 3) = true := bne_iff_ne.mpr c48
         by_cases c62 : t166 = 4
         ·
          rw [if_pos c62] at H
          have c62b0 : (t166 == 4) = true := beq_iff_eq.mpr c62
          have c62b1 : (t166 != 4) = false := bne_eq_false_iff_eq.mpr c62
          clear c62
          replace H := Option.bind_eq_some_iff.mp H
          obtain ⟨t213, A630, H⟩ := H
          replace H : ((tcp_Get.f kj6 1 2 t213).bind fun bt214 => (if bt214.2.2.2.2.2.2.2.2 = 3 then (if bt214.2.2.2.2.2.2.2.1.toList = ([] : List UInt8) then (if bt214.1 = 0 then ((rampartlaw04_awake.f kj6).bind fun t224 => (some t224)) else (some false)) else (some false)) else (some false))) = some r := H
          have A63 := Aside0.mk A630
          clear A630
          replace H := Option.bind_eq_some_iff.mp H
          obtain ⟨⟨t214, t215, t216, t217, t218, t219, t220, t221, t222⟩, A640, H⟩ := H
          replace H : (if t222 = 3 then (if t221.toList = ([] : List UInt8) then (if t214 = 0 then ((rampartlaw04_awake.f kj6).bind fun t224 => (some t224)) else (some false)) else (some false)) else (some false)) = some r := H
          have A64 := Aside0.mk A640
          clear A640
          by_cases c65 : t222 = 3
          ·
           rw [if_pos c65] at H
           have c65b0 : (t222 == 3) = true := beq_iff_eq.mpr c65
           have c65b1 : (t222 != 3) = false := bne_eq_false_iff_eq.mpr c65
           clear c65
           by_cases c66 : t221.toList = ([] : List UInt8)
           ·
            rw [if_pos c66] at H
            have c66b0 : (t221.toList == ([] : List UInt8)) = true := beq_iff_eq.mpr c66
            have c66b1 : (t221.toList != ([] : List UInt8)) = false := bne_eq_false_iff_eq.mpr c66
            clear c66
            by_cases c67 : t214 = 0
            ·
             rw [if_pos c67] at H
             have c67b0 : (t214 == 0) = true := beq_iff_eq.mpr c67
             have c67b1 : (t214 != 0) = false := bne_eq_false_iff_eq.mpr c67
             clear c67
             replace H := Option.bind_eq_some_iff.mp H
             obtain ⟨t224, A680, H⟩ := H
             replace H : (some t224) = some r := H
             have A68 := Aside0.mk A680
             clear A680
             obtain rfl := Option.some.inj H
             have hconv8 := fun (s : ByteArray) (w : World) => Lib.run_convert_string_bytes (P := Try.prog) w 9 34 5 s Try.underlying9 Try.underlying34 Try.underlying5
             have ht_ : t166 = 4 := beq_iff_eq.mp c62b0
             have hix_ : ∀ w : World, (Instr.index 50 (.agg #[.int .i64 2, .int .i64 3, .int .i64 2, .int .i64 3, .int .i64 3, .int .i64 4]) (.int .i64 4)).run Try.prog w = .ok (.int .i64 3) w := fun w => by kernel_rfl
             go_wp2_with (first | ((with_reducible refine gate_dst (N := 34) rfl ?_); refine conv_event_c ?hg (N := 34) ?hd (s := t164) ?hr ?_; (case hd => rfl); (case hg => rfl); (case hr => first | (go_simp; done) | (go_simp; rfl)); intro g8 hg8 c8 hcc_ w8 hrow8 hb8; have BB := Aside0.mk hrow8; have BL := Aside0.mk hb8; have GG := Aside0.mk (show wc.heap.size ≤ g8 from Nat.le_of_eq hg8.symm); clear hrow8 hg8 hb8) | ((with_reducible refine gate_callee (f := 23) rfl ?_); refine goesL_ (some 36) rfl rfl Try.func23 (by kernel_rfl) rfl #[.int .i64 a0, .int .i64 6] rfl (by (try simp only [List.map_toArray, List.map_cons, List.map_nil]); first | done | rfl | (simp only [List.length_drop, List.length_take]; rfl)) ?_; (with_reducible refine (rampartlaw00_Place.calls a0 6 t166 _ A11.out).mono ?_); rintro e w' ⟨rfl, ⟨nd, rfl⟩⟩; refine ⟨_, rfl, ?_⟩; (try (rw [drewN_self wc]; generalize hq_ : World.drewN wc _ = wc; have n0_ : Aside0 (Below w.heap.size w wc) := ⟨by rw [← hq_]; exact (by repeat (first | (with_reducible first | exact HB.out | apply below_alloc | apply pw_below_drewN | apply below_drew1) | exact HB.out))⟩; clear HB hq_; have HB := n0_; clear n0_)); have B1_ := row8_drewN BB.out nd; have SB0 := set_bounds A63.out; have hc8_0 : (World.drewN w8 nd).cell? ⟨g8, 13, none⟩ = some (.int .u8 (bt t164 (13))) := row8_cell B1_ (i := 13) SB0.1 SB0.2; have hf8_0 : (World.drewN w8 nd).frozen? ⟨g8, 13, none⟩ = false := row8_frozen B1_ (i := 13) SB0.1 SB0.2; have TT0 := set_eq A63.out; have RB8 : Aside0 (Row8 ((World.drewN w8 nd).setCell ⟨g8, 13, none⟩ (.int .u8 (64))) g8 t213) := ⟨(by rw [TT0]; exact row8_set B1_ (i := 13) (v := 64) SB0.1 SB0.2 (by first | decide | exact (bits8_range _ _ _).1 | omega) (by first | decide | exact (bits8_range _ _ _).2 | omega))⟩; have hz8_ : t213.size = t164.size := (by rw [TT0, bset_size]); clear B1_) | ((with_reducible refine gate_dst (N := 73) rfl ?_); refine back_row ?hg (N := 73) ?hd (g := g8) (n := t164.size) (s := t213) Try.underlying34 Try.underlying5 Try.underlying9 ?hrow ?hn ?hr ?_; (case hd => rfl); (case hg => rfl); (case hrow => exact RB8.out); (case hn => exact hz8_.symm); (case hr => intro hback; first | (go_simp; done) | (go_simp; rfl)); intro w69 hw8; have hb : Below wc.heap.size wc w69 := (by rw [hw8]; exact below_set (j := 13) (v := .int .u8 (64)) (pw_below_drewN BL.out nd) GG.out); clear hw8; have n0_ := Aside0.mk (below_step (by repeat (first | (with_reducible first | exact HB.out | apply below_alloc | apply pw_below_drewN | apply below_drew1) | exact HB.out)) hb); clear HB; have HB := n0_; clear n0_; (try clear hb); (try clear hb2); (try clear hk); (try clear hi)) | ((with_reducible refine gate_callee (f := 27) rfl ?_); refine goesL_ (some 74) rfl rfl Try.func27 (by kernel_rfl) rfl #[.int .u32 1, .int .u32 2, .string t213] rfl (by (try simp only [List.map_toArray, List.map_cons, List.map_nil]); first | done | rfl | (simp only [List.length_drop, List.length_take]; rfl)) ?_; (with_reducible refine (tcp_Get.calls kj6 1 2 t213 t214 t215 t216 t217 t218 t219 t220 t221 t222 _ A64.out).mono ?_); rintro e w70 ⟨rfl, hb⟩; refine ⟨_, rfl, ?_⟩; have n0_ := Aside0.mk (below_step (by repeat (first | (with_reducible first | exact HB.out | apply below_alloc | apply pw_below_drewN | apply below_drew1) | exact HB.out)) hb); clear HB; have HB := n0_; clear n0_; (try clear hb); (try clear hb2); (try clear hk); (try clear hi)) | ((with_reducible refine gate_dst (N := 10) rfl ?_); (try (refine gate_guard (by rfl) ?_; dsimp only)); refine box_event ?hg (N := 10) ?hd (cs := #[.int .i64 0, .int .i64 0, .int .u32 0, .int .u32 0, .int .i64 0, .int .i64 0, .string (⟨#[]⟩ : ByteArray)]) (t := 42) ?hr ?_; (case hd => rfl); (case hg => rfl); (case hr => first | (go_simp; done) | (go_simp; rfl)); intro gb223 hg w71 hbox hb; have n0_ := Aside0.mk (below_step (by repeat (first | (with_reducible first | exact HB.out | apply below_alloc | apply pw_below_drewN | apply below_drew1) | exact HB.out)) hb); have n1_ := Aside0.mk (hbox); have n2_ := Aside0.mk ((by rw [hg]; exact (below_size (by repeat (first | (with_reducible first | exact HB.out | apply below_alloc | apply pw_below_drewN | apply below_drew1) | exact HB.out))) : w.heap.size ≤ gb223)); have n3_ := Aside0.mk ((by rw [hg]; exact (below_size (by repeat (first | (with_reducible first | exact HB.out | apply below_alloc | apply pw_below_drewN | apply below_drew1) | exact HB.out))) : w.heap.size ≤ gb223)); clear HB; have HB := n0_; have BK223 := n1_; have GW223 := n2_; have GE223 := n3_; clear n0_ n1_ n2_ n3_; clear hb hbox hg; have hcz72_0 : w71.cell? ⟨gb223, 0, none⟩ = some (.int .i64 0) := (blk_cell BK223.out 0).trans rfl; have hcz72_1 : w71.cell? ⟨gb223, 1, none⟩ = some (.int .i64 0) := (blk_cell BK223.out 1).trans rfl; have hcz72_2 : w71.cell? ⟨gb223, 2, none⟩ = some (.int .u32 0) := (blk_cell BK223.out 2).trans rfl; have hcz72_3 : w71.cell? ⟨gb223, 3, none⟩ = some (.int .u32 0) := (blk_cell BK223.out 3).trans rfl; have hcz72_4 : w71.cell? ⟨gb223, 4, none⟩ = some (.int .i64 0) := (blk_cell BK223.out 4).trans rfl; have hcz72_5 : w71.cell? ⟨gb223, 5, none⟩ = some (.int .i64 0) := (blk_cell BK223.out 5).trans rfl; have hcz72_6 : w71.cell? ⟨gb223, 6, none⟩ = some (.string (⟨#[]⟩ : ByteArray)) := (blk_cell BK223.out 6).trans rfl; have hfz72_0 := blk_frozen BK223.out 0; have hfz72_1 := blk_frozen BK223.out 1; have hfz72_2 := blk_frozen BK223.out 2; have hfz72_3 := blk_frozen BK223.out 3; have hfz72_4 := blk_frozen BK223.out 4; have hfz72_5 := blk_frozen BK223.out 5; have hfz72_6 := blk_frozen BK223.out 6) | (go_at_call 24; (with_reducible refine (rampartlaw04_awake.calls kj6  t224 _ A68.out (by first | rfl | exact HR.out)).mono ?_); rintro e w73 ⟨rfl, hb⟩; have n0_ := Aside0.mk (blk_below (g := gb223) (o := .cells #[.int .i64 t214, .int .i64 t215, .int .u32 t216, .int .u32 t217, .int .i64 t218, .int .i64 t219, .string t220] 42 (0, 0)) (by (with_reducible repeat (first | refine blk_drewN ?_ _ | refine blk_drew ?_ | refine blk_alloc ?_ _)); refine blk_put (cs := #[.int .i64 t214, .int .i64 t215, .int .u32 t216, .int .u32 t217, .int .i64 t218, .int .i64 t219, .string (⟨#[]⟩ : ByteArray)]) ?_ 6 _ rfl; (with_reducible repeat (first | refine blk_drewN ?_ _ | refine blk_drew ?_ | refine blk_alloc ?_ _)); refine blk_put (cs := #[.int .i64 t214, .int .i64 t215, .int .u32 t216, .int .u32 t217, .int .i64 t218, .int .i64 0, .string (⟨#[]⟩ : ByteArray)]) ?_ 5 _ rfl; (with_reducible repeat (first | refine blk_drewN ?_ _ | refine blk_drew ?_ | refine blk_alloc ?_ _)); refine blk_put (cs := #[.int .i64 t214, .int .i64 t215, .int .u32 t216, .int .u32 t217, .int .i64 0, .int .i64 0, .string (⟨#[]⟩ : ByteArray)]) ?_ 4 _ rfl; (with_reducible repeat (first | refine blk_drewN ?_ _ | refine blk_drew ?_ | refine blk_alloc ?_ _)); refine blk_put (cs := #[.int .i64 t214, .int .i64 t215, .int .u32 t216, .int .u32 0, .int .i64 0, .int .i64 0, .string (⟨#[]⟩ : ByteArray)]) ?_ 3 _ rfl; (with_reducible repeat (first | refine blk_drewN ?_ _ | refine blk_drew ?_ | refine blk_alloc ?_ _)); refine blk_put (cs := #[.int .i64 t214, .int .i64 t215, .int .u32 0, .int .u32 0, .int .i64 0, .int .i64 0, .string (⟨#[]⟩ : ByteArray)]) ?_ 2 _ rfl; (with_reducible repeat (first | refine blk_drewN ?_ _ | refine blk_drew ?_ | refine blk_alloc ?_ _)); refine blk_put (cs := #[.int .i64 t214, .int .i64 0, .int .u32 0, .int .u32 0, .int .i64 0, .int .i64 0, .string (⟨#[]⟩ : ByteArray)]) ?_ 1 _ rfl; (with_reducible repeat (first | refine blk_drewN ?_ _ | refine blk_drew ?_ | refine blk_alloc ?_ _)); refine blk_put (cs := #[.int .i64 0, .int .i64 0, .int .u32 0, .int .u32 0, .int .i64 0, .int .i64 0, .string (⟨#[]⟩ : ByteArray)]) ?_ 0 _ rfl; (with_reducible repeat (first | refine blk_drewN ?_ _ | refine blk_drew ?_ | refine blk_alloc ?_ _)); exact BK223.out) hb); have n1_ := Aside0.mk (below_step (by repeat (first | (with_reducible first | exact HB.out | apply below_alloc | apply pw_below_drewN | apply below_drew1 | refine below_set ?_ GE223.out) | exact HB.out)) hb); clear BK223; clear HB; have BK223 := n0_; have HB := n1_; clear n0_ n1_; (try clear hb); (try clear hb2); (try clear hk); (try clear hi)))
             go_ret
             exact ⟨by first | rfl | (simp [errW_none, errW_some] <;> rfl) | (simp [*, errW_none, errW_some] <;> rfl), by repeat (first | (with_reducible first | exact HB.out | apply below_alloc | apply pw_below_drewN | apply below_drew1 | refine below_set ?_ GE223.out) | exact HB.out)⟩
            ·
             rw [if_neg c67] at H
             have c67b0 : (t214 == 0) = false := beq_eq_false_iff_ne.mpr c67
             have c67b1 : (t214 != 0) = true := bne_iff_ne.mpr c67
             exact absurd ((Option.some.inj H).trans HR.out) (by decide)
           ·
            rw [if_neg c66] at H
            have c66b0 : (t221.toList == ([] : List UInt8)) = false := beq_eq_false_iff_ne.mpr c66
            have c66b1 : (t221.toList != ([] : List UInt8)) = true := bne_iff_ne.mpr c66
            exact absurd ((Option.some.inj H).trans HR.out) (by decide)
          ·
           rw [if_neg c65] at H
           have c65b0 : (t222 == 3) = false := beq_eq_false_iff_ne.mpr c65
           have c65b1 : (t222 != 3) = true := bne_iff_ne.mpr c65
           exact absurd ((Option.some.inj H).trans HR.out) (by decide)
         ·
          rw [if_neg c62] at H
          have c62b0 : (t166 == 4) = false := beq_eq_false_iff_ne.mpr c62
          have c62b1 : (t166 != 4) = true := bne_iff_ne.mpr c62
          by_cases c74 : 15 < (t164.size : Int)
          ·
           rw [if_pos c74] at H
           have c74b0 : decide (15 < (t164.size : Int)) = true := decide_eq_true c74
           have c74b1 : decide (15 < t164.size) = true := decide_eq_true (by omega)
           clear c74
           replace H := Option.bind_eq_some_iff.mp H
           obtain ⟨t225, A760, H⟩ := H
           replace H : ((tcp_Get.f kj6 1 2 t225).bind fun bt226 => (if bt226.2.2.2.2.2.2.2.2 = 4 then (if bt226.2.2.2.2.2.2.2.1.toList = ([] : List UInt8) then (if bt226.1 = 0 then ((rampartlaw04_awake.f kj6).bind fun t236 => (some t236)) else (some false)) else (some false)) else (some false))) = some r := H
           have A76 := Aside0.mk A760
           clear A760
           replace H := Option.bind_eq_some_iff.mp H
           obtain ⟨⟨t226, t227, t228, t229, t230, t231, t232, t233, t234⟩, A770, H⟩ := H
           replace H : (if t234 = 4 then (if t233.toList = ([] : List UInt8) then (if t226 = 0 then ((rampartlaw04_awake.f kj6).bind fun t236 => (some t236)) else (some false)) else (some false)) else (some false)) = some r := H
           have A77 := Aside0.mk A770
           clear A770
           by_cases c78 : t234 = 4
           ·
            rw [if_pos c78] at H
            have c78b0 : (t234 == 4) = true := beq_iff_eq.mpr c78
            have c78b1 : (t234 != 4) = false := bne_eq_false_iff_eq.mpr c78
            clear c78
            by_cases c79 : t233.toList = ([] : List UInt8)
            ·
             rw [if_pos c79] at H
             have c79b0 : (t233.toList == ([] : List UInt8)) = true := beq_iff_eq.mpr c79
             have c79b1 : (t233.toList != ([] : List UInt8)) = false := bne_eq_false_iff_eq.mpr c79
             clear c79
             by_cases c80 : t226 = 0
             ·
              rw [if_pos c80] at H
              have c80b0 : (t226 == 0) = true := beq_iff_eq.mpr c80
              have c80b1 : (t226 != 0) = false := bne_eq_false_iff_eq.mpr c80
              clear c80
              replace H := Option.bind_eq_some_iff.mp H
              obtain ⟨t236, A810, H⟩ := H
              replace H : (some t236) = some r := H
              have A81 := Aside0.mk A810
              clear A810
              obtain rfl := Option.some.inj H
              have hconv8 := fun (s : ByteArray) (w : World) => Lib.run_convert_string_bytes (P := Try.prog) w 9 34 5 s Try.underlying9 Try.underlying34 Try.underlying5
              have ht_ : t166 = 5 := by have hp_ := place_in _ 6 _ (by omega) (by omega) A11.out; have n4_ := beq_eq_false_iff_ne.mp c62b0; have n3_ := beq_eq_false_iff_ne.mp c48b0; have n2_ := beq_eq_false_iff_ne.mp c36b0; have n1_ := beq_eq_false_iff_ne.mp c24b0; have n0_ := beq_eq_false_iff_ne.mp c12b0; omega
              have hix_ : ∀ w : World, (Instr.index 50 (.agg #[.int .i64 2, .int .i64 3, .int .i64 2, .int .i64 3, .int .i64 3, .int .i64 4]) (.int .i64 5)).run Try.prog w = .ok (.int .i64 4) w := fun w => by kernel_rfl
              go_wp2_with (first | ((with_reducible refine gate_dst (N := 34) rfl ?_); refine conv_event_c ?hg (N := 34) ?hd (s := t164) ?hr ?_; (case hd => rfl); (case hg => rfl); (case hr => first | (go_simp; done) | (go_simp; rfl)); intro g8 hg8 c8 hcc_ w8 hrow8 hb8; have BB := Aside0.mk hrow8; have BL := Aside0.mk hb8; have GG := Aside0.mk (show wc.heap.size ≤ g8 from Nat.le_of_eq hg8.symm); clear hrow8 hg8 hb8) | ((with_reducible refine gate_callee (f := 23) rfl ?_); refine goesL_ (some 36) rfl rfl Try.func23 (by kernel_rfl) rfl #[.int .i64 a0, .int .i64 6] rfl (by (try simp only [List.map_toArray, List.map_cons, List.map_nil]); first | done | rfl | (simp only [List.length_drop, List.length_take]; rfl)) ?_; (with_reducible refine (rampartlaw00_Place.calls a0 6 t166 _ A11.out).mono ?_); rintro e w' ⟨rfl, ⟨nd, rfl⟩⟩; refine ⟨_, rfl, ?_⟩; (try (rw [drewN_self wc]; generalize hq_ : World.drewN wc _ = wc; have n0_ : Aside0 (Below w.heap.size w wc) := ⟨by rw [← hq_]; exact (by repeat (first | (with_reducible first | exact HB.out | apply below_alloc | apply pw_below_drewN | apply below_drew1) | exact HB.out))⟩; clear HB hq_; have HB := n0_; clear n0_)); have p75 : 0 ≤ (15 : Int) := (by omega); have q75 : 15 < t164.size := (by have : (15 : Int) < (t164.size : Int) := of_decide_eq_true (by first | (with_reducible assumption) | assumption); omega); have hx75 : ∀ h : 15 < t164.size, ((t164[15]'h).toNat : Int) = bt t164 15 := bt_at t164 15; clear p75; have qi75 : (15 < (t164.size : Int)) = True := eq_true (of_decide_eq_true (by first | (with_reducible assumption) | assumption)); replace q75 := eq_true q75; have B1_ := row8_drewN BB.out nd; have SB0 := set_bounds A76.out; have hc8_0 : (World.drewN w8 nd).cell? ⟨g8, 15, none⟩ = some (.int .u8 (bt t164 (15))) := row8_cell B1_ (i := 15) SB0.1 SB0.2; have hf8_0 : (World.drewN w8 nd).frozen? ⟨g8, 15, none⟩ = false := row8_frozen B1_ (i := 15) SB0.1 SB0.2; have TT0 := set_eq A76.out; have RB8 : Aside0 (Row8 ((World.drewN w8 nd).setCell ⟨g8, 15, none⟩ (.int .u8 ((((bt t164 15) + 1) % 256)))) g8 t225) := ⟨(by rw [TT0]; exact row8_set B1_ (i := 15) (v := (((bt t164 15) + 1) % 256)) SB0.1 SB0.2 (by first | decide | exact (bits8_range _ _ _).1 | omega) (by first | decide | exact (bits8_range _ _ _).2 | omega))⟩; have hz8_ : t225.size = t164.size := (by rw [TT0, bset_size]); clear B1_) | ((with_reducible refine gate_dst (N := 73) rfl ?_); refine back_row ?hg (N := 73) ?hd (g := g8) (n := t164.size) (s := t225) Try.underlying34 Try.underlying5 Try.underlying9 ?hrow ?hn ?hr ?_; (case hd => rfl); (case hg => rfl); (case hrow => exact RB8.out); (case hn => exact hz8_.symm); (case hr => intro hback; first | (go_simp; done) | (go_simp; rfl)); intro w82 hw8; have hb : Below wc.heap.size wc w82 := (by rw [hw8]; exact below_set (j := 15) (v := .int .u8 ((((bt t164 15) + 1) % 256))) (pw_below_drewN BL.out nd) GG.out); clear hw8; have n0_ := Aside0.mk (below_step (by repeat (first | (with_reducible first | exact HB.out | apply below_alloc | apply pw_below_drewN | apply below_drew1) | exact HB.out)) hb); clear HB; have HB := n0_; clear n0_; (try clear hb); (try clear hb2); (try clear hk); (try clear hi)) | ((with_reducible refine gate_callee (f := 27) rfl ?_); refine goesL_ (some 74) rfl rfl Try.func27 (by kernel_rfl) rfl #[.int .u32 1, .int .u32 2, .string t225] rfl (by (try simp only [List.map_toArray, List.map_cons, List.map_nil]); first | done | rfl | (simp only [List.length_drop, List.length_take]; rfl)) ?_; (with_reducible refine (tcp_Get.calls kj6 1 2 t225 t226 t227 t228 t229 t230 t231 t232 t233 t234 _ A77.out).mono ?_); rintro e w83 ⟨rfl, hb⟩; refine ⟨_, rfl, ?_⟩; have n0_ := Aside0.mk (below_step (by repeat (first | (with_reducible first | exact HB.out | apply below_alloc | apply pw_below_drewN | apply below_drew1) | exact HB.out)) hb); clear HB; have HB := n0_; clear n0_; (try clear hb); (try clear hb2); (try clear hk); (try clear hi)) | ((with_reducible refine gate_dst (N := 10) rfl ?_); (try (refine gate_guard (by rfl) ?_; dsimp only)); refine box_event ?hg (N := 10) ?hd (cs := #[.int .i64 0, .int .i64 0, .int .u32 0, .int .u32 0, .int .i64 0, .int .i64 0, .string (⟨#[]⟩ : ByteArray)]) (t := 42) ?hr ?_; (case hd => rfl); (case hg => rfl); (case hr => first | (go_simp; done) | (go_simp; rfl)); intro gb235 hg w84 hbox hb; have n0_ := Aside0.mk (below_step (by repeat (first | (with_reducible first | exact HB.out | apply below_alloc | apply pw_below_drewN | apply below_drew1) | exact HB.out)) hb); have n1_ := Aside0.mk (hbox); have n2_ := Aside0.mk ((by rw [hg]; exact (below_size (by repeat (first | (with_reducible first | exact HB.out | apply below_alloc | apply pw_below_drewN | apply below_drew1) | exact HB.out))) : w.heap.size ≤ gb235)); have n3_ := Aside0.mk ((by rw [hg]; exact (below_size (by repeat (first | (with_reducible first | exact HB.out | apply below_alloc | apply pw_below_drewN | apply below_drew1) | exact HB.out))) : w.heap.size ≤ gb235)); clear HB; have HB := n0_; have BK235 := n1_; have GW235 := n2_; have GE235 := n3_; clear n0_ n1_ n2_ n3_; clear hb hbox hg; have hcz85_0 : w84.cell? ⟨gb235, 0, none⟩ = some (.int .i64 0) := (blk_cell BK235.out 0).trans rfl; have hcz85_1 : w84.cell? ⟨gb235, 1, none⟩ = some (.int .i64 0) := (blk_cell BK235.out 1).trans rfl; have hcz85_2 : w84.cell? ⟨gb235, 2, none⟩ = some (.int .u32 0) := (blk_cell BK235.out 2).trans rfl; have hcz85_3 : w84.cell? ⟨gb235, 3, none⟩ = some (.int .u32 0) := (blk_cell BK235.out 3).trans rfl; have hcz85_4 : w84.cell? ⟨gb235, 4, none⟩ = some (.int .i64 0) := (blk_cell BK235.out 4).trans rfl; have hcz85_5 : w84.cell? ⟨gb235, 5, none⟩ = some (.int .i64 0) := (blk_cell BK235.out 5).trans rfl; have hcz85_6 : w84.cell? ⟨gb235, 6, none⟩ = some (.string (⟨#[]⟩ : ByteArray)) := (blk_cell BK235.out 6).trans rfl; have hfz85_0 := blk_frozen BK235.out 0; have hfz85_1 := blk_frozen BK235.out 1; have hfz85_2 := blk_frozen BK235.out 2; have hfz85_3 := blk_frozen BK235.out 3; have hfz85_4 := blk_frozen BK235.out 4; have hfz85_5 := blk_frozen BK235.out 5; have hfz85_6 := blk_frozen BK235.out 6) | (go_at_call 24; (with_reducible refine (rampartlaw04_awake.calls kj6  t236 _ A81.out (by first | rfl | exact HR.out)).mono ?_); rintro e w86 ⟨rfl, hb⟩; have n0_ := Aside0.mk (blk_below (g := gb235) (o := .cells #[.int .i64 t226, .int .i64 t227, .int .u32 t228, .int .u32 t229, .int .i64 t230, .int .i64 t231, .string t232] 42 (0, 0)) (by (with_reducible repeat (first | refine blk_drewN ?_ _ | refine blk_drew ?_ | refine blk_alloc ?_ _)); refine blk_put (cs := #[.int .i64 t226, .int .i64 t227, .int .u32 t228, .int .u32 t229, .int .i64 t230, .int .i64 t231, .string (⟨#[]⟩ : ByteArray)]) ?_ 6 _ rfl; (with_reducible repeat (first | refine blk_drewN ?_ _ | refine blk_drew ?_ | refine blk_alloc ?_ _)); refine blk_put (cs := #[.int .i64 t226, .int .i64 t227, .int .u32 t228, .int .u32 t229, .int .i64 t230, .int .i64 0, .string (⟨#[]⟩ : ByteArray)]) ?_ 5 _ rfl; (with_reducible repeat (first | refine blk_drewN ?_ _ | refine blk_drew ?_ | refine blk_alloc ?_ _)); refine blk_put (cs := #[.int .i64 t226, .int .i64 t227, .int .u32 t228, .int .u32 t229, .int .i64 0, .int .i64 0, .string (⟨#[]⟩ : ByteArray)]) ?_ 4 _ rfl; (with_reducible repeat (first | refine blk_drewN ?_ _ | refine blk_drew ?_ | refine blk_alloc ?_ _)); refine blk_put (cs := #[.int .i64 t226, .int .i64 t227, .int .u32 t228, .int .u32 0, .int .i64 0, .int .i64 0, .string (⟨#[]⟩ : ByteArray)]) ?_ 3 _ rfl; (with_reducible repeat (first | refine blk_drewN ?_ _ | refine blk_drew ?_ | refine blk_alloc ?_ _)); refine blk_put (cs := #[.int .i64 t226, .int .i64 t227, .int .u32 0, .int .u32 0, .int .i64 0, .int .i64 0, .string (⟨#[]⟩ : ByteArray)]) ?_ 2 _ rfl; (with_reducible repeat (first | refine blk_drewN ?_ _ | refine blk_drew ?_ | refine blk_alloc ?_ _)); refine blk_put (cs := #[.int .i64 t226, .int .i64 0, .int .u32 0, .int .u32 0, .int .i64 0, .int .i64 0, .string (⟨#[]⟩ : ByteArray)]) ?_ 1 _ rfl; (with_reducible repeat (first | refine blk_drewN ?_ _ | refine blk_drew ?_ | refine blk_alloc ?_ _)); refine blk_put (cs := #[.int .i64 0, .int .i64 0, .int .u32 0, .int .u32 0, .int .i64 0, .int .i64 0, .string (⟨#[]⟩ : ByteArray)]) ?_ 0 _ rfl; (with_reducible repeat (first | refine blk_drewN ?_ _ | refine blk_drew ?_ | refine blk_alloc ?_ _)); exact BK235.out) hb); have n1_ := Aside0.mk (below_step (by repeat (first | (with_reducible first | exact HB.out | apply below_alloc | apply pw_below_drewN | apply below_drew1 | refine below_set ?_ GE235.out) | exact HB.out)) hb); clear BK235; clear HB; have BK235 := n0_; have HB := n1_; clear n0_ n1_; (try clear hb); (try clear hb2); (try clear hk); (try clear hi)))
              go_ret
              exact ⟨by first | rfl | (simp [errW_none, errW_some] <;> rfl) | (simp [*, errW_none, errW_some] <;> rfl), by repeat (first | (with_reducible first | exact HB.out | apply below_alloc | apply pw_below_drewN | apply below_drew1 | refine below_set ?_ GE235.out) | exact HB.out)⟩
             ·
              rw [if_neg c80] at H
              have c80b0 : (t226 == 0) = false := beq_eq_false_iff_ne.mpr c80
              have c80b1 : (t226 != 0) = true := bne_iff_ne.mpr c80
              exact absurd ((Option.some.inj H).trans HR.out) (by decide)
            ·
             rw [if_neg c79] at H
             have c79b0 : (t233.toList == ([] : List UInt8)) = false := beq_eq_false_iff_ne.mpr c79
             have c79b1 : (t233.toList != ([] : List UInt8)) = true := bne_iff_ne.mpr c79
             exact absurd ((Option.some.inj H).trans HR.out) (by decide)
           ·
            rw [if_neg c78] at H
            have c78b0 : (t234 == 4) = false := beq_eq_false_iff_ne.mpr c78
            have c78b1 : (t234 != 4) = true := bne_iff_ne.mpr c78
            exact absurd ((Option.some.inj H).trans HR.out) (by decide)
          ·
           rw [if_neg c74] at H
           exact absurd H (by simp)

/-- THE ONE PURE STATEMENT of rampartlaw04_TcpWrong: yours. -/
def rampartlaw04_TcpWrong.Pure : Prop := ∀ (a0 : Int) (a1 : ByteArray), (Lit.int .i64 a0).wf = true → a1.size ≤ 140737488351232 → ∃ k, rampartlaw04_TcpWrong.f k a0 a1 = some true
theorem rampartlaw04_TcpWrong.walk (P : rampartlaw04_TcpWrong.Pure) (a0 : Int) (a1 : ByteArray) (w : World) (w0 : (Lit.int .i64 a0).wf = true) (w1 : a1.size ≤ 140737488351232) :
  Calls Try.prog 10 #[.int .i64 a0, .string a1] w fun e w' => e = .returned (.bool true) ∧ Below w.heap.size w w' := by
 obtain ⟨k, h⟩ := P a0 a1 w0 w1
 refine (rampartlaw04_TcpWrong.calls k a0 a1 true w h rfl).mono ?_
 rintro e w' ⟨rfl, hd⟩
 exact ⟨rfl, hd⟩


end Go.Proofs.Ytgolimfljndnmaa.HW
