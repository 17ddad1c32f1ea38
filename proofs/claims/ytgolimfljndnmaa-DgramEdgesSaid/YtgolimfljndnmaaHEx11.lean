/- What is proved: each Go function of this text answers as the plain Lean function beside it (a law: its given row, out of the plain statement). Conditions: those that stand in each theorem. Written by my drive.py, which calls the printer of the kit for what that covers. -/
import Derived.Test.YtgolimfljndnmaaHEx0
import Derived.Test.YtgolimfljndnmaaHEx1
import Derived.Test.YtgolimfljndnmaaHEx4
import Derived.Test.YtgolimfljndnmaaHEx6
import Derived.Test.YtgolimfljndnmaaHEx9
import Derived.Test.YtgolimfljndnmaaHEx10
namespace Go.Proofs.Ytgolimfljndnmaa.HE
open Go.RowKit Go.Proofs.YtgolimfljndnmaaW.PrintWords Go.Proofs.YtgolimfljndnmaaW.PrintLast Go.Proofs.YtgolimfljndnmaaW.PrintMore
attribute [local go_sem] max2_int min2_int max_two min_two max_three min_three max_four min_four   -- for this text's walks alone
set_option linter.unusedVariables false
set_option linter.unusedSimpArgs false

/-! ### rampartlaw05_DgramEdges: function 14 -/
theorem bset_size (s : ByteArray) (i : Nat) (v : Int) : (bset s i v).size = s.size := by
 show (s.data.toList.set i _).toArray.size = _
 simp
def cells8 (s : ByteArray) (pad : Nat) : Array Value := (s.data.map fun b => Value.int .u8 b.toNat) ++ Array.replicate pad (.int .u8 0)
/-- Block g holds the bytes s, then zeros; its mark lies behind its last cell. -/
def Row8 (w : World) (g : Nat) (s : ByteArray) : Prop := ∃ pad : Nat, w.heap[g]? = some (.cells (cells8 s pad) 5 ((cells8 s pad).size, (cells8 s pad).size + 1))
theorem cells8_size (s : ByteArray) (pad : Nat) : (cells8 s pad).size = s.size + pad := by simp [cells8]
theorem row8_new (w : World) (s : ByteArray) : Row8 (Lib.bytesWorld w 5 s) w.heap.size s := ⟨_, Lib.bytesWorld_at_new w 5 s⟩
theorem row8_move {w w' : World} {g : Nat} {s : ByteArray} (h : Row8 w g s) (hm : w'.heap[g]? = w.heap[g]?) : Row8 w' g s := by
 obtain ⟨p, hp⟩ := h
 exact ⟨p, hm.trans hp⟩
theorem row8_lt {w : World} {g : Nat} {s : ByteArray} (h : Row8 w g s) : g < w.heap.size := by
 obtain ⟨p, hp⟩ := h
 exact (Array.getElem?_eq_some_iff.1 hp).1
theorem row8_below {w w' : World} {g : Nat} {s : ByteArray} (h : Row8 w g s) (hb : Below w.heap.size w w') : Row8 w' g s := row8_move h (hb.block g (row8_lt h))
theorem row8_drewN {w : World} {g : Nat} {s : ByteArray} (h : Row8 w g s) (n : Nat) : Row8 (w.drewN n) g s := row8_below h (pw_below_drewN (Below.refl _ _) n)
theorem row8_cell {w : World} {g : Nat} {s : ByteArray} (h : Row8 w g s) {i : Int} (h0 : 0 ≤ i) (h1 : i < (s.size : Int)) : w.cell? ⟨g, i.toNat, none⟩ = some (.int .u8 (bt s i)) := by
 obtain ⟨p, hp⟩ := h
 have hi : i.toNat < s.size := by omega
 have hb := bt_at s i
 have e : w.cell? ⟨g, i.toNat, none⟩ = (cells8 s p)[i.toNat]? := by simp [World.cell?, hp]
 rw [e, cells8, Array.getElem?_append_left (by simpa using hi)]
 rw [Array.getElem?_map, Array.getElem?_eq_getElem (show i.toNat < s.data.size from hi)]
 show some (Value.int .u8 ((s.data[i.toNat]).toNat : Int)) = _
 rw [← hb hi]
 rfl
theorem row8_frozen {w : World} {g : Nat} {s : ByteArray} (h : Row8 w g s) {i : Int} (h0 : 0 ≤ i) (h1 : i < (s.size : Int)) : w.frozen? ⟨g, i.toNat, none⟩ = false := by
 obtain ⟨p, hp⟩ := h
 have hz := cells8_size s p
 simp only [World.frozen?, hp]
 rw [hz]
 simp
 omega
theorem row8_set {w : World} {g : Nat} {s : ByteArray} (h : Row8 w g s) {i : Int} (h0 : 0 ≤ i) (h1 : i < (s.size : Int)) {v : Int} (hv0 : 0 ≤ v) (hv1 : v < 256) : Row8 (w.setCell ⟨g, i.toNat, none⟩ (.int .u8 v)) g (bset s i.toNat v) := by
 obtain ⟨p, hp⟩ := h
 have hi : i.toNat < s.size := by omega
 have hz := cells8_size s p
 have hz2 : (cells8 (bset s i.toNat v) p).size = (cells8 s p).size := by rw [cells8_size, cells8_size, bset_size]
 have hc : (cells8 s p).setIfInBounds i.toNat (.int .u8 v) = cells8 (bset s i.toNat v) p := by
  have hvn : ((UInt8.ofNat v.toNat).toNat : Int) = v := by
   rw [UInt8.toNat_ofNat', Nat.mod_eq_of_lt (by omega)]
   omega
  apply Array.ext_getElem?
  intro j
  rw [Array.getElem?_setIfInBounds]
  have hs : s.data.size = s.size := rfl
  have hb : (bset s i.toNat v).data = s.data.set i.toNat (UInt8.ofNat v.toNat) hi := by
   apply Array.ext'
   simp [bset]
  by_cases hj : i.toNat = j
  ·
   subst hj
   rw [if_pos rfl, if_pos (by rw [hz]; omega), cells8, hb, Array.getElem?_append_left (by simpa using hi)]
   simp
   omega
  ·
   rw [if_neg hj]
   unfold cells8
   rw [hb]
   by_cases hjs : j < s.size
   ·
    rw [Array.getElem?_append_left (by simpa using hjs), Array.getElem?_append_left (by simpa using hjs)]
    simp [hj]
   ·
    rw [Array.getElem?_append_right (by simpa using Nat.le_of_not_lt hjs), Array.getElem?_append_right (by simpa using Nat.le_of_not_lt hjs)]
    simp
 refine ⟨p, ?_⟩
 rw [hz2, ← hc]
 simp [World.setCell, Array.getElem?_modify, hp]
theorem row8_back {P : Program} {w : World} {g : Nat} {s : ByteArray} (h : Row8 w g s) (n cap : Nat) (hn : n = s.size) (hs : P.underlying 34 = some (.slice 5)) (he : P.underlying 5 = some (.int .u8)) (hd : P.underlying 9 = some .string) :
  (convert 34 9 (.slice (some ⟨g, 0, none⟩) n cap)).run P w = .ok (.string s) w := by
 subst hn
 have := run_convert_bytes_back (P := P) w 34 9 5 ⟨g, 0, none⟩ cap s.data.toList hs he hd (fun j hj => by
  have hj' : j < s.size := by simpa using hj
  have hc := row8_cell h (i := (j : Int)) (by omega) (by omega)
  have hb := bt_at s (j : Int)
  rw [Int.toNat_natCast] at hc hb
  have e : (⟨g, 0, none⟩ : Addr).add j = ⟨g, j, none⟩ := by simp [Addr.add]; omega
  rw [e, hc, ← hb hj']
  rfl)
 have hl : s.data.toList.length = s.size := by simp
 rw [hl] at this
 rw [this]
theorem conv_event {P : Program} {ops : Array Oper} {Q : Exit → Act → World → Prop} {rest : List Oper} {o : Oper} {a : Act} {W : World} (hgd : o.guard = none) {N : Tmp} (_hd : o.dst = some N) {s : ByteArray}
  (hrun : (execOp a.eval o).run P W = .ok (.value (.slice (some ⟨W.heap.size, 0, none⟩) s.size (grownCap W s.size 0 5))) (Lib.bytesWorld W 5 s))
  (h : ∀ g, g = W.heap.size → ∀ c w1, Row8 w1 g s → Below W.heap.size W w1 → wpList P ops Q rest (a.put o.dst (.slice (some ⟨g, 0, none⟩) s.size c)) w1) : wpList P ops Q (o :: rest) a W :=
 Kd.event_run hgd hrun (h _ rfl _ _ (row8_new W s) (by
  refine ⟨rfl, rfl, rfl, ?_, fun i hi => Lib.bytesWorld_at_old W 5 s i hi⟩
  rw [Lib.bytesWorld_size]; omega))
theorem back_event {P : Program} {ops : Array Oper} {Q : Exit → Act → World → Prop} {rest : List Oper} {o : Oper} {a : Act} {W : World} (hgd : o.guard = none) {N : Tmp} (_hd : o.dst = some N) {s : ByteArray}
  (hrun : (execOp a.eval o).run P W = .ok (.value (.string s)) W) (h : ∀ w1, w1 = W → wpList P ops Q rest (a.put o.dst (.string s)) w1) : wpList P ops Q (o :: rest) a W :=
 Kd.event_run hgd hrun (h W rfl)
theorem set_eq {s t : ByteArray} {i v : Int} (h : gosem_cut_init.f s i v = some t) : t = bset s i.toNat v := by
 unfold gosem_cut_init.f at h
 split at h
 ·
  exact (Option.some.inj h).symm
 ·
  cases h
theorem set_bounds {s t : ByteArray} {i v : Int} (h : gosem_cut_init.f s i v = some t) : 0 ≤ i ∧ i < (s.size : Int) := by
 unfold gosem_cut_init.f at h
 split at h
 ·
  assumption
 ·
  cases h
theorem bits8_range (op : BinOp) (x y : Int) : 0 ≤ Go.bits op .u8 x y ∧ Go.bits op .u8 x y < 256 := by
 unfold Go.bits
 split <;> (try rw [IntKind.wrap_u8]) <;> omega
/-! ### rampartlaw05_DgramEdges: function 14 -/
mutual
def rampartlaw05_DgramEdges.j0 : Nat → Int → ByteArray → Int → ByteArray → Bool → Int → Int → Int → Int → Int → Option (Bool)
 | 0, _, _, _, _, _, _, _, _, _, _ => none
 | k + 1, x0, x2, x7, x9, x62, x178000, x178001, x178002, x178003, x178004 => if x62 = true then (some false) else ((gosem_cut_init.f x9 6 0).bind fun t182 => ((gosem_cut_init.f t182 7 0).bind fun t183 => ((dgram_GetUDP.f k 1 2 t183).bind fun bt184 => (if bt184.2.2.2.2.2.2 = 0 then (if bt184.2.2.2.2.2.1.toList = x2.toList then (rampartlaw05_DgramEdges.j1 k x0 x2 x7 (bt184.1 != 65535) x178000 x178001 x178002 x178003 x178004) else (rampartlaw05_DgramEdges.j1 k x0 x2 x7 true x178000 x178001 x178002 x178003 x178004)) else (rampartlaw05_DgramEdges.j1 k x0 x2 x7 true x178000 x178001 x178002 x178003 x178004)))))
def rampartlaw05_DgramEdges.j1 : Nat → Int → ByteArray → Int → Bool → Int → Int → Int → Int → Int → Option (Bool)
 | 0, _, _, _, _, _, _, _, _, _ => none
 | k + 1, x0, x2, x7, x87, x178000, x178001, x178002, x178003, x178004 => if x87 = true then (some false) else ((rampartlaw00_Place.f x0 4).bind fun t192 => (if t192 = 0 then (rampartlaw05_DgramEdges.j2 k x2 x7 (wrap64 (65535 + x7)) x178001 (wrap64 (255 + x7)) x178003 x178004) else (if t192 = 1 then (rampartlaw05_DgramEdges.j2 k x2 x7 x178000 (wrap64 (-x7)) x178002 (wrap64 (-x7)) x178004) else (if t192 = 2 then (rampartlaw05_DgramEdges.j2 k x2 x7 (wrap64 (-x7)) x178001 x178002 (wrap64 (255 + x7)) x178004) else (rampartlaw05_DgramEdges.j2 k x2 x7 x178000 (wrap64 (65535 + x7)) (wrap64 (-x7)) x178003 x178004)))))
def rampartlaw05_DgramEdges.j2 : Nat → ByteArray → Int → Int → Int → Int → Int → Int → Option (Bool)
 | 0, _, _, _, _, _, _, _ => none
 | k + 1, x2, x7, x178000, x178001, x178002, x178003, x178004 => (dgram_PutUDP.f k 1 2 x178000 x178001 x178002 x178003 x178004 x2).bind fun bt193 => ((dgram_PutICMP.f k x178000 x178001 x178002 x178003 x178004 x2).bind fun bt195 => (if 0 ≤ (wrap64 (1992 + x7)) then (if (wrap64 (1992 + x7) : Int).toNat ≤ 281474976710656 then ((dgram_PutUDP.f k 1 2 0 0 0 0 0 (strOfNums (List.replicate (wrap64 (1992 + x7) : Int).toNat 0))).bind fun bt200 => ((dgram_PutICMP.f k 0 0 0 0 0 (strOfNums (List.replicate (wrap64 (1992 + x7) : Int).toNat 0))).bind fun bt205 => (if bt193.2 = 1 then (if bt195.2 = 1 then (if bt200.2 = 5 then (if bt205.2 = 5 then ((rampartlaw05_awake.f k).bind fun t207 => (some t207)) else (some false)) else (some false)) else (some false)) else (some false)))) else (none)) else (none)))
end
def rampartlaw05_DgramEdges.f (k : Nat) (a0 : Int) (a1 : Int) (a2 : ByteArray) : Option (Bool) := if (a2.size : Int) > 500 then ((rampartlaw05_awake.f k).bind fun t175 => (some t175)) else ((rampartlaw00_Place.f a1 100).bind fun t176 => ((dgram_PutUDP.f k 1 2 65535 65535 255 255 4294967295 a2).bind fun bt178 => ((dgram_PutICMP.f k 65535 65535 255 255 4294967295 a2).bind fun bt180 => (if bt178.2 = 0 then (if bt180.2 = 0 then (if (bt178.1.size : Int) = (bt180.1.size : Int) then (rampartlaw05_DgramEdges.j0 k a0 a2 (wrap64 (1 + t176)) bt178.1 (decide ((bt178.1.size : Int) < 8)) 65535 65535 255 255 4294967295) else (rampartlaw05_DgramEdges.j0 k a0 a2 (wrap64 (1 + t176)) bt178.1 true 65535 65535 255 255 4294967295)) else (rampartlaw05_DgramEdges.j0 k a0 a2 (wrap64 (1 + t176)) bt178.1 true 65535 65535 255 255 4294967295)) else (rampartlaw05_DgramEdges.j0 k a0 a2 (wrap64 (1 + t176)) bt178.1 true 65535 65535 255 255 4294967295)))))
theorem rampartlaw05_DgramEdges.mono_l : ∀ k, (∀ y0 y1 y2 y3 y4 y5 y6 y7 y8 y9, LeO (rampartlaw05_DgramEdges.j0 k y0 y1 y2 y3 y4 y5 y6 y7 y8 y9) (rampartlaw05_DgramEdges.j0 (k + 1) y0 y1 y2 y3 y4 y5 y6 y7 y8 y9)) ∧ (∀ y0 y1 y2 y3 y4 y5 y6 y7 y8, LeO (rampartlaw05_DgramEdges.j1 k y0 y1 y2 y3 y4 y5 y6 y7 y8) (rampartlaw05_DgramEdges.j1 (k + 1) y0 y1 y2 y3 y4 y5 y6 y7 y8)) ∧ (∀ y0 y1 y2 y3 y4 y5 y6, LeO (rampartlaw05_DgramEdges.j2 k y0 y1 y2 y3 y4 y5 y6) (rampartlaw05_DgramEdges.j2 (k + 1) y0 y1 y2 y3 y4 y5 y6))
 | 0 => ⟨fun _ _ _ _ _ _ _ _ _ _ r h => by simp [rampartlaw05_DgramEdges.j0] at h, fun _ _ _ _ _ _ _ _ _ r h => by simp [rampartlaw05_DgramEdges.j1] at h, fun _ _ _ _ _ _ _ r h => by simp [rampartlaw05_DgramEdges.j2] at h⟩
 | k + 1 => by
  obtain ⟨ih0, ih1, ih2⟩ := rampartlaw05_DgramEdges.mono_l k
  refine ⟨?_, ?_, ?_⟩
  ·
   intro y0 y1 y2 y3 y4 y5 y6 y7 y8 y9
   unfold rampartlaw05_DgramEdges.j0
   repeat' first
   | (with_reducible exact ih0 _ _ _ _ _ _ _ _ _ _)
   | (with_reducible exact ih1 _ _ _ _ _ _ _ _ _)
   | (with_reducible exact ih2 _ _ _ _ _ _ _)
   | (with_reducible exact dgram_GetUDP.mono _ _ _ _)
   | (with_reducible exact dgram_PutICMP.mono _ _ _ _ _ _ _)
   | (with_reducible exact dgram_PutUDP.mono _ _ _ _ _ _ _ _ _)
   | (with_reducible exact rampartlaw05_awake.mono _)
   | (with_reducible exact LeO.refl _)
   | (with_reducible exact LeO.none _)
   | (with_reducible refine LeO.ite ?_ ?_)
   | (with_reducible refine LeO.bind ?_ (fun _ => ?_))
   | exact ih0 _ _ _ _ _ _ _ _ _ _
   | exact ih1 _ _ _ _ _ _ _ _ _
   | exact ih2 _ _ _ _ _ _ _
   | exact dgram_GetUDP.mono _ _ _ _
   | exact dgram_PutICMP.mono _ _ _ _ _ _ _
   | exact dgram_PutUDP.mono _ _ _ _ _ _ _ _ _
   | exact rampartlaw05_awake.mono _
   | exact LeO.none _
   | refine LeO.ite ?_ ?_
   | refine LeO.bind ?_ (fun _ => ?_)
  ·
   intro y0 y1 y2 y3 y4 y5 y6 y7 y8
   unfold rampartlaw05_DgramEdges.j1
   repeat' first
   | (with_reducible exact ih0 _ _ _ _ _ _ _ _ _ _)
   | (with_reducible exact ih1 _ _ _ _ _ _ _ _ _)
   | (with_reducible exact ih2 _ _ _ _ _ _ _)
   | (with_reducible exact dgram_GetUDP.mono _ _ _ _)
   | (with_reducible exact dgram_PutICMP.mono _ _ _ _ _ _ _)
   | (with_reducible exact dgram_PutUDP.mono _ _ _ _ _ _ _ _ _)
   | (with_reducible exact rampartlaw05_awake.mono _)
   | (with_reducible exact LeO.refl _)
   | (with_reducible exact LeO.none _)
   | (with_reducible refine LeO.ite ?_ ?_)
   | (with_reducible refine LeO.bind ?_ (fun _ => ?_))
   | exact ih0 _ _ _ _ _ _ _ _ _ _
   | exact ih1 _ _ _ _ _ _ _ _ _
   | exact ih2 _ _ _ _ _ _ _
   | exact dgram_GetUDP.mono _ _ _ _
   | exact dgram_PutICMP.mono _ _ _ _ _ _ _
   | exact dgram_PutUDP.mono _ _ _ _ _ _ _ _ _
   | exact rampartlaw05_awake.mono _
   | exact LeO.none _
   | refine LeO.ite ?_ ?_
   | refine LeO.bind ?_ (fun _ => ?_)
  ·
   intro y0 y1 y2 y3 y4 y5 y6
   unfold rampartlaw05_DgramEdges.j2
   repeat' first
   | (with_reducible exact ih0 _ _ _ _ _ _ _ _ _ _)
   | (with_reducible exact ih1 _ _ _ _ _ _ _ _ _)
   | (with_reducible exact ih2 _ _ _ _ _ _ _)
   | (with_reducible exact dgram_GetUDP.mono _ _ _ _)
   | (with_reducible exact dgram_PutICMP.mono _ _ _ _ _ _ _)
   | (with_reducible exact dgram_PutUDP.mono _ _ _ _ _ _ _ _ _)
   | (with_reducible exact rampartlaw05_awake.mono _)
   | (with_reducible exact LeO.refl _)
   | (with_reducible exact LeO.none _)
   | (with_reducible refine LeO.ite ?_ ?_)
   | (with_reducible refine LeO.bind ?_ (fun _ => ?_))
   | exact ih0 _ _ _ _ _ _ _ _ _ _
   | exact ih1 _ _ _ _ _ _ _ _ _
   | exact ih2 _ _ _ _ _ _ _
   | exact dgram_GetUDP.mono _ _ _ _
   | exact dgram_PutICMP.mono _ _ _ _ _ _ _
   | exact dgram_PutUDP.mono _ _ _ _ _ _ _ _ _
   | exact rampartlaw05_awake.mono _
   | exact LeO.none _
   | refine LeO.ite ?_ ?_
   | refine LeO.bind ?_ (fun _ => ?_)
theorem rampartlaw05_DgramEdges.mono : ∀ a0 a1 a2 k, LeO (rampartlaw05_DgramEdges.f k a0 a1 a2) (rampartlaw05_DgramEdges.f (k + 1) a0 a1 a2) := by
 intro a0 a1 a2 k
 obtain ⟨ih0, ih1, ih2⟩ := rampartlaw05_DgramEdges.mono_l k
 unfold rampartlaw05_DgramEdges.f
 repeat' first
   | (with_reducible exact ih0 _ _ _ _ _ _ _ _ _ _)
   | (with_reducible exact ih1 _ _ _ _ _ _ _ _ _)
   | (with_reducible exact ih2 _ _ _ _ _ _ _)
   | (with_reducible exact dgram_GetUDP.mono _ _ _ _)
   | (with_reducible exact dgram_PutICMP.mono _ _ _ _ _ _ _)
   | (with_reducible exact dgram_PutUDP.mono _ _ _ _ _ _ _ _ _)
   | (with_reducible exact rampartlaw05_awake.mono _)
   | (with_reducible exact LeO.refl _)
   | (with_reducible exact LeO.none _)
   | (with_reducible refine LeO.ite ?_ ?_)
   | (with_reducible refine LeO.bind ?_ (fun _ => ?_))
   | exact ih0 _ _ _ _ _ _ _ _ _ _
   | exact ih1 _ _ _ _ _ _ _ _ _
   | exact ih2 _ _ _ _ _ _ _
   | exact dgram_GetUDP.mono _ _ _ _
   | exact dgram_PutICMP.mono _ _ _ _ _ _ _
   | exact dgram_PutUDP.mono _ _ _ _ _ _ _ _ _
   | exact rampartlaw05_awake.mono _
   | exact LeO.none _
   | refine LeO.ite ?_ ?_
   | refine LeO.bind ?_ (fun _ => ?_)
set_option maxHeartbeats 8000000 in
set_option maxRecDepth 100000 in
theorem rampartlaw05_DgramEdges.calls (k : Nat) (a0 : Int) (a1 : Int) (a2 : ByteArray) (r : Bool) (w : World) (h : rampartlaw05_DgramEdges.f k a0 a1 a2 = some r) (HR0 : r = true) :
  Calls Try.prog 14 #[.int .i64 a0, .int .i64 a1, .string a2] w fun e w' => e = .returned (.bool r) ∧ Below w.heap.size w w' := by
 have HR := Aside0.mk HR0
 clear HR0
 have hu53 := Try.underlying53
 have HB := Aside0.mk (Below.refl w.heap.size w)
 have H : (if (a2.size : Int) > 500 then ((rampartlaw05_awake.f k).bind fun t175 => (some t175)) else ((rampartlaw00_Place.f a1 100).bind fun t176 => ((dgram_PutUDP.f k 1 2 65535 65535 255 255 4294967295 a2).bind fun bt178 => ((dgram_PutICMP.f k 65535 65535 255 255 4294967295 a2).bind fun bt180 => (if bt178.2 = 0 then (if bt180.2 = 0 then (if (bt178.1.size : Int) = (bt180.1.size : Int) then (rampartlaw05_DgramEdges.j0 k a0 a2 (wrap64 (1 + t176)) bt178.1 (decide ((bt178.1.size : Int) < 8)) 65535 65535 255 255 4294967295) else (rampartlaw05_DgramEdges.j0 k a0 a2 (wrap64 (1 + t176)) bt178.1 true 65535 65535 255 255 4294967295)) else (rampartlaw05_DgramEdges.j0 k a0 a2 (wrap64 (1 + t176)) bt178.1 true 65535 65535 255 255 4294967295)) else (rampartlaw05_DgramEdges.j0 k a0 a2 (wrap64 (1 + t176)) bt178.1 true 65535 65535 255 255 4294967295)))))) = some r := h
 clear h
 by_cases c4 : (a2.size : Int) > 500
 ·
  rw [if_pos c4] at H
  have c4b0 : decide (500 < (a2.size : Int)) = true := decide_eq_true c4
  have c4b1 : decide (500 < a2.size) = true := decide_eq_true (by omega)
  clear c4
  replace H := Option.bind_eq_some_iff.mp H
  obtain ⟨t175, A50, H⟩ := H
  replace H : (some t175) = some r := H
  have A5 := Aside0.mk A50
  clear A50
  obtain rfl := Option.some.inj H
  go_enter Try.func14, Try.ntmps14
  go_wp2_with (first | ((with_reducible refine gate_callee (f := 32) rfl ?_); refine goesL_ (some 28) rfl rfl Try.func32 (by kernel_rfl) rfl #[] rfl (by (try simp only [List.map_toArray, List.map_cons, List.map_nil]); first | done | rfl | (simp only [List.length_drop, List.length_take]; rfl)) ?_; (with_reducible refine (rampartlaw05_awake.calls k  t175 _ A5.out (by first | rfl | exact HR.out)).mono ?_); rintro e w6 ⟨rfl, hb⟩; refine ⟨_, rfl, ?_⟩; have n0_ := Aside0.mk (below_step (by repeat (first | (with_reducible first | exact HB.out | apply below_alloc | apply pw_below_drewN | apply below_drew1) | exact HB.out)) hb); clear HB; have HB := n0_; clear n0_; (try clear hb); (try clear hb2); (try clear hk); (try clear hi)))
  go_ret
  exact ⟨by first | rfl | (simp [errW_none, errW_some] <;> rfl) | (simp [*, errW_none, errW_some] <;> rfl), by repeat (first | (with_reducible first | exact HB.out | apply below_alloc | apply pw_below_drewN | apply below_drew1) | exact HB.out)⟩
 ·
  rw [if_neg c4] at H
  have c4b0 : decide (500 < (a2.size : Int)) = false := decide_eq_false c4
  have c4b1 : decide (500 < a2.size) = false := decide_eq_false (by omega)
  clear c4
  replace H := Option.bind_eq_some_iff.mp H
  obtain ⟨t176, A70, H⟩ := H
  replace H : ((dgram_PutUDP.f k 1 2 65535 65535 255 255 4294967295 a2).bind fun bt178 => ((dgram_PutICMP.f k 65535 65535 255 255 4294967295 a2).bind fun bt180 => (if bt178.2 = 0 then (if bt180.2 = 0 then (if (bt178.1.size : Int) = (bt180.1.size : Int) then (rampartlaw05_DgramEdges.j0 k a0 a2 (wrap64 (1 + t176)) bt178.1 (decide ((bt178.1.size : Int) < 8)) 65535 65535 255 255 4294967295) else (rampartlaw05_DgramEdges.j0 k a0 a2 (wrap64 (1 + t176)) bt178.1 true 65535 65535 255 255 4294967295)) else (rampartlaw05_DgramEdges.j0 k a0 a2 (wrap64 (1 + t176)) bt178.1 true 65535 65535 255 255 4294967295)) else (rampartlaw05_DgramEdges.j0 k a0 a2 (wrap64 (1 + t176)) bt178.1 true 65535 65535 255 255 4294967295)))) = some r := H
  have A7 := Aside0.mk A70
  clear A70
  replace H := Option.bind_eq_some_iff.mp H
  obtain ⟨⟨t178, t179⟩, A80, H⟩ := H
  replace H : ((dgram_PutICMP.f k 65535 65535 255 255 4294967295 a2).bind fun bt180 => (if t179 = 0 then (if bt180.2 = 0 then (if (t178.size : Int) = (bt180.1.size : Int) then (rampartlaw05_DgramEdges.j0 k a0 a2 (wrap64 (1 + t176)) t178 (decide ((t178.size : Int) < 8)) 65535 65535 255 255 4294967295) else (rampartlaw05_DgramEdges.j0 k a0 a2 (wrap64 (1 + t176)) t178 true 65535 65535 255 255 4294967295)) else (rampartlaw05_DgramEdges.j0 k a0 a2 (wrap64 (1 + t176)) t178 true 65535 65535 255 255 4294967295)) else (rampartlaw05_DgramEdges.j0 k a0 a2 (wrap64 (1 + t176)) t178 true 65535 65535 255 255 4294967295))) = some r := H
  have A8 := Aside0.mk A80
  clear A80
  replace H := Option.bind_eq_some_iff.mp H
  obtain ⟨⟨t180, t181⟩, A90, H⟩ := H
  replace H : (if t179 = 0 then (if t181 = 0 then (if (t178.size : Int) = (t180.size : Int) then (rampartlaw05_DgramEdges.j0 k a0 a2 (wrap64 (1 + t176)) t178 (decide ((t178.size : Int) < 8)) 65535 65535 255 255 4294967295) else (rampartlaw05_DgramEdges.j0 k a0 a2 (wrap64 (1 + t176)) t178 true 65535 65535 255 255 4294967295)) else (rampartlaw05_DgramEdges.j0 k a0 a2 (wrap64 (1 + t176)) t178 true 65535 65535 255 255 4294967295)) else (rampartlaw05_DgramEdges.j0 k a0 a2 (wrap64 (1 + t176)) t178 true 65535 65535 255 255 4294967295)) = some r := H
  have A9 := Aside0.mk A90
  clear A90
  have HC10 := Aside0.mk H
  clear H
  go_enter Try.func14, Try.ntmps14
  go_upto_region 7 with (first | ((with_reducible refine gate_callee (f := 23) rfl ?_); refine goesL_ (some 30) rfl rfl Try.func23 (by kernel_rfl) rfl #[.int .i64 a1, .int .i64 100] rfl (by (try simp only [List.map_toArray, List.map_cons, List.map_nil]); first | done | rfl | (simp only [List.length_drop, List.length_take]; rfl)) ?_; (with_reducible refine (rampartlaw00_Place.calls a1 100 t176 _ A7.out).mono ?_); rintro e w' ⟨rfl, ⟨nd, rfl⟩⟩; refine ⟨_, rfl, ?_⟩) | ((with_reducible refine gate_dst (N := 8) rfl ?_); (try (refine gate_guard (by rfl) ?_; dsimp only)); refine box_event ?hg (N := 8) ?hd (cs := #[.int .i64 0, .int .i64 0, .int .i64 0, .int .i64 0, .int .u32 0]) (t := 53) ?hr ?_; (case hd => rfl); (case hg => rfl); (case hr => first | (go_simp; done) | (go_simp; rfl)); intro gb177 hg w11 hbox hb; have n0_ := Aside0.mk (below_step (by repeat (first | (with_reducible first | exact HB.out | apply below_alloc | apply pw_below_drewN | apply below_drew1) | exact HB.out)) hb); have n1_ := Aside0.mk (hbox); have n2_ := Aside0.mk ((by rw [hg]; exact (below_size (by repeat (first | (with_reducible first | exact HB.out | apply below_alloc | apply pw_below_drewN | apply below_drew1) | exact HB.out))) : w.heap.size ≤ gb177)); have n3_ := Aside0.mk ((by rw [hg]; exact (below_size (by repeat (first | (with_reducible first | exact HB.out | apply below_alloc | apply pw_below_drewN | apply below_drew1) | exact HB.out))) : w.heap.size ≤ gb177)); clear HB; have HB := n0_; have BK177 := n1_; have GW177 := n2_; have GE177 := n3_; clear n0_ n1_ n2_ n3_; clear hb hbox hg; have hcz12_0 : w11.cell? ⟨gb177, 0, none⟩ = some (.int .i64 0) := (blk_cell BK177.out 0).trans rfl; have hcz12_1 : w11.cell? ⟨gb177, 1, none⟩ = some (.int .i64 0) := (blk_cell BK177.out 1).trans rfl; have hcz12_2 : w11.cell? ⟨gb177, 2, none⟩ = some (.int .i64 0) := (blk_cell BK177.out 2).trans rfl; have hcz12_3 : w11.cell? ⟨gb177, 3, none⟩ = some (.int .i64 0) := (blk_cell BK177.out 3).trans rfl; have hcz12_4 : w11.cell? ⟨gb177, 4, none⟩ = some (.int .u32 0) := (blk_cell BK177.out 4).trans rfl; have hfz12_0 := blk_frozen BK177.out 0; have hfz12_1 := blk_frozen BK177.out 1; have hfz12_2 := blk_frozen BK177.out 2; have hfz12_3 := blk_frozen BK177.out 3; have hfz12_4 := blk_frozen BK177.out 4) | ((with_reducible refine gate_callee (f := 33) rfl ?_); refine goesL_ (some 36) rfl rfl Try.func33 (by kernel_rfl) rfl #[.int .u32 1, .int .u32 2, .agg #[.int .i64 65535, .int .i64 65535, .int .i64 255, .int .i64 255, .int .u32 4294967295], .string a2] rfl (by (try simp only [List.map_toArray, List.map_cons, List.map_nil]); first | done | rfl | (simp only [List.length_drop, List.length_take]; rfl)) ?_; (with_reducible refine (dgram_PutUDP.calls k 1 2 65535 65535 255 255 4294967295 a2 t178 t179 _ A8.out).mono ?_); rintro e w13 ⟨rfl, hb⟩; refine ⟨_, rfl, ?_⟩; have n0_ := Aside0.mk (blk_below (g := gb177) (o := .cells #[.int .i64 65535, .int .i64 65535, .int .i64 255, .int .i64 255, .int .u32 4294967295] 53 (0, 0)) (by (with_reducible repeat (first | refine blk_drewN ?_ _ | refine blk_drew ?_ | refine blk_alloc ?_ _)); refine blk_put (cs := #[.int .i64 65535, .int .i64 65535, .int .i64 255, .int .i64 255, .int .u32 0]) ?_ 4 _ rfl; (with_reducible repeat (first | refine blk_drewN ?_ _ | refine blk_drew ?_ | refine blk_alloc ?_ _)); refine blk_put (cs := #[.int .i64 65535, .int .i64 65535, .int .i64 255, .int .i64 0, .int .u32 0]) ?_ 3 _ rfl; (with_reducible repeat (first | refine blk_drewN ?_ _ | refine blk_drew ?_ | refine blk_alloc ?_ _)); refine blk_put (cs := #[.int .i64 65535, .int .i64 65535, .int .i64 0, .int .i64 0, .int .u32 0]) ?_ 2 _ rfl; (with_reducible repeat (first | refine blk_drewN ?_ _ | refine blk_drew ?_ | refine blk_alloc ?_ _)); refine blk_put (cs := #[.int .i64 65535, .int .i64 0, .int .i64 0, .int .i64 0, .int .u32 0]) ?_ 1 _ rfl; (with_reducible repeat (first | refine blk_drewN ?_ _ | refine blk_drew ?_ | refine blk_alloc ?_ _)); refine blk_put (cs := #[.int .i64 0, .int .i64 0, .int .i64 0, .int .i64 0, .int .u32 0]) ?_ 0 _ rfl; (with_reducible repeat (first | refine blk_drewN ?_ _ | refine blk_drew ?_ | refine blk_alloc ?_ _)); exact BK177.out) hb); have n1_ := Aside0.mk (below_step (by repeat (first | (with_reducible first | exact HB.out | apply below_alloc | apply pw_below_drewN | apply below_drew1 | refine below_set ?_ GE177.out) | exact HB.out)) hb); clear BK177; clear HB; have BK177 := n0_; have HB := n1_; clear n0_ n1_; (try clear hb); (try clear hb2); (try clear hk); (try clear hi); have hcz14_0 : w13.cell? ⟨gb177, 0, none⟩ = some (.int .i64 65535) := (blk_cell BK177.out 0).trans rfl; have hcz14_1 : w13.cell? ⟨gb177, 1, none⟩ = some (.int .i64 65535) := (blk_cell BK177.out 1).trans rfl; have hcz14_2 : w13.cell? ⟨gb177, 2, none⟩ = some (.int .i64 255) := (blk_cell BK177.out 2).trans rfl; have hcz14_3 : w13.cell? ⟨gb177, 3, none⟩ = some (.int .i64 255) := (blk_cell BK177.out 3).trans rfl; have hcz14_4 : w13.cell? ⟨gb177, 4, none⟩ = some (.int .u32 4294967295) := (blk_cell BK177.out 4).trans rfl; have hfz14_0 := blk_frozen BK177.out 0; have hfz14_1 := blk_frozen BK177.out 1; have hfz14_2 := blk_frozen BK177.out 2; have hfz14_3 := blk_frozen BK177.out 3; have hfz14_4 := blk_frozen BK177.out 4) | ((with_reducible refine gate_callee (f := 36) rfl ?_); refine goesL_ (some 42) rfl rfl Try.func36 (by kernel_rfl) rfl #[.agg #[.int .i64 65535, .int .i64 65535, .int .i64 255, .int .i64 255, .int .u32 4294967295], .string a2] rfl (by (try simp only [List.map_toArray, List.map_cons, List.map_nil]); first | done | rfl | (simp only [List.length_drop, List.length_take]; rfl)) ?_; (with_reducible refine (dgram_PutICMP.calls k 65535 65535 255 255 4294967295 a2 t180 t181 _ A9.out).mono ?_); rintro e w15 ⟨rfl, hb⟩; refine ⟨_, rfl, ?_⟩; have n0_ := Aside0.mk (blk_below (g := gb177) (o := .cells #[.int .i64 65535, .int .i64 65535, .int .i64 255, .int .i64 255, .int .u32 4294967295] 53 (0, 0)) (by (with_reducible repeat (first | refine blk_drewN ?_ _ | refine blk_drew ?_ | refine blk_alloc ?_ _)); exact BK177.out) hb); have n1_ := Aside0.mk (below_step (by repeat (first | (with_reducible first | exact HB.out | apply below_alloc | apply pw_below_drewN | apply below_drew1 | refine below_set ?_ GE177.out) | exact HB.out)) hb); clear BK177; clear HB; have BK177 := n0_; have HB := n1_; clear n0_ n1_; (try clear hb); (try clear hb2); (try clear hk); (try clear hi)))
  (try simp only [Act.put, List.setIfInBounds_toArray, List.set_cons_zero, List.set_cons_succ])
  go_cut [62] (fun v62 wc => ∃ (kq : Nat) (x62_9 : Bool), v62 = .bool x62_9 ∧ Aside0 (rampartlaw05_DgramEdges.j0 kq a0 a2 (wrap64 (1 + t176)) t178 x62_9 65535 65535 255 255 4294967295 = some r) ∧ Aside0 (kq ≤ k) ∧ Aside0 (wc.heap[gb177]? = some (.cells #[.int .i64 65535, .int .i64 65535, .int .i64 255, .int .i64 255, .int .u32 4294967295] 53 (0, 0))) ∧ Aside0 (Below w.heap.size w wc))
  case first =>
   have H := HC10.out
   clear HC10
   by_cases c16 : t179 = 0
   ·
    rw [if_pos c16] at H
    have c16b0 : (t179 == 0) = true := beq_iff_eq.mpr c16
    have c16b1 : (t179 != 0) = false := bne_eq_false_iff_eq.mpr c16
    clear c16
    (first | rw [c16b0] | (simp only [i64_w, i32_w]; rw [c16b0]) | skip)
    by_cases c17 : t181 = 0
    ·
     rw [if_pos c17] at H
     have c17b0 : (t181 == 0) = true := beq_iff_eq.mpr c17
     have c17b1 : (t181 != 0) = false := bne_eq_false_iff_eq.mpr c17
     clear c17
     by_cases c18 : (t178.size : Int) = (t180.size : Int)
     ·
      rw [if_pos c18] at H
      have c18b0 : ((t178.size : Int) == (t180.size : Int)) = true := beq_iff_eq.mpr c18
      have c18b1 : ((t178.size : Int) != (t180.size : Int)) = false := bne_eq_false_iff_eq.mpr c18
      have c18b2 : (t178.size == t180.size) = true := by first | simpa using c18 | (simp at c18 ⊢; omega)
      clear c18
      have H' := Aside0.mk H
      clear H
      go_wp2
      go_meet
      case rel => exact ⟨_, (decide ((t178.size : Int) < 8)), (by first | rfl | (simp; done) | (simp [*]; done)), H', ⟨by first | omega | exact Nat.le_refl _⟩, ⟨by (with_reducible repeat (first | refine blk_drewN ?_ _ | refine blk_drew ?_ | refine blk_alloc ?_ _)); exact BK177.out⟩, ⟨by repeat (first | (with_reducible first | exact HB.out | apply below_alloc | apply pw_below_drewN | apply below_drew1 | refine below_set ?_ GE177.out) | exact HB.out)⟩⟩
     ·
      rw [if_neg c18] at H
      have c18b0 : ((t178.size : Int) == (t180.size : Int)) = false := beq_eq_false_iff_ne.mpr c18
      have c18b1 : ((t178.size : Int) != (t180.size : Int)) = true := bne_iff_ne.mpr c18
      have c18b2 : (t178.size == t180.size) = false := by first | simpa using c18 | (simp at c18 ⊢; omega)
      have H' := Aside0.mk H
      clear H
      go_wp2
      go_meet
      case rel => exact ⟨_, (true), (by first | rfl | (simp; done) | (simp [*]; done)), H', ⟨by first | omega | exact Nat.le_refl _⟩, ⟨by (with_reducible repeat (first | refine blk_drewN ?_ _ | refine blk_drew ?_ | refine blk_alloc ?_ _)); exact BK177.out⟩, ⟨by repeat (first | (with_reducible first | exact HB.out | apply below_alloc | apply pw_below_drewN | apply below_drew1 | refine below_set ?_ GE177.out) | exact HB.out)⟩⟩
    ·
     rw [if_neg c17] at H
     have c17b0 : (t181 == 0) = false := beq_eq_false_iff_ne.mpr c17
     have c17b1 : (t181 != 0) = true := bne_iff_ne.mpr c17
     have H' := Aside0.mk H
     clear H
     go_wp2
     go_meet
     case rel => exact ⟨_, (true), (by first | rfl | (simp; done) | (simp [*]; done)), H', ⟨by first | omega | exact Nat.le_refl _⟩, ⟨by (with_reducible repeat (first | refine blk_drewN ?_ _ | refine blk_drew ?_ | refine blk_alloc ?_ _)); exact BK177.out⟩, ⟨by repeat (first | (with_reducible first | exact HB.out | apply below_alloc | apply pw_below_drewN | apply below_drew1 | refine below_set ?_ GE177.out) | exact HB.out)⟩⟩
   ·
    rw [if_neg c16] at H
    have c16b0 : (t179 == 0) = false := beq_eq_false_iff_ne.mpr c16
    have c16b1 : (t179 != 0) = true := bne_iff_ne.mpr c16
    (first | rw [c16b0] | (simp only [i64_w, i32_w]; rw [c16b0]) | skip)
    have H' := Aside0.mk H
    clear H
    go_wp2
    go_meet
    case rel => exact ⟨_, (true), (by first | rfl | (simp; done) | (simp [*]; done)), H', ⟨by first | omega | exact Nat.le_refl _⟩, ⟨by (with_reducible repeat (first | refine blk_drewN ?_ _ | refine blk_drew ?_ | refine blk_alloc ?_ _)); exact BK177.out⟩, ⟨by repeat (first | (with_reducible first | exact HB.out | apply below_alloc | apply pw_below_drewN | apply below_drew1 | refine below_set ?_ GE177.out) | exact HB.out)⟩⟩
  case rest =>
   clear HC10
   try clear c1
   try clear c2
   try clear p2
   try clear c3
   try clear c4
   try clear c4b0
   try clear c4b1
   try clear p6
   try clear c14
   try clear c16
   try clear c16b0
   try clear c16b1
   try clear c17
   try clear c17b0
   try clear c17b1
   try clear c18
   try clear c18b0
   try clear c18b1
   try clear c18b2
   try clear hcz12_0
   try clear hcz12_1
   try clear hcz12_2
   try clear hcz12_3
   try clear hcz12_4
   try clear hcz14_0
   try clear hcz14_1
   try clear hcz14_2
   try clear hcz14_3
   try clear hcz14_4
   try clear hfz12_0
   try clear hfz12_1
   try clear hfz12_2
   try clear hfz12_3
   try clear hfz12_4
   try clear hfz14_0
   try clear hfz14_1
   try clear hfz14_2
   try clear hfz14_3
   try clear hfz14_4
   obtain ⟨kq, x62_9, rfl, HA, HJ9, BK177, HB⟩ := hcut
   cases kq with
   | zero => exact absurd HA.out (by simp [rampartlaw05_DgramEdges.j0])
   | succ kj9 =>
    have H := HA.out
    clear HA
    simp only [rampartlaw05_DgramEdges.j0] at H
    by_cases c19 : x62_9 = true
    ·
     subst c19
     have H1 : (some false) = some r := by rw [if_pos rfl] at H; exact H
     clear H
     have H := H1
     clear H1
     exact absurd ((Option.some.inj H).trans HR.out) (by decide)
    ·
     replace c19 := Bool.eq_false_iff.mpr c19
     subst c19
     have H1 : ((gosem_cut_init.f t178 6 0).bind fun t182 => ((gosem_cut_init.f t182 7 0).bind fun t183 => ((dgram_GetUDP.f kj9 1 2 t183).bind fun bt184 => (if bt184.2.2.2.2.2.2 = 0 then (if bt184.2.2.2.2.2.1.toList = a2.toList then (rampartlaw05_DgramEdges.j1 kj9 a0 a2 (wrap64 (1 + t176)) (bt184.1 != 65535) 65535 65535 255 255 4294967295) else (rampartlaw05_DgramEdges.j1 kj9 a0 a2 (wrap64 (1 + t176)) true 65535 65535 255 255 4294967295)) else (rampartlaw05_DgramEdges.j1 kj9 a0 a2 (wrap64 (1 + t176)) true 65535 65535 255 255 4294967295))))) = some r := by rw [if_neg (show ¬ (false = true) by decide)] at H; exact H
     clear H
     have H := H1
     clear H1
     replace H := Option.bind_eq_some_iff.mp H
     obtain ⟨t182, A200, H⟩ := H
     replace H : ((gosem_cut_init.f t182 7 0).bind fun t183 => ((dgram_GetUDP.f kj9 1 2 t183).bind fun bt184 => (if bt184.2.2.2.2.2.2 = 0 then (if bt184.2.2.2.2.2.1.toList = a2.toList then (rampartlaw05_DgramEdges.j1 kj9 a0 a2 (wrap64 (1 + t176)) (bt184.1 != 65535) 65535 65535 255 255 4294967295) else (rampartlaw05_DgramEdges.j1 kj9 a0 a2 (wrap64 (1 + t176)) true 65535 65535 255 255 4294967295)) else (rampartlaw05_DgramEdges.j1 kj9 a0 a2 (wrap64 (1 + t176)) true 65535 65535 255 255 4294967295)))) = some r := H
     have A20 := Aside0.mk A200
     clear A200
     replace H := Option.bind_eq_some_iff.mp H
     obtain ⟨t183, A210, H⟩ := H
     replace H : ((dgram_GetUDP.f kj9 1 2 t183).bind fun bt184 => (if bt184.2.2.2.2.2.2 = 0 then (if bt184.2.2.2.2.2.1.toList = a2.toList then (rampartlaw05_DgramEdges.j1 kj9 a0 a2 (wrap64 (1 + t176)) (bt184.1 != 65535) 65535 65535 255 255 4294967295) else (rampartlaw05_DgramEdges.j1 kj9 a0 a2 (wrap64 (1 + t176)) true 65535 65535 255 255 4294967295)) else (rampartlaw05_DgramEdges.j1 kj9 a0 a2 (wrap64 (1 + t176)) true 65535 65535 255 255 4294967295))) = some r := H
     have A21 := Aside0.mk A210
     clear A210
     replace H := Option.bind_eq_some_iff.mp H
     obtain ⟨⟨t184, t185, t186, t187, t188, t189, t190⟩, A220, H⟩ := H
     replace H : (if t190 = 0 then (if t189.toList = a2.toList then (rampartlaw05_DgramEdges.j1 kj9 a0 a2 (wrap64 (1 + t176)) (t184 != 65535) 65535 65535 255 255 4294967295) else (rampartlaw05_DgramEdges.j1 kj9 a0 a2 (wrap64 (1 + t176)) true 65535 65535 255 255 4294967295)) else (rampartlaw05_DgramEdges.j1 kj9 a0 a2 (wrap64 (1 + t176)) true 65535 65535 255 255 4294967295)) = some r := H
     have A22 := Aside0.mk A220
     clear A220
     have HC23 := Aside0.mk H
     clear H
     have hconv8 := fun (s : ByteArray) (w : World) => Lib.run_convert_string_bytes (P := Try.prog) w 9 34 5 s Try.underlying9 Try.underlying34 Try.underlying5
     go_upto_region 12 with (first | ((with_reducible refine gate_dst (N := 64) rfl ?_); refine conv_event ?hg (N := 64) ?hd (s := t178) ?hr ?_; (case hd => rfl); (case hg => rfl); (case hr => first | (go_simp; done) | (go_simp; rfl)); intro g8 hg8 c8 w8 hrow8 hb8; have BB := Aside0.mk hrow8; have BL := Aside0.mk hb8; have GG := Aside0.mk (Nat.le_of_eq hg8.symm); clear hrow8 hg8 hb8; have SB0 := set_bounds A20.out; have hf8_0 : (w8).frozen? ⟨g8, 6, none⟩ = false := row8_frozen BB.out (i := 6) SB0.1 SB0.2; have hc8_0 : (w8).cell? ⟨g8, 6, none⟩ = some (.int .u8 (bt t178 (6))) := row8_cell BB.out (i := 6) SB0.1 SB0.2; have TT0 := set_eq A20.out; have BS0 : Aside0 (Row8 ((w8).setCell ⟨g8, 6, none⟩ (.int .u8 (0))) g8 t182) := ⟨by rw [TT0]; exact row8_set BB.out (i := 6) (v := 0) SB0.1 SB0.2 (by first | decide | exact (bits8_range _ _ _).1) (by first | decide | exact (bits8_range _ _ _).2)⟩; have hz8_0 : t182.size = t178.size := (by rw [TT0, bset_size]); have SB1 := set_bounds A21.out; have hf8_1 : ((w8).setCell ⟨g8, 6, none⟩ (.int .u8 (0))).frozen? ⟨g8, 7, none⟩ = false := row8_frozen BS0.out (i := 7) SB1.1 SB1.2; have hc8_1 : ((w8).setCell ⟨g8, 6, none⟩ (.int .u8 (0))).cell? ⟨g8, 7, none⟩ = some (.int .u8 (bt t182 (7))) := row8_cell BS0.out (i := 7) SB1.1 SB1.2; have TT1 := set_eq A21.out; have BS1 : Aside0 (Row8 (((w8).setCell ⟨g8, 6, none⟩ (.int .u8 (0))).setCell ⟨g8, 7, none⟩ (.int .u8 (0))) g8 t183) := ⟨by rw [TT1]; exact row8_set BS0.out (i := 7) (v := 0) SB1.1 SB1.2 (by first | decide | exact (bits8_range _ _ _).1) (by first | decide | exact (bits8_range _ _ _).2)⟩; have hz8_1 : t183.size = t182.size := (by rw [TT1, bset_size]);  skip) | ((with_reducible refine gate_dst (N := 71) rfl ?_); have hback := fun cap => row8_back (P := Try.prog) BS1.out t178.size cap (by rw [hz8_1, hz8_0]) Try.underlying34 Try.underlying5 Try.underlying9; refine back_event ?hg (N := 71) ?hd (s := t183) ?hr ?_; (case hd => rfl); (case hg => rfl); (case hr => first | (go_simp; done) | (go_simp; rfl)); intro w25 hw8; have hb := (below_set (j := 7) (v := .int .u8 (0)) (below_set (j := 6) (v := .int .u8 (0)) BL.out GG.out) GG.out); rw [← hw8] at hb; clear hw8 hback; have n0_ := Aside0.mk (blk_below (g := gb177) (o := .cells #[.int .i64 65535, .int .i64 65535, .int .i64 255, .int .i64 255, .int .u32 4294967295] 53 (0, 0)) (by (with_reducible repeat (first | refine blk_drewN ?_ _ | refine blk_drew ?_ | refine blk_alloc ?_ _)); exact BK177.out) hb); have n1_ := Aside0.mk (below_step (by repeat (first | (with_reducible first | exact HB.out | apply below_alloc | apply pw_below_drewN | apply below_drew1 | refine below_set ?_ GE177.out) | exact HB.out)) hb); clear BK177; clear HB; have BK177 := n0_; have HB := n1_; clear n0_ n1_; (try clear hb); (try clear hb2); (try clear hk); (try clear hi)) | ((with_reducible refine gate_callee (f := 34) rfl ?_); refine goesL_ (some 72) rfl rfl Try.func34 (by kernel_rfl) rfl #[.int .u32 1, .int .u32 2, .string t183] rfl (by (try simp only [List.map_toArray, List.map_cons, List.map_nil]); first | done | rfl | (simp only [List.length_drop, List.length_take]; rfl)) ?_; (with_reducible refine (dgram_GetUDP.calls kj9 1 2 t183 t184 t185 t186 t187 t188 t189 t190 _ A22.out).mono ?_); rintro e w26 ⟨rfl, hb⟩; refine ⟨_, rfl, ?_⟩; have n0_ := Aside0.mk (blk_below (g := gb177) (o := .cells #[.int .i64 65535, .int .i64 65535, .int .i64 255, .int .i64 255, .int .u32 4294967295] 53 (0, 0)) (by (with_reducible repeat (first | refine blk_drewN ?_ _ | refine blk_drew ?_ | refine blk_alloc ?_ _)); exact BK177.out) hb); have n1_ := Aside0.mk (below_step (by repeat (first | (with_reducible first | exact HB.out | apply below_alloc | apply pw_below_drewN | apply below_drew1 | refine below_set ?_ GE177.out) | exact HB.out)) hb); clear BK177; clear HB; have BK177 := n0_; have HB := n1_; clear n0_ n1_; (try clear hb); (try clear hb2); (try clear hk); (try clear hi)) | ((with_reducible refine gate_dst (N := 14) rfl ?_); (try (refine gate_guard (by rfl) ?_; dsimp only)); refine box_event ?hg (N := 14) ?hd (cs := #[.int .i64 0, .int .i64 0, .int .i64 0, .int .i64 0, .int .u32 0]) (t := 53) ?hr ?_; (case hd => rfl); (case hg => rfl); (case hr => first | (go_simp; done) | (go_simp; rfl)); intro gb191 hg w27 hbox hb; have n0_ := Aside0.mk (blk_below (g := gb177) (o := .cells #[.int .i64 65535, .int .i64 65535, .int .i64 255, .int .i64 255, .int .u32 4294967295] 53 (0, 0)) (by (with_reducible repeat (first | refine blk_drewN ?_ _ | refine blk_drew ?_ | refine blk_alloc ?_ _)); exact BK177.out) hb); have n1_ := Aside0.mk (below_step (by repeat (first | (with_reducible first | exact HB.out | apply below_alloc | apply pw_below_drewN | apply below_drew1 | refine below_set ?_ GE177.out) | exact HB.out)) hb); have n2_ := Aside0.mk (hbox); have n3_ := Aside0.mk ((by rw [hg]; exact (below_size (by repeat (first | (with_reducible first | exact HB.out | apply below_alloc | apply pw_below_drewN | apply below_drew1 | refine below_set ?_ GE177.out) | exact HB.out))) : w.heap.size ≤ gb191)); have n4_ := Aside0.mk ((by rw [hg]; exact (below_size (by repeat (first | (with_reducible first | exact HB.out | apply below_alloc | apply pw_below_drewN | apply below_drew1 | refine below_set ?_ GE177.out) | exact HB.out))) : w.heap.size ≤ gb191)); have n5_ := Aside0.mk ((by rw [hg]; exact Nat.ne_of_lt (blk_lt (g := gb177) (o := .cells #[.int .i64 65535, .int .i64 65535, .int .i64 255, .int .i64 255, .int .u32 4294967295] 53 (0, 0)) (by (with_reducible repeat (first | refine blk_drewN ?_ _ | refine blk_drew ?_ | refine blk_alloc ?_ _)); exact BK177.out)) : gb177 ≠ gb191)); have n6_ := Aside0.mk ((by rw [hg]; exact Nat.ne_of_gt (blk_lt (g := gb177) (o := .cells #[.int .i64 65535, .int .i64 65535, .int .i64 255, .int .i64 255, .int .u32 4294967295] 53 (0, 0)) (by (with_reducible repeat (first | refine blk_drewN ?_ _ | refine blk_drew ?_ | refine blk_alloc ?_ _)); exact BK177.out)) : gb191 ≠ gb177)); clear BK177; clear HB; have BK177 := n0_; have HB := n1_; have BK191 := n2_; have GW191 := n3_; have GE191 := n4_; have NB177_191 := n5_; have NB191_177 := n6_; clear n0_ n1_ n2_ n3_ n4_ n5_ n6_; clear hb hbox hg; have hnb28 := NB191_177.out; have hnc28 := NB177_191.out; have hcz29_0 : w27.cell? ⟨gb191, 0, none⟩ = some (.int .i64 0) := (blk_cell BK191.out 0).trans rfl; have hcz29_1 : w27.cell? ⟨gb191, 1, none⟩ = some (.int .i64 0) := (blk_cell BK191.out 1).trans rfl; have hcz29_2 : w27.cell? ⟨gb191, 2, none⟩ = some (.int .i64 0) := (blk_cell BK191.out 2).trans rfl; have hcz29_3 : w27.cell? ⟨gb191, 3, none⟩ = some (.int .i64 0) := (blk_cell BK191.out 3).trans rfl; have hcz29_4 : w27.cell? ⟨gb191, 4, none⟩ = some (.int .u32 0) := (blk_cell BK191.out 4).trans rfl; have hfz29_0 := blk_frozen BK191.out 0; have hfz29_1 := blk_frozen BK191.out 1; have hfz29_2 := blk_frozen BK191.out 2; have hfz29_3 := blk_frozen BK191.out 3; have hfz29_4 := blk_frozen BK191.out 4))
     (try simp only [Act.put, List.setIfInBounds_toArray, List.set_cons_zero, List.set_cons_succ])
     go_cut [87] (fun v87 wc => ∃ (kq : Nat) (x87_22 : Bool), v87 = .bool x87_22 ∧ Aside0 (rampartlaw05_DgramEdges.j1 kq a0 a2 (wrap64 (1 + t176)) x87_22 65535 65535 255 255 4294967295 = some r) ∧ Aside0 (kq ≤ kj9) ∧ Aside0 (wc.heap[gb177]? = some (.cells #[.int .i64 65535, .int .i64 65535, .int .i64 255, .int .i64 255, .int .u32 4294967295] 53 (0, 0))) ∧ Aside0 (wc.heap[gb191]? = some (.cells #[.int .i64 t184, .int .i64 t185, .int .i64 t186, .int .i64 t187, .int .u32 t188] 53 (0, 0))) ∧ Aside0 (Below w.heap.size w wc))
     case first =>
      have H := HC23.out
      clear HC23
      by_cases c30 : t190 = 0
      ·
       rw [if_pos c30] at H
       have c30b0 : (t190 == 0) = true := beq_iff_eq.mpr c30
       have c30b1 : (t190 != 0) = false := bne_eq_false_iff_eq.mpr c30
       clear c30
       (first | rw [c30b0] | (simp only [i64_w, i32_w]; rw [c30b0]) | skip)
       by_cases c31 : t189.toList = a2.toList
       ·
        rw [if_pos c31] at H
        have c31b0 : (t189.toList == a2.toList) = true := beq_iff_eq.mpr c31
        have c31b1 : (t189.toList != a2.toList) = false := bne_eq_false_iff_eq.mpr c31
        clear c31
        have H' := Aside0.mk H
        clear H
        have hnb32 := NB191_177.out
        have hnc32 := NB177_191.out
        have hcz33_0 : w27.cell? ⟨gb191, 0, none⟩ = some (.int .i64 0) := (blk_cell BK191.out 0).trans rfl
        have hcz33_1 : w27.cell? ⟨gb191, 1, none⟩ = some (.int .i64 0) := (blk_cell BK191.out 1).trans rfl
        have hcz33_2 : w27.cell? ⟨gb191, 2, none⟩ = some (.int .i64 0) := (blk_cell BK191.out 2).trans rfl
        have hcz33_3 : w27.cell? ⟨gb191, 3, none⟩ = some (.int .i64 0) := (blk_cell BK191.out 3).trans rfl
        have hcz33_4 : w27.cell? ⟨gb191, 4, none⟩ = some (.int .u32 0) := (blk_cell BK191.out 4).trans rfl
        have hfz33_0 := blk_frozen BK191.out 0
        have hfz33_1 := blk_frozen BK191.out 1
        have hfz33_2 := blk_frozen BK191.out 2
        have hfz33_3 := blk_frozen BK191.out 3
        have hfz33_4 := blk_frozen BK191.out 4
        go_wp2
        go_meet
        case rel => exact ⟨_, ((t184 != 65535)), (by first | rfl | (simp; done) | (simp [*]; done)), H', ⟨by have := HJ9.out; first | omega | exact Nat.le_refl _⟩, ⟨by (with_reducible repeat (first | refine blk_drewN ?_ _ | refine blk_drew ?_ | refine blk_alloc ?_ _)); refine blk_far ?_ NB177_191.out _; (with_reducible repeat (first | refine blk_drewN ?_ _ | refine blk_drew ?_ | refine blk_alloc ?_ _)); refine blk_far ?_ NB177_191.out _; (with_reducible repeat (first | refine blk_drewN ?_ _ | refine blk_drew ?_ | refine blk_alloc ?_ _)); refine blk_far ?_ NB177_191.out _; (with_reducible repeat (first | refine blk_drewN ?_ _ | refine blk_drew ?_ | refine blk_alloc ?_ _)); refine blk_far ?_ NB177_191.out _; (with_reducible repeat (first | refine blk_drewN ?_ _ | refine blk_drew ?_ | refine blk_alloc ?_ _)); refine blk_far ?_ NB177_191.out _; (with_reducible repeat (first | refine blk_drewN ?_ _ | refine blk_drew ?_ | refine blk_alloc ?_ _)); exact BK177.out⟩, ⟨by (with_reducible repeat (first | refine blk_drewN ?_ _ | refine blk_drew ?_ | refine blk_alloc ?_ _)); refine blk_put (cs := #[.int .i64 t184, .int .i64 t185, .int .i64 t186, .int .i64 t187, .int .u32 0]) ?_ 4 _ rfl; (with_reducible repeat (first | refine blk_drewN ?_ _ | refine blk_drew ?_ | refine blk_alloc ?_ _)); refine blk_put (cs := #[.int .i64 t184, .int .i64 t185, .int .i64 t186, .int .i64 0, .int .u32 0]) ?_ 3 _ rfl; (with_reducible repeat (first | refine blk_drewN ?_ _ | refine blk_drew ?_ | refine blk_alloc ?_ _)); refine blk_put (cs := #[.int .i64 t184, .int .i64 t185, .int .i64 0, .int .i64 0, .int .u32 0]) ?_ 2 _ rfl; (with_reducible repeat (first | refine blk_drewN ?_ _ | refine blk_drew ?_ | refine blk_alloc ?_ _)); refine blk_put (cs := #[.int .i64 t184, .int .i64 0, .int .i64 0, .int .i64 0, .int .u32 0]) ?_ 1 _ rfl; (with_reducible repeat (first | refine blk_drewN ?_ _ | refine blk_drew ?_ | refine blk_alloc ?_ _)); refine blk_put (cs := #[.int .i64 0, .int .i64 0, .int .i64 0, .int .i64 0, .int .u32 0]) ?_ 0 _ rfl; (with_reducible repeat (first | refine blk_drewN ?_ _ | refine blk_drew ?_ | refine blk_alloc ?_ _)); exact BK191.out⟩, ⟨by repeat (first | (with_reducible first | exact HB.out | apply below_alloc | apply pw_below_drewN | apply below_drew1 | refine below_set ?_ GE177.out | refine below_set ?_ GE191.out) | exact HB.out)⟩⟩
       ·
        rw [if_neg c31] at H
        have c31b0 : (t189.toList == a2.toList) = false := beq_eq_false_iff_ne.mpr c31
        have c31b1 : (t189.toList != a2.toList) = true := bne_iff_ne.mpr c31
        have H' := Aside0.mk H
        clear H
        go_wp2
        go_meet
        case rel => exact ⟨_, (true), (by first | rfl | (simp; done) | (simp [*]; done)), H', ⟨by have := HJ9.out; first | omega | exact Nat.le_refl _⟩, ⟨by (with_reducible repeat (first | refine blk_drewN ?_ _ | refine blk_drew ?_ | refine blk_alloc ?_ _)); refine blk_far ?_ NB177_191.out _; (with_reducible repeat (first | refine blk_drewN ?_ _ | refine blk_drew ?_ | refine blk_alloc ?_ _)); refine blk_far ?_ NB177_191.out _; (with_reducible repeat (first | refine blk_drewN ?_ _ | refine blk_drew ?_ | refine blk_alloc ?_ _)); refine blk_far ?_ NB177_191.out _; (with_reducible repeat (first | refine blk_drewN ?_ _ | refine blk_drew ?_ | refine blk_alloc ?_ _)); refine blk_far ?_ NB177_191.out _; (with_reducible repeat (first | refine blk_drewN ?_ _ | refine blk_drew ?_ | refine blk_alloc ?_ _)); refine blk_far ?_ NB177_191.out _; (with_reducible repeat (first | refine blk_drewN ?_ _ | refine blk_drew ?_ | refine blk_alloc ?_ _)); exact BK177.out⟩, ⟨by (with_reducible repeat (first | refine blk_drewN ?_ _ | refine blk_drew ?_ | refine blk_alloc ?_ _)); refine blk_put (cs := #[.int .i64 t184, .int .i64 t185, .int .i64 t186, .int .i64 t187, .int .u32 0]) ?_ 4 _ rfl; (with_reducible repeat (first | refine blk_drewN ?_ _ | refine blk_drew ?_ | refine blk_alloc ?_ _)); refine blk_put (cs := #[.int .i64 t184, .int .i64 t185, .int .i64 t186, .int .i64 0, .int .u32 0]) ?_ 3 _ rfl; (with_reducible repeat (first | refine blk_drewN ?_ _ | refine blk_drew ?_ | refine blk_alloc ?_ _)); refine blk_put (cs := #[.int .i64 t184, .int .i64 t185, .int .i64 0, .int .i64 0, .int .u32 0]) ?_ 2 _ rfl; (with_reducible repeat (first | refine blk_drewN ?_ _ | refine blk_drew ?_ | refine blk_alloc ?_ _)); refine blk_put (cs := #[.int .i64 t184, .int .i64 0, .int .i64 0, .int .i64 0, .int .u32 0]) ?_ 1 _ rfl; (with_reducible repeat (first | refine blk_drewN ?_ _ | refine blk_drew ?_ | refine blk_alloc ?_ _)); refine blk_put (cs := #[.int .i64 0, .int .i64 0, .int .i64 0, .int .i64 0, .int .u32 0]) ?_ 0 _ rfl; (with_reducible repeat (first | refine blk_drewN ?_ _ | refine blk_drew ?_ | refine blk_alloc ?_ _)); exact BK191.out⟩, ⟨by repeat (first | (with_reducible first | exact HB.out | apply below_alloc | apply pw_below_drewN | apply below_drew1 | refine below_set ?_ GE177.out | refine below_set ?_ GE191.out) | exact HB.out)⟩⟩
      ·
       rw [if_neg c30] at H
       have c30b0 : (t190 == 0) = false := beq_eq_false_iff_ne.mpr c30
       have c30b1 : (t190 != 0) = true := bne_iff_ne.mpr c30
       (first | rw [c30b0] | (simp only [i64_w, i32_w]; rw [c30b0]) | skip)
       have H' := Aside0.mk H
       clear H
       go_wp2
       go_meet
       case rel => exact ⟨_, (true), (by first | rfl | (simp; done) | (simp [*]; done)), H', ⟨by have := HJ9.out; first | omega | exact Nat.le_refl _⟩, ⟨by (with_reducible repeat (first | refine blk_drewN ?_ _ | refine blk_drew ?_ | refine blk_alloc ?_ _)); refine blk_far ?_ NB177_191.out _; (with_reducible repeat (first | refine blk_drewN ?_ _ | refine blk_drew ?_ | refine blk_alloc ?_ _)); refine blk_far ?_ NB177_191.out _; (with_reducible repeat (first | refine blk_drewN ?_ _ | refine blk_drew ?_ | refine blk_alloc ?_ _)); refine blk_far ?_ NB177_191.out _; (with_reducible repeat (first | refine blk_drewN ?_ _ | refine blk_drew ?_ | refine blk_alloc ?_ _)); refine blk_far ?_ NB177_191.out _; (with_reducible repeat (first | refine blk_drewN ?_ _ | refine blk_drew ?_ | refine blk_alloc ?_ _)); refine blk_far ?_ NB177_191.out _; (with_reducible repeat (first | refine blk_drewN ?_ _ | refine blk_drew ?_ | refine blk_alloc ?_ _)); exact BK177.out⟩, ⟨by (with_reducible repeat (first | refine blk_drewN ?_ _ | refine blk_drew ?_ | refine blk_alloc ?_ _)); refine blk_put (cs := #[.int .i64 t184, .int .i64 t185, .int .i64 t186, .int .i64 t187, .int .u32 0]) ?_ 4 _ rfl; (with_reducible repeat (first | refine blk_drewN ?_ _ | refine blk_drew ?_ | refine blk_alloc ?_ _)); refine blk_put (cs := #[.int .i64 t184, .int .i64 t185, .int .i64 t186, .int .i64 0, .int .u32 0]) ?_ 3 _ rfl; (with_reducible repeat (first | refine blk_drewN ?_ _ | refine blk_drew ?_ | refine blk_alloc ?_ _)); refine blk_put (cs := #[.int .i64 t184, .int .i64 t185, .int .i64 0, .int .i64 0, .int .u32 0]) ?_ 2 _ rfl; (with_reducible repeat (first | refine blk_drewN ?_ _ | refine blk_drew ?_ | refine blk_alloc ?_ _)); refine blk_put (cs := #[.int .i64 t184, .int .i64 0, .int .i64 0, .int .i64 0, .int .u32 0]) ?_ 1 _ rfl; (with_reducible repeat (first | refine blk_drewN ?_ _ | refine blk_drew ?_ | refine blk_alloc ?_ _)); refine blk_put (cs := #[.int .i64 0, .int .i64 0, .int .i64 0, .int .i64 0, .int .u32 0]) ?_ 0 _ rfl; (with_reducible repeat (first | refine blk_drewN ?_ _ | refine blk_drew ?_ | refine blk_alloc ?_ _)); exact BK191.out⟩, ⟨by repeat (first | (with_reducible first | exact HB.out | apply below_alloc | apply pw_below_drewN | apply below_drew1 | refine below_set ?_ GE177.out | refine below_set ?_ GE191.out) | exact HB.out)⟩⟩
     case rest =>
      clear HC23
      try clear c1
      try clear c2
      try clear p2
      try clear c3
      try clear c4
      try clear c4b0
      try clear c4b1
      try clear p6
      try clear c14
      try clear c16
      try clear c16b0
      try clear c16b1
      try clear c17
      try clear c17b0
      try clear c17b1
      try clear c18
      try clear c18b0
      try clear c18b1
      try clear c18b2
      try clear c19
      try clear c23
      try clear c28
      try clear c30
      try clear c30b0
      try clear c30b1
      try clear c31
      try clear c31b0
      try clear c31b1
      try clear c32
      try clear c33
      try clear hcz12_0
      try clear hcz12_1
      try clear hcz12_2
      try clear hcz12_3
      try clear hcz12_4
      try clear hcz14_0
      try clear hcz14_1
      try clear hcz14_2
      try clear hcz14_3
      try clear hcz14_4
      try clear hcz29_0
      try clear hcz29_1
      try clear hcz29_2
      try clear hcz29_3
      try clear hcz29_4
      try clear hcz33_0
      try clear hcz33_1
      try clear hcz33_2
      try clear hcz33_3
      try clear hcz33_4
      try clear hfz12_0
      try clear hfz12_1
      try clear hfz12_2
      try clear hfz12_3
      try clear hfz12_4
      try clear hfz14_0
      try clear hfz14_1
      try clear hfz14_2
      try clear hfz14_3
      try clear hfz14_4
      try clear hfz29_0
      try clear hfz29_1
      try clear hfz29_2
      try clear hfz29_3
      try clear hfz29_4
      try clear hfz33_0
      try clear hfz33_1
      try clear hfz33_2
      try clear hfz33_3
      try clear hfz33_4
      try clear p2
      try clear p6
      obtain ⟨kq, x87_22, rfl, HA, HJ22, BK177, BK191, HB⟩ := hcut
      cases kq with
      | zero => exact absurd HA.out (by simp [rampartlaw05_DgramEdges.j1])
      | succ kj22 =>
       have H := HA.out
       clear HA
       simp only [rampartlaw05_DgramEdges.j1] at H
       by_cases c34 : x87_22 = true
       ·
        subst c34
        have H1 : (some false) = some r := by rw [if_pos rfl] at H; exact H
        clear H
        have H := H1
        clear H1
        exact absurd ((Option.some.inj H).trans HR.out) (by decide)
       ·
        replace c34 := Bool.eq_false_iff.mpr c34
        subst c34
        have H1 : ((rampartlaw00_Place.f a0 4).bind fun t192 => (if t192 = 0 then (rampartlaw05_DgramEdges.j2 kj22 a2 (wrap64 (1 + t176)) (wrap64 (65535 + (wrap64 (1 + t176)))) 65535 (wrap64 (255 + (wrap64 (1 + t176)))) 255 4294967295) else (if t192 = 1 then (rampartlaw05_DgramEdges.j2 kj22 a2 (wrap64 (1 + t176)) 65535 (wrap64 (-(wrap64 (1 + t176)))) 255 (wrap64 (-(wrap64 (1 + t176)))) 4294967295) else (if t192 = 2 then (rampartlaw05_DgramEdges.j2 kj22 a2 (wrap64 (1 + t176)) (wrap64 (-(wrap64 (1 + t176)))) 65535 255 (wrap64 (255 + (wrap64 (1 + t176)))) 4294967295) else (rampartlaw05_DgramEdges.j2 kj22 a2 (wrap64 (1 + t176)) 65535 (wrap64 (65535 + (wrap64 (1 + t176)))) (wrap64 (-(wrap64 (1 + t176)))) 255 4294967295))))) = some r := by rw [if_neg (show ¬ (false = true) by decide)] at H; exact H
        clear H
        have H := H1
        clear H1
        replace H := Option.bind_eq_some_iff.mp H
        obtain ⟨t192, A350, H⟩ := H
        replace H : (if t192 = 0 then (rampartlaw05_DgramEdges.j2 kj22 a2 (wrap64 (1 + t176)) (wrap64 (65535 + (wrap64 (1 + t176)))) 65535 (wrap64 (255 + (wrap64 (1 + t176)))) 255 4294967295) else (if t192 = 1 then (rampartlaw05_DgramEdges.j2 kj22 a2 (wrap64 (1 + t176)) 65535 (wrap64 (-(wrap64 (1 + t176)))) 255 (wrap64 (-(wrap64 (1 + t176)))) 4294967295) else (if t192 = 2 then (rampartlaw05_DgramEdges.j2 kj22 a2 (wrap64 (1 + t176)) (wrap64 (-(wrap64 (1 + t176)))) 65535 255 (wrap64 (255 + (wrap64 (1 + t176)))) 4294967295) else (rampartlaw05_DgramEdges.j2 kj22 a2 (wrap64 (1 + t176)) 65535 (wrap64 (65535 + (wrap64 (1 + t176)))) (wrap64 (-(wrap64 (1 + t176)))) 255 4294967295)))) = some r := H
        have A35 := Aside0.mk A350
        clear A350
        have HC36 := Aside0.mk H
        clear H
        go_upto_block 0 with (first | ((with_reducible refine gate_callee (f := 23) rfl ?_); refine goesL_ (some 89) rfl rfl Try.func23 (by kernel_rfl) rfl #[.int .i64 a0, .int .i64 4] rfl (by (try simp only [List.map_toArray, List.map_cons, List.map_nil]); first | done | rfl | (simp only [List.length_drop, List.length_take]; rfl)) ?_; (with_reducible refine (rampartlaw00_Place.calls a0 4 t192 _ A35.out).mono ?_); rintro e w' ⟨rfl, ⟨nd, rfl⟩⟩; refine ⟨_, rfl, ?_⟩))
        (try simp only [Act.put, List.setIfInBounds_toArray, List.set_cons_zero, List.set_cons_succ])
        go_cut [] (fun wc => ∃ (kq : Nat) (x178000_35 : Int) (x178001_35 : Int) (x178002_35 : Int) (x178003_35 : Int), Aside0 (rampartlaw05_DgramEdges.j2 kq a2 (wrap64 (1 + t176)) x178000_35 x178001_35 x178002_35 x178003_35 4294967295 = some r) ∧ Aside0 (kq ≤ kj22) ∧ Aside0 (wc.heap[gb177]? = some (.cells #[.int .i64 x178000_35, .int .i64 x178001_35, .int .i64 x178002_35, .int .i64 x178003_35, .int .u32 4294967295] 53 (0, 0))) ∧ Aside0 (wc.heap[gb191]? = some (.cells #[.int .i64 t184, .int .i64 t185, .int .i64 t186, .int .i64 t187, .int .u32 t188] 53 (0, 0))) ∧ Aside0 (Below w.heap.size w wc))
        case first =>
         have H := HC36.out
         clear HC36
         by_cases c37 : t192 = 0
         ·
          rw [if_pos c37] at H
          have c37b0 : (t192 == 0) = true := beq_iff_eq.mpr c37
          have c37b1 : (t192 != 0) = false := bne_eq_false_iff_eq.mpr c37
          clear c37
          (first | rw [c37b0] | (simp only [i64_w, i32_w]; rw [c37b0]) | skip)
          have H' := Aside0.mk H
          clear H
          have hnb38 := NB177_191.out
          have hnc38 := NB191_177.out
          have hcz39_0 : wc.cell? ⟨gb177, 0, none⟩ = some (.int .i64 65535) := (blk_cell BK177.out 0).trans rfl
          have hcz39_1 : wc.cell? ⟨gb177, 1, none⟩ = some (.int .i64 65535) := (blk_cell BK177.out 1).trans rfl
          have hcz39_2 : wc.cell? ⟨gb177, 2, none⟩ = some (.int .i64 255) := (blk_cell BK177.out 2).trans rfl
          have hcz39_3 : wc.cell? ⟨gb177, 3, none⟩ = some (.int .i64 255) := (blk_cell BK177.out 3).trans rfl
          have hcz39_4 : wc.cell? ⟨gb177, 4, none⟩ = some (.int .u32 4294967295) := (blk_cell BK177.out 4).trans rfl
          have hfz39_0 := blk_frozen BK177.out 0
          have hfz39_1 := blk_frozen BK177.out 1
          have hfz39_2 := blk_frozen BK177.out 2
          have hfz39_3 := blk_frozen BK177.out 3
          have hfz39_4 := blk_frozen BK177.out 4
          go_wp2
          go_meet
          case rel => exact ⟨_, (wrap64 (65535 + (wrap64 (1 + t176)))), (65535), (wrap64 (255 + (wrap64 (1 + t176)))), (255), H', ⟨by have := HJ9.out; have := HJ22.out; first | omega | exact Nat.le_refl _⟩, ⟨by (with_reducible repeat (first | refine blk_drewN ?_ _ | refine blk_drew ?_ | refine blk_alloc ?_ _)); refine blk_put (cs := #[.int .i64 (wrap64 (65535 + (wrap64 (1 + t176)))), .int .i64 65535, .int .i64 255, .int .i64 255, .int .u32 4294967295]) ?_ 2 _ rfl; (with_reducible repeat (first | refine blk_drewN ?_ _ | refine blk_drew ?_ | refine blk_alloc ?_ _)); refine blk_put (cs := #[.int .i64 65535, .int .i64 65535, .int .i64 255, .int .i64 255, .int .u32 4294967295]) ?_ 0 _ rfl; (with_reducible repeat (first | refine blk_drewN ?_ _ | refine blk_drew ?_ | refine blk_alloc ?_ _)); exact BK177.out⟩, ⟨by (with_reducible repeat (first | refine blk_drewN ?_ _ | refine blk_drew ?_ | refine blk_alloc ?_ _)); refine blk_far ?_ NB191_177.out _; (with_reducible repeat (first | refine blk_drewN ?_ _ | refine blk_drew ?_ | refine blk_alloc ?_ _)); refine blk_far ?_ NB191_177.out _; (with_reducible repeat (first | refine blk_drewN ?_ _ | refine blk_drew ?_ | refine blk_alloc ?_ _)); exact BK191.out⟩, ⟨by repeat (first | (with_reducible first | exact HB.out | apply below_alloc | apply pw_below_drewN | apply below_drew1 | refine below_set ?_ GE177.out | refine below_set ?_ GE191.out) | exact HB.out)⟩⟩
         ·
          rw [if_neg c37] at H
          have c37b0 : (t192 == 0) = false := beq_eq_false_iff_ne.mpr c37
          have c37b1 : (t192 != 0) = true := bne_iff_ne.mpr c37
          (first | rw [c37b0] | (simp only [i64_w, i32_w]; rw [c37b0]) | skip)
          by_cases c40 : t192 = 1
          ·
           rw [if_pos c40] at H
           have c40b0 : (t192 == 1) = true := beq_iff_eq.mpr c40
           have c40b1 : (t192 != 1) = false := bne_eq_false_iff_eq.mpr c40
           clear c40
           have H' := Aside0.mk H
           clear H
           have hnb41 := NB177_191.out
           have hnc41 := NB191_177.out
           have hcz42_0 : wc.cell? ⟨gb177, 0, none⟩ = some (.int .i64 65535) := (blk_cell BK177.out 0).trans rfl
           have hcz42_1 : wc.cell? ⟨gb177, 1, none⟩ = some (.int .i64 65535) := (blk_cell BK177.out 1).trans rfl
           have hcz42_2 : wc.cell? ⟨gb177, 2, none⟩ = some (.int .i64 255) := (blk_cell BK177.out 2).trans rfl
           have hcz42_3 : wc.cell? ⟨gb177, 3, none⟩ = some (.int .i64 255) := (blk_cell BK177.out 3).trans rfl
           have hcz42_4 : wc.cell? ⟨gb177, 4, none⟩ = some (.int .u32 4294967295) := (blk_cell BK177.out 4).trans rfl
           have hfz42_0 := blk_frozen BK177.out 0
           have hfz42_1 := blk_frozen BK177.out 1
           have hfz42_2 := blk_frozen BK177.out 2
           have hfz42_3 := blk_frozen BK177.out 3
           have hfz42_4 := blk_frozen BK177.out 4
           go_wp2
           go_meet
           case rel => exact ⟨_, (65535), (wrap64 (-(wrap64 (1 + t176)))), (255), (wrap64 (-(wrap64 (1 + t176)))), H', ⟨by have := HJ9.out; have := HJ22.out; first | omega | exact Nat.le_refl _⟩, ⟨by (with_reducible repeat (first | refine blk_drewN ?_ _ | refine blk_drew ?_ | refine blk_alloc ?_ _)); refine blk_put (cs := #[.int .i64 65535, .int .i64 (wrap64 (-(wrap64 (1 + t176)))), .int .i64 255, .int .i64 255, .int .u32 4294967295]) ?_ 3 _ rfl; (with_reducible repeat (first | refine blk_drewN ?_ _ | refine blk_drew ?_ | refine blk_alloc ?_ _)); refine blk_put (cs := #[.int .i64 65535, .int .i64 65535, .int .i64 255, .int .i64 255, .int .u32 4294967295]) ?_ 1 _ rfl; (with_reducible repeat (first | refine blk_drewN ?_ _ | refine blk_drew ?_ | refine blk_alloc ?_ _)); exact BK177.out⟩, ⟨by (with_reducible repeat (first | refine blk_drewN ?_ _ | refine blk_drew ?_ | refine blk_alloc ?_ _)); refine blk_far ?_ NB191_177.out _; (with_reducible repeat (first | refine blk_drewN ?_ _ | refine blk_drew ?_ | refine blk_alloc ?_ _)); refine blk_far ?_ NB191_177.out _; (with_reducible repeat (first | refine blk_drewN ?_ _ | refine blk_drew ?_ | refine blk_alloc ?_ _)); exact BK191.out⟩, ⟨by repeat (first | (with_reducible first | exact HB.out | apply below_alloc | apply pw_below_drewN | apply below_drew1 | refine below_set ?_ GE177.out | refine below_set ?_ GE191.out) | exact HB.out)⟩⟩
          ·
           rw [if_neg c40] at H
           have c40b0 : (t192 == 1) = false := beq_eq_false_iff_ne.mpr c40
           have c40b1 : (t192 != 1) = true := bne_iff_ne.mpr c40
           by_cases c43 : t192 = 2
           ·
            rw [if_pos c43] at H
            have c43b0 : (t192 == 2) = true := beq_iff_eq.mpr c43
            have c43b1 : (t192 != 2) = false := bne_eq_false_iff_eq.mpr c43
            clear c43
            have H' := Aside0.mk H
            clear H
            have hnb44 := NB177_191.out
            have hnc44 := NB191_177.out
            have hcz45_0 : wc.cell? ⟨gb177, 0, none⟩ = some (.int .i64 65535) := (blk_cell BK177.out 0).trans rfl
            have hcz45_1 : wc.cell? ⟨gb177, 1, none⟩ = some (.int .i64 65535) := (blk_cell BK177.out 1).trans rfl
            have hcz45_2 : wc.cell? ⟨gb177, 2, none⟩ = some (.int .i64 255) := (blk_cell BK177.out 2).trans rfl
            have hcz45_3 : wc.cell? ⟨gb177, 3, none⟩ = some (.int .i64 255) := (blk_cell BK177.out 3).trans rfl
            have hcz45_4 : wc.cell? ⟨gb177, 4, none⟩ = some (.int .u32 4294967295) := (blk_cell BK177.out 4).trans rfl
            have hfz45_0 := blk_frozen BK177.out 0
            have hfz45_1 := blk_frozen BK177.out 1
            have hfz45_2 := blk_frozen BK177.out 2
            have hfz45_3 := blk_frozen BK177.out 3
            have hfz45_4 := blk_frozen BK177.out 4
            go_wp2
            go_meet
            case rel => exact ⟨_, (wrap64 (-(wrap64 (1 + t176)))), (65535), (255), (wrap64 (255 + (wrap64 (1 + t176)))), H', ⟨by have := HJ9.out; have := HJ22.out; first | omega | exact Nat.le_refl _⟩, ⟨by (with_reducible repeat (first | refine blk_drewN ?_ _ | refine blk_drew ?_ | refine blk_alloc ?_ _)); refine blk_put (cs := #[.int .i64 (wrap64 (-(wrap64 (1 + t176)))), .int .i64 65535, .int .i64 255, .int .i64 255, .int .u32 4294967295]) ?_ 3 _ rfl; (with_reducible repeat (first | refine blk_drewN ?_ _ | refine blk_drew ?_ | refine blk_alloc ?_ _)); refine blk_put (cs := #[.int .i64 65535, .int .i64 65535, .int .i64 255, .int .i64 255, .int .u32 4294967295]) ?_ 0 _ rfl; (with_reducible repeat (first | refine blk_drewN ?_ _ | refine blk_drew ?_ | refine blk_alloc ?_ _)); exact BK177.out⟩, ⟨by (with_reducible repeat (first | refine blk_drewN ?_ _ | refine blk_drew ?_ | refine blk_alloc ?_ _)); refine blk_far ?_ NB191_177.out _; (with_reducible repeat (first | refine blk_drewN ?_ _ | refine blk_drew ?_ | refine blk_alloc ?_ _)); refine blk_far ?_ NB191_177.out _; (with_reducible repeat (first | refine blk_drewN ?_ _ | refine blk_drew ?_ | refine blk_alloc ?_ _)); exact BK191.out⟩, ⟨by repeat (first | (with_reducible first | exact HB.out | apply below_alloc | apply pw_below_drewN | apply below_drew1 | refine below_set ?_ GE177.out | refine below_set ?_ GE191.out) | exact HB.out)⟩⟩
           ·
            rw [if_neg c43] at H
            have c43b0 : (t192 == 2) = false := beq_eq_false_iff_ne.mpr c43
            have c43b1 : (t192 != 2) = true := bne_iff_ne.mpr c43
            have H' := Aside0.mk H
            clear H
            have hnb46 := NB177_191.out
            have hnc46 := NB191_177.out
            have hcz47_0 : wc.cell? ⟨gb177, 0, none⟩ = some (.int .i64 65535) := (blk_cell BK177.out 0).trans rfl
            have hcz47_1 : wc.cell? ⟨gb177, 1, none⟩ = some (.int .i64 65535) := (blk_cell BK177.out 1).trans rfl
            have hcz47_2 : wc.cell? ⟨gb177, 2, none⟩ = some (.int .i64 255) := (blk_cell BK177.out 2).trans rfl
            have hcz47_3 : wc.cell? ⟨gb177, 3, none⟩ = some (.int .i64 255) := (blk_cell BK177.out 3).trans rfl
            have hcz47_4 : wc.cell? ⟨gb177, 4, none⟩ = some (.int .u32 4294967295) := (blk_cell BK177.out 4).trans rfl
            have hfz47_0 := blk_frozen BK177.out 0
            have hfz47_1 := blk_frozen BK177.out 1
            have hfz47_2 := blk_frozen BK177.out 2
            have hfz47_3 := blk_frozen BK177.out 3
            have hfz47_4 := blk_frozen BK177.out 4
            go_wp2
            go_meet
            case rel => exact ⟨_, (65535), (wrap64 (65535 + (wrap64 (1 + t176)))), (wrap64 (-(wrap64 (1 + t176)))), (255), H', ⟨by have := HJ9.out; have := HJ22.out; first | omega | exact Nat.le_refl _⟩, ⟨by (with_reducible repeat (first | refine blk_drewN ?_ _ | refine blk_drew ?_ | refine blk_alloc ?_ _)); refine blk_put (cs := #[.int .i64 65535, .int .i64 (wrap64 (65535 + (wrap64 (1 + t176)))), .int .i64 255, .int .i64 255, .int .u32 4294967295]) ?_ 2 _ rfl; (with_reducible repeat (first | refine blk_drewN ?_ _ | refine blk_drew ?_ | refine blk_alloc ?_ _)); refine blk_put (cs := #[.int .i64 65535, .int .i64 65535, .int .i64 255, .int .i64 255, .int .u32 4294967295]) ?_ 1 _ rfl; (with_reducible repeat (first | refine blk_drewN ?_ _ | refine blk_drew ?_ | refine blk_alloc ?_ _)); exact BK177.out⟩, ⟨by (with_reducible repeat (first | refine blk_drewN ?_ _ | refine blk_drew ?_ | refine blk_alloc ?_ _)); refine blk_far ?_ NB191_177.out _; (with_reducible repeat (first | refine blk_drewN ?_ _ | refine blk_drew ?_ | refine blk_alloc ?_ _)); refine blk_far ?_ NB191_177.out _; (with_reducible repeat (first | refine blk_drewN ?_ _ | refine blk_drew ?_ | refine blk_alloc ?_ _)); exact BK191.out⟩, ⟨by repeat (first | (with_reducible first | exact HB.out | apply below_alloc | apply pw_below_drewN | apply below_drew1 | refine below_set ?_ GE177.out | refine below_set ?_ GE191.out) | exact HB.out)⟩⟩
        case rest =>
         clear HC36
         try clear c1
         try clear c2
         try clear p2
         try clear c3
         try clear c4
         try clear c4b0
         try clear c4b1
         try clear p6
         try clear c14
         try clear c16
         try clear c16b0
         try clear c16b1
         try clear c17
         try clear c17b0
         try clear c17b1
         try clear c18
         try clear c18b0
         try clear c18b1
         try clear c18b2
         try clear c19
         try clear c23
         try clear c28
         try clear c30
         try clear c30b0
         try clear c30b1
         try clear c31
         try clear c31b0
         try clear c31b1
         try clear c32
         try clear c33
         try clear c34
         try clear c36
         try clear c37
         try clear c37b0
         try clear c37b1
         try clear c38
         try clear c40
         try clear c40b0
         try clear c40b1
         try clear c41
         try clear c43
         try clear c43b0
         try clear c43b1
         try clear c44
         try clear c46
         try clear hcz12_0
         try clear hcz12_1
         try clear hcz12_2
         try clear hcz12_3
         try clear hcz12_4
         try clear hcz14_0
         try clear hcz14_1
         try clear hcz14_2
         try clear hcz14_3
         try clear hcz14_4
         try clear hcz29_0
         try clear hcz29_1
         try clear hcz29_2
         try clear hcz29_3
         try clear hcz29_4
         try clear hcz33_0
         try clear hcz33_1
         try clear hcz33_2
         try clear hcz33_3
         try clear hcz33_4
         try clear hcz39_0
         try clear hcz39_1
         try clear hcz39_2
         try clear hcz39_3
         try clear hcz39_4
         try clear hcz42_0
         try clear hcz42_1
         try clear hcz42_2
         try clear hcz42_3
         try clear hcz42_4
         try clear hcz45_0
         try clear hcz45_1
         try clear hcz45_2
         try clear hcz45_3
         try clear hcz45_4
         try clear hcz47_0
         try clear hcz47_1
         try clear hcz47_2
         try clear hcz47_3
         try clear hcz47_4
         try clear hfz12_0
         try clear hfz12_1
         try clear hfz12_2
         try clear hfz12_3
         try clear hfz12_4
         try clear hfz14_0
         try clear hfz14_1
         try clear hfz14_2
         try clear hfz14_3
         try clear hfz14_4
         try clear hfz29_0
         try clear hfz29_1
         try clear hfz29_2
         try clear hfz29_3
         try clear hfz29_4
         try clear hfz33_0
         try clear hfz33_1
         try clear hfz33_2
         try clear hfz33_3
         try clear hfz33_4
         try clear hfz39_0
         try clear hfz39_1
         try clear hfz39_2
         try clear hfz39_3
         try clear hfz39_4
         try clear hfz42_0
         try clear hfz42_1
         try clear hfz42_2
         try clear hfz42_3
         try clear hfz42_4
         try clear hfz45_0
         try clear hfz45_1
         try clear hfz45_2
         try clear hfz45_3
         try clear hfz45_4
         try clear hfz47_0
         try clear hfz47_1
         try clear hfz47_2
         try clear hfz47_3
         try clear hfz47_4
         try clear p2
         try clear p6
         obtain ⟨kq, x178000_35, x178001_35, x178002_35, x178003_35, HA, HJ35, BK177, BK191, HB⟩ := hcut
         cases kq with
         | zero => exact absurd HA.out (by simp [rampartlaw05_DgramEdges.j2])
         | succ kj35 =>
          have H := HA.out
          clear HA
          simp only [rampartlaw05_DgramEdges.j2] at H
          replace H := Option.bind_eq_some_iff.mp H
          obtain ⟨⟨t193, t194⟩, A480, H⟩ := H
          replace H : ((dgram_PutICMP.f kj35 x178000_35 x178001_35 x178002_35 x178003_35 4294967295 a2).bind fun bt195 => (if 0 ≤ (wrap64 (1992 + (wrap64 (1 + t176)))) then (if (wrap64 (1992 + (wrap64 (1 + t176))) : Int).toNat ≤ 281474976710656 then ((dgram_PutUDP.f kj35 1 2 0 0 0 0 0 (strOfNums (List.replicate (wrap64 (1992 + (wrap64 (1 + t176))) : Int).toNat 0))).bind fun bt200 => ((dgram_PutICMP.f kj35 0 0 0 0 0 (strOfNums (List.replicate (wrap64 (1992 + (wrap64 (1 + t176))) : Int).toNat 0))).bind fun bt205 => (if t194 = 1 then (if bt195.2 = 1 then (if bt200.2 = 5 then (if bt205.2 = 5 then ((rampartlaw05_awake.f kj35).bind fun t207 => (some t207)) else (some false)) else (some false)) else (some false)) else (some false)))) else (none)) else (none))) = some r := H
          have A48 := Aside0.mk A480
          clear A480
          replace H := Option.bind_eq_some_iff.mp H
          obtain ⟨⟨t195, t196⟩, A490, H⟩ := H
          replace H : (if 0 ≤ (wrap64 (1992 + (wrap64 (1 + t176)))) then (if (wrap64 (1992 + (wrap64 (1 + t176))) : Int).toNat ≤ 281474976710656 then ((dgram_PutUDP.f kj35 1 2 0 0 0 0 0 (strOfNums (List.replicate (wrap64 (1992 + (wrap64 (1 + t176))) : Int).toNat 0))).bind fun bt200 => ((dgram_PutICMP.f kj35 0 0 0 0 0 (strOfNums (List.replicate (wrap64 (1992 + (wrap64 (1 + t176))) : Int).toNat 0))).bind fun bt205 => (if t194 = 1 then (if t196 = 1 then (if bt200.2 = 5 then (if bt205.2 = 5 then ((rampartlaw05_awake.f kj35).bind fun t207 => (some t207)) else (some false)) else (some false)) else (some false)) else (some false)))) else (none)) else (none)) = some r := H
          have A49 := Aside0.mk A490
          clear A490
          obtain ⟨ji50, hji50⟩ : ∃ j_ : Int, (wrap64 (1992 + (wrap64 (1 + t176)))) = j_ := ⟨_, rfl⟩
          replace H : (if 0 ≤ (ji50) then (if (ji50 : Int).toNat ≤ 281474976710656 then ((dgram_PutUDP.f kj35 1 2 0 0 0 0 0 (strOfNums (List.replicate (ji50 : Int).toNat 0))).bind fun bt200 => ((dgram_PutICMP.f kj35 0 0 0 0 0 (strOfNums (List.replicate (ji50 : Int).toNat 0))).bind fun bt205 => (if t194 = 1 then (if t196 = 1 then (if bt200.2 = 5 then (if bt205.2 = 5 then ((rampartlaw05_awake.f kj35).bind fun t207 => (some t207)) else (some false)) else (some false)) else (some false)) else (some false)))) else (none)) else (none)) = some r := by first | (rw [hji50] at H; exact H) | (simp only [hji50] at H ⊢; exact H)
          (try rw [hji50] at A48)
          (try rw [hji50] at A49)
          have hji50w : (IntKind.i64.wrap (1992 + (wrap64 (1 + t176)))) = ji50 := (i64_w _).trans hji50
          by_cases c51 : 0 ≤ (ji50)
          ·
           rw [if_pos c51] at H
           have c51b0 := eq_true c51
           have c51b1 : decide (0 ≤ (ji50)) = true := decide_eq_true c51
           clear c51
           by_cases c52 : (ji50 : Int).toNat ≤ 281474976710656
           ·
            rw [if_pos c52] at H
            have c52b0 := eq_true c52
            have c52b1 : decide ((ji50 : Int).toNat ≤ 281474976710656) = true := decide_eq_true c52
            clear c52
            obtain ⟨y197, hy197⟩ : ∃ y_ : List Int, y_ = (List.replicate (ji50 : Int).toNat 0) := ⟨_, rfl⟩
            replace H : ((dgram_PutUDP.f kj35 1 2 0 0 0 0 0 (strOfNums y197)).bind fun bt200 => ((dgram_PutICMP.f kj35 0 0 0 0 0 (strOfNums (List.replicate (ji50 : Int).toNat 0))).bind fun bt205 => (if t194 = 1 then (if t196 = 1 then (if bt200.2 = 5 then (if bt205.2 = 5 then ((rampartlaw05_awake.f kj35).bind fun t207 => (some t207)) else (some false)) else (some false)) else (some false)) else (some false)))) = some r := by first | (rw [hy197]; with_reducible exact H) | (have H2_ := (Option.bind_some _ _).symm.trans H; rw [hy197]; with_reducible exact H2_) | (have H2_ := (Option.bind_some _ _).symm.trans H; with_reducible exact H2_) | with_reducible exact H | (rw [hy197]; exact H) | exact H
            have Ny197 := Aside0.mk hy197
            clear hy197
            replace H := Option.bind_eq_some_iff.mp H
            obtain ⟨⟨t200, t201⟩, A530, H⟩ := H
            replace H : ((dgram_PutICMP.f kj35 0 0 0 0 0 (strOfNums (List.replicate (ji50 : Int).toNat 0))).bind fun bt205 => (if t194 = 1 then (if t196 = 1 then (if t201 = 5 then (if bt205.2 = 5 then ((rampartlaw05_awake.f kj35).bind fun t207 => (some t207)) else (some false)) else (some false)) else (some false)) else (some false))) = some r := H
            have A53 := Aside0.mk A530
            clear A530
            obtain ⟨y202, hy202⟩ : ∃ y_ : List Int, y_ = (List.replicate (ji50 : Int).toNat 0) := ⟨_, rfl⟩
            replace H : ((dgram_PutICMP.f kj35 0 0 0 0 0 (strOfNums y202)).bind fun bt205 => (if t194 = 1 then (if t196 = 1 then (if t201 = 5 then (if bt205.2 = 5 then ((rampartlaw05_awake.f kj35).bind fun t207 => (some t207)) else (some false)) else (some false)) else (some false)) else (some false))) = some r := by first | (rw [hy202]; with_reducible exact H) | (have H2_ := (Option.bind_some _ _).symm.trans H; rw [hy202]; with_reducible exact H2_) | (have H2_ := (Option.bind_some _ _).symm.trans H; with_reducible exact H2_) | with_reducible exact H | (rw [hy202]; exact H) | exact H
            have Ny202 := Aside0.mk hy202
            clear hy202
            replace H := Option.bind_eq_some_iff.mp H
            obtain ⟨⟨t205, t206⟩, A540, H⟩ := H
            replace H : (if t194 = 1 then (if t196 = 1 then (if t201 = 5 then (if t206 = 5 then ((rampartlaw05_awake.f kj35).bind fun t207 => (some t207)) else (some false)) else (some false)) else (some false)) else (some false)) = some r := H
            have A54 := Aside0.mk A540
            clear A540
            by_cases c55 : t194 = 1
            ·
             rw [if_pos c55] at H
             have c55b0 : (t194 == 1) = true := beq_iff_eq.mpr c55
             have c55b1 : (t194 != 1) = false := bne_eq_false_iff_eq.mpr c55
             clear c55
             by_cases c56 : t196 = 1
             ·
              rw [if_pos c56] at H
              have c56b0 : (t196 == 1) = true := beq_iff_eq.mpr c56
              have c56b1 : (t196 != 1) = false := bne_eq_false_iff_eq.mpr c56
              clear c56
              by_cases c57 : t201 = 5
              ·
               rw [if_pos c57] at H
               have c57b0 : (t201 == 5) = true := beq_iff_eq.mpr c57
               have c57b1 : (t201 != 5) = false := bne_eq_false_iff_eq.mpr c57
               clear c57
               by_cases c58 : t206 = 5
               ·
                rw [if_pos c58] at H
                have c58b0 : (t206 == 5) = true := beq_iff_eq.mpr c58
                have c58b1 : (t206 != 5) = false := bne_eq_false_iff_eq.mpr c58
                clear c58
                replace H := Option.bind_eq_some_iff.mp H
                obtain ⟨t207, A590, H⟩ := H
                replace H : (some t207) = some r := H
                have A59 := Aside0.mk A590
                clear A590
                obtain rfl := Option.some.inj H
                have hnb60 := NB177_191.out
                have hnc60 := NB191_177.out
                have hcz61_0 : wc.cell? ⟨gb177, 0, none⟩ = some (.int .i64 x178000_35) := (blk_cell BK177.out 0).trans rfl
                have hcz61_1 : wc.cell? ⟨gb177, 1, none⟩ = some (.int .i64 x178001_35) := (blk_cell BK177.out 1).trans rfl
                have hcz61_2 : wc.cell? ⟨gb177, 2, none⟩ = some (.int .i64 x178002_35) := (blk_cell BK177.out 2).trans rfl
                have hcz61_3 : wc.cell? ⟨gb177, 3, none⟩ = some (.int .i64 x178003_35) := (blk_cell BK177.out 3).trans rfl
                have hcz61_4 : wc.cell? ⟨gb177, 4, none⟩ = some (.int .u32 4294967295) := (blk_cell BK177.out 4).trans rfl
                have hfz61_0 := blk_frozen BK177.out 0
                have hfz61_1 := blk_frozen BK177.out 1
                have hfz61_2 := blk_frozen BK177.out 2
                have hfz61_3 := blk_frozen BK177.out 3
                have hfz61_4 := blk_frozen BK177.out 4
                go_wp2_with (first | ((with_reducible refine gate_callee (f := 33) rfl ?_); refine goesL_ (some 123) rfl rfl Try.func33 (by kernel_rfl) rfl #[.int .u32 1, .int .u32 2, .agg #[.int .i64 x178000_35, .int .i64 x178001_35, .int .i64 x178002_35, .int .i64 x178003_35, .int .u32 4294967295], .string a2] rfl (by (try simp only [List.map_toArray, List.map_cons, List.map_nil]); first | done | rfl | (simp only [List.length_drop, List.length_take]; rfl)) ?_; (with_reducible refine (dgram_PutUDP.calls kj35 1 2 x178000_35 x178001_35 x178002_35 x178003_35 4294967295 a2 t193 t194 _ A48.out).mono ?_); rintro e w62 ⟨rfl, hb⟩; refine ⟨_, rfl, ?_⟩; have n0_ := Aside0.mk (blk_below (g := gb177) (o := .cells #[.int .i64 x178000_35, .int .i64 x178001_35, .int .i64 x178002_35, .int .i64 x178003_35, .int .u32 4294967295] 53 (0, 0)) (by (with_reducible repeat (first | refine blk_drewN ?_ _ | refine blk_drew ?_ | refine blk_alloc ?_ _)); exact BK177.out) hb); have n1_ := Aside0.mk (blk_below (g := gb191) (o := .cells #[.int .i64 t184, .int .i64 t185, .int .i64 t186, .int .i64 t187, .int .u32 t188] 53 (0, 0)) (by (with_reducible repeat (first | refine blk_drewN ?_ _ | refine blk_drew ?_ | refine blk_alloc ?_ _)); exact BK191.out) hb); have n2_ := Aside0.mk (below_step (by repeat (first | (with_reducible first | exact HB.out | apply below_alloc | apply pw_below_drewN | apply below_drew1 | refine below_set ?_ GE177.out | refine below_set ?_ GE191.out) | exact HB.out)) hb); clear BK177; clear BK191; clear HB; have BK177 := n0_; have BK191 := n1_; have HB := n2_; clear n0_ n1_ n2_; (try clear hb); (try clear hb2); (try clear hk); (try clear hi); have hcz63_0 : w62.cell? ⟨gb177, 0, none⟩ = some (.int .i64 x178000_35) := (blk_cell BK177.out 0).trans rfl; have hcz63_1 : w62.cell? ⟨gb177, 1, none⟩ = some (.int .i64 x178001_35) := (blk_cell BK177.out 1).trans rfl; have hcz63_2 : w62.cell? ⟨gb177, 2, none⟩ = some (.int .i64 x178002_35) := (blk_cell BK177.out 2).trans rfl; have hcz63_3 : w62.cell? ⟨gb177, 3, none⟩ = some (.int .i64 x178003_35) := (blk_cell BK177.out 3).trans rfl; have hcz63_4 : w62.cell? ⟨gb177, 4, none⟩ = some (.int .u32 4294967295) := (blk_cell BK177.out 4).trans rfl; have hfz63_0 := blk_frozen BK177.out 0; have hfz63_1 := blk_frozen BK177.out 1; have hfz63_2 := blk_frozen BK177.out 2; have hfz63_3 := blk_frozen BK177.out 3; have hfz63_4 := blk_frozen BK177.out 4) | ((with_reducible refine gate_callee (f := 36) rfl ?_); refine goesL_ (some 129) rfl rfl Try.func36 (by kernel_rfl) rfl #[.agg #[.int .i64 x178000_35, .int .i64 x178001_35, .int .i64 x178002_35, .int .i64 x178003_35, .int .u32 4294967295], .string a2] rfl (by (try simp only [List.map_toArray, List.map_cons, List.map_nil]); first | done | rfl | (simp only [List.length_drop, List.length_take]; rfl)) ?_; (with_reducible refine (dgram_PutICMP.calls kj35 x178000_35 x178001_35 x178002_35 x178003_35 4294967295 a2 t195 t196 _ A49.out).mono ?_); rintro e w64 ⟨rfl, hb⟩; refine ⟨_, rfl, ?_⟩; have n0_ := Aside0.mk (blk_below (g := gb177) (o := .cells #[.int .i64 x178000_35, .int .i64 x178001_35, .int .i64 x178002_35, .int .i64 x178003_35, .int .u32 4294967295] 53 (0, 0)) (by (with_reducible repeat (first | refine blk_drewN ?_ _ | refine blk_drew ?_ | refine blk_alloc ?_ _)); exact BK177.out) hb); have n1_ := Aside0.mk (blk_below (g := gb191) (o := .cells #[.int .i64 t184, .int .i64 t185, .int .i64 t186, .int .i64 t187, .int .u32 t188] 53 (0, 0)) (by (with_reducible repeat (first | refine blk_drewN ?_ _ | refine blk_drew ?_ | refine blk_alloc ?_ _)); exact BK191.out) hb); have n2_ := Aside0.mk (below_step (by repeat (first | (with_reducible first | exact HB.out | apply below_alloc | apply pw_below_drewN | apply below_drew1 | refine below_set ?_ GE177.out | refine below_set ?_ GE191.out) | exact HB.out)) hb); clear BK177; clear BK191; clear HB; have BK177 := n0_; have BK191 := n1_; have HB := n2_; clear n0_ n1_ n2_; (try clear hb); (try clear hb2); (try clear hk); (try clear hi)) | ((with_reducible refine gate_dst (N := 136) rfl ?_); (try (refine gate_guard (by rfl) ?_; dsimp only)); refine Kd.R_make (Kd.int .u8) _ 5 rfl (N := 136) rfl 34 _ _ rfl ji50 rfl rfl Try.underlying34 (.int .u8 0) 1 info5 rfl (by decide) (by omega) 0 (ok := fun _ => True) (okp := fun _ => True) rfl (fun _ hk => hk) trivial (of_decide_eq_true (by first | (with_reducible assumption) | assumption)) (Nat.le_trans (Nat.mul_le_mul_right _ (of_decide_eq_true (by first | (with_reducible assumption) | assumption) : ji50.toNat ≤ 281474976710656)) (by omega)) (Below.refl _ _) (Nat.le_refl _) ?_; intro v198 w65 ho66 hb hg_ hnew_; clear hg_ hnew_; (first | rw [← Ny197.out] at ho66 | (simp only [Int.reduceToNat] at ho66; rw [← Ny197.out] at ho66)); have n0_ := Aside0.mk (Kd.R_lower ho66 (below_size (by repeat (first | (with_reducible first | exact HB.out | apply below_alloc | apply pw_below_drewN | apply below_drew1 | refine below_set ?_ GE177.out | refine below_set ?_ GE191.out) | exact HB.out)))); have n1_ := Aside0.mk (blk_below (g := gb177) (o := .cells #[.int .i64 x178000_35, .int .i64 x178001_35, .int .i64 x178002_35, .int .i64 x178003_35, .int .u32 4294967295] 53 (0, 0)) (by (with_reducible repeat (first | refine blk_drewN ?_ _ | refine blk_drew ?_ | refine blk_alloc ?_ _)); exact BK177.out) hb); have n2_ := Aside0.mk (blk_below (g := gb191) (o := .cells #[.int .i64 t184, .int .i64 t185, .int .i64 t186, .int .i64 t187, .int .u32 t188] 53 (0, 0)) (by (with_reducible repeat (first | refine blk_drewN ?_ _ | refine blk_drew ?_ | refine blk_alloc ?_ _)); exact BK191.out) hb); have n3_ := Aside0.mk (below_step (by repeat (first | (with_reducible first | exact HB.out | apply below_alloc | apply pw_below_drewN | apply below_drew1 | refine below_set ?_ GE177.out | refine below_set ?_ GE191.out) | exact HB.out)) hb); clear BK177; clear BK191; clear HB; have HO199 := n0_; have BK177 := n1_; have BK191 := n2_; have HB := n3_; clear n0_ n1_ n2_ n3_; clear hb ho66; have hcv67 := own_string (P := Try.prog) Try.underlying34 Try.underlying5 Try.underlying9 (Kd.own_of_R HO199.out)) | ((with_reducible refine gate_callee (f := 33) rfl ?_); refine goesL_ (some 138) rfl rfl Try.func33 (by kernel_rfl) rfl #[.int .u32 1, .int .u32 2, .agg #[.int .i64 0, .int .i64 0, .int .i64 0, .int .i64 0, .int .u32 0], .string (strOfNums y197)] rfl (by (try simp only [List.map_toArray, List.map_cons, List.map_nil]); first | done | rfl | (simp only [List.length_drop, List.length_take]; rfl)) ?_; (with_reducible refine (dgram_PutUDP.calls kj35 1 2 0 0 0 0 0 (strOfNums y197) t200 t201 _ A53.out).mono ?_); rintro e w68 ⟨rfl, hb⟩; refine ⟨_, rfl, ?_⟩; have n0_ := Aside0.mk (Kd.R_below (by (with_reducible repeat (first | apply Kd.R_alloc | apply Kd.R_drewN | apply Kd.R_drew)); exact HO199.out) hb); have n1_ := Aside0.mk (blk_below (g := gb177) (o := .cells #[.int .i64 x178000_35, .int .i64 x178001_35, .int .i64 x178002_35, .int .i64 x178003_35, .int .u32 4294967295] 53 (0, 0)) (by (with_reducible repeat (first | refine blk_drewN ?_ _ | refine blk_drew ?_ | refine blk_alloc ?_ _)); exact BK177.out) hb); have n2_ := Aside0.mk (blk_below (g := gb191) (o := .cells #[.int .i64 t184, .int .i64 t185, .int .i64 t186, .int .i64 t187, .int .u32 t188] 53 (0, 0)) (by (with_reducible repeat (first | refine blk_drewN ?_ _ | refine blk_drew ?_ | refine blk_alloc ?_ _)); exact BK191.out) hb); have n3_ := Aside0.mk (below_step (by repeat (first | (with_reducible first | exact HB.out | apply below_alloc | apply pw_below_drewN | apply below_drew1 | refine below_set ?_ GE177.out | refine below_set ?_ GE191.out) | exact HB.out)) hb); clear HO199; clear BK177; clear BK191; clear HB; have HO199 := n0_; have BK177 := n1_; have BK191 := n2_; have HB := n3_; clear n0_ n1_ n2_ n3_; (try clear hb); (try clear hb2); (try clear hk); (try clear hi)) | ((with_reducible refine gate_dst (N := 145) rfl ?_); (try (refine gate_guard (by rfl) ?_; dsimp only)); refine Kd.R_make (Kd.int .u8) _ 5 rfl (N := 145) rfl 34 _ _ rfl ji50 rfl rfl Try.underlying34 (.int .u8 0) 1 info5 rfl (by decide) (by omega) 0 (ok := fun _ => True) (okp := fun _ => True) rfl (fun _ hk => hk) trivial (of_decide_eq_true (by first | (with_reducible assumption) | assumption)) (Nat.le_trans (Nat.mul_le_mul_right _ (of_decide_eq_true (by first | (with_reducible assumption) | assumption) : ji50.toNat ≤ 281474976710656)) (by omega)) (Below.refl _ _) (Nat.le_refl _) ?_; intro v203 w69 ho70 hb hg_ hnew_; clear hg_ hnew_; (first | rw [← Ny202.out] at ho70 | (simp only [Int.reduceToNat] at ho70; rw [← Ny202.out] at ho70)); have n0_ := Aside0.mk (Kd.R_elder' (by (with_reducible repeat (first | apply Kd.R_alloc | apply Kd.R_drewN | apply Kd.R_drew)); exact HO199.out) (Kd.R_base ho70) hb); have n1_ := Aside0.mk (Kd.R_lower (Kd.R_new' ho70 (Kd.R_lt (by (with_reducible repeat (first | apply Kd.R_alloc | apply Kd.R_drewN | apply Kd.R_drew)); exact HO199.out))) (below_size (by repeat (first | (with_reducible first | exact HB.out | apply below_alloc | apply pw_below_drewN | apply below_drew1 | refine below_set ?_ GE177.out | refine below_set ?_ GE191.out) | exact HB.out)))); have n2_ := Aside0.mk (blk_below (g := gb177) (o := .cells #[.int .i64 x178000_35, .int .i64 x178001_35, .int .i64 x178002_35, .int .i64 x178003_35, .int .u32 4294967295] 53 (0, 0)) (by (with_reducible repeat (first | refine blk_drewN ?_ _ | refine blk_drew ?_ | refine blk_alloc ?_ _)); exact BK177.out) hb); have n3_ := Aside0.mk (blk_below (g := gb191) (o := .cells #[.int .i64 t184, .int .i64 t185, .int .i64 t186, .int .i64 t187, .int .u32 t188] 53 (0, 0)) (by (with_reducible repeat (first | refine blk_drewN ?_ _ | refine blk_drew ?_ | refine blk_alloc ?_ _)); exact BK191.out) hb); have n4_ := Aside0.mk (below_step (by repeat (first | (with_reducible first | exact HB.out | apply below_alloc | apply pw_below_drewN | apply below_drew1 | refine below_set ?_ GE177.out | refine below_set ?_ GE191.out) | exact HB.out)) hb); clear HO199; clear BK177; clear BK191; clear HB; have HO199 := n0_; have HO204 := n1_; have BK177 := n2_; have BK191 := n3_; have HB := n4_; clear n0_ n1_ n2_ n3_ n4_; clear hb ho70; have hcv71 := own_string (P := Try.prog) Try.underlying34 Try.underlying5 Try.underlying9 (Kd.own_of_R HO204.out)) | ((with_reducible refine gate_callee (f := 36) rfl ?_); refine goesL_ (some 147) rfl rfl Try.func36 (by kernel_rfl) rfl #[.agg #[.int .i64 0, .int .i64 0, .int .i64 0, .int .i64 0, .int .u32 0], .string (strOfNums y202)] rfl (by (try simp only [List.map_toArray, List.map_cons, List.map_nil]); first | done | rfl | (simp only [List.length_drop, List.length_take]; rfl)) ?_; (with_reducible refine (dgram_PutICMP.calls kj35 0 0 0 0 0 (strOfNums y202) t205 t206 _ A54.out).mono ?_); rintro e w72 ⟨rfl, hb⟩; refine ⟨_, rfl, ?_⟩; have n0_ := Aside0.mk (Kd.R_below (by (with_reducible repeat (first | apply Kd.R_alloc | apply Kd.R_drewN | apply Kd.R_drew)); exact HO199.out) hb); have n1_ := Aside0.mk (Kd.R_below (by (with_reducible repeat (first | apply Kd.R_alloc | apply Kd.R_drewN | apply Kd.R_drew)); exact HO204.out) hb); have n2_ := Aside0.mk (blk_below (g := gb177) (o := .cells #[.int .i64 x178000_35, .int .i64 x178001_35, .int .i64 x178002_35, .int .i64 x178003_35, .int .u32 4294967295] 53 (0, 0)) (by (with_reducible repeat (first | refine blk_drewN ?_ _ | refine blk_drew ?_ | refine blk_alloc ?_ _)); exact BK177.out) hb); have n3_ := Aside0.mk (blk_below (g := gb191) (o := .cells #[.int .i64 t184, .int .i64 t185, .int .i64 t186, .int .i64 t187, .int .u32 t188] 53 (0, 0)) (by (with_reducible repeat (first | refine blk_drewN ?_ _ | refine blk_drew ?_ | refine blk_alloc ?_ _)); exact BK191.out) hb); have n4_ := Aside0.mk (below_step (by repeat (first | (with_reducible first | exact HB.out | apply below_alloc | apply pw_below_drewN | apply below_drew1 | refine below_set ?_ GE177.out | refine below_set ?_ GE191.out) | exact HB.out)) hb); clear HO199; clear HO204; clear BK177; clear BK191; clear HB; have HO199 := n0_; have HO204 := n1_; have BK177 := n2_; have BK191 := n3_; have HB := n4_; clear n0_ n1_ n2_ n3_ n4_; (try clear hb); (try clear hb2); (try clear hk); (try clear hi)) | (go_at_call 32; (with_reducible refine (rampartlaw05_awake.calls kj35  t207 _ A59.out (by first | rfl | exact HR.out)).mono ?_); rintro e w73 ⟨rfl, hb⟩; have n0_ := Aside0.mk (Kd.R_below (by (with_reducible repeat (first | apply Kd.R_alloc | apply Kd.R_drewN | apply Kd.R_drew)); exact HO199.out) hb); have n1_ := Aside0.mk (Kd.R_below (by (with_reducible repeat (first | apply Kd.R_alloc | apply Kd.R_drewN | apply Kd.R_drew)); exact HO204.out) hb); have n2_ := Aside0.mk (blk_below (g := gb177) (o := .cells #[.int .i64 x178000_35, .int .i64 x178001_35, .int .i64 x178002_35, .int .i64 x178003_35, .int .u32 4294967295] 53 (0, 0)) (by (with_reducible repeat (first | refine blk_drewN ?_ _ | refine blk_drew ?_ | refine blk_alloc ?_ _)); exact BK177.out) hb); have n3_ := Aside0.mk (blk_below (g := gb191) (o := .cells #[.int .i64 t184, .int .i64 t185, .int .i64 t186, .int .i64 t187, .int .u32 t188] 53 (0, 0)) (by (with_reducible repeat (first | refine blk_drewN ?_ _ | refine blk_drew ?_ | refine blk_alloc ?_ _)); exact BK191.out) hb); have n4_ := Aside0.mk (below_step (by repeat (first | (with_reducible first | exact HB.out | apply below_alloc | apply pw_below_drewN | apply below_drew1 | refine below_set ?_ GE177.out | refine below_set ?_ GE191.out) | exact HB.out)) hb); clear HO199; clear HO204; clear BK177; clear BK191; clear HB; have HO199 := n0_; have HO204 := n1_; have BK177 := n2_; have BK191 := n3_; have HB := n4_; clear n0_ n1_ n2_ n3_ n4_; (try clear hb); (try clear hb2); (try clear hk); (try clear hi)))
                go_ret
                exact ⟨by first | rfl | (simp [errW_none, errW_some] <;> rfl) | (simp only [← hji50]; first | rfl | (simp [errW_none, errW_some] <;> rfl)) | (simp [*, errW_none, errW_some] <;> rfl), by repeat (first | (with_reducible first | exact HB.out | apply below_alloc | apply pw_below_drewN | apply below_drew1 | refine below_set ?_ GE177.out | refine below_set ?_ GE191.out) | exact HB.out)⟩
               ·
                rw [if_neg c58] at H
                have c58b0 : (t206 == 5) = false := beq_eq_false_iff_ne.mpr c58
                have c58b1 : (t206 != 5) = true := bne_iff_ne.mpr c58
                exact absurd ((Option.some.inj H).trans HR.out) (by decide)
              ·
               rw [if_neg c57] at H
               have c57b0 : (t201 == 5) = false := beq_eq_false_iff_ne.mpr c57
               have c57b1 : (t201 != 5) = true := bne_iff_ne.mpr c57
               exact absurd ((Option.some.inj H).trans HR.out) (by decide)
             ·
              rw [if_neg c56] at H
              have c56b0 : (t196 == 1) = false := beq_eq_false_iff_ne.mpr c56
              have c56b1 : (t196 != 1) = true := bne_iff_ne.mpr c56
              exact absurd ((Option.some.inj H).trans HR.out) (by decide)
            ·
             rw [if_neg c55] at H
             have c55b0 : (t194 == 1) = false := beq_eq_false_iff_ne.mpr c55
             have c55b1 : (t194 != 1) = true := bne_iff_ne.mpr c55
             exact absurd ((Option.some.inj H).trans HR.out) (by decide)
           ·
            rw [if_neg c52] at H
            exact absurd H (by simp)
          ·
           rw [if_neg c51] at H
           exact absurd H (by simp)

/-- THE ONE PURE STATEMENT of rampartlaw05_DgramEdges: yours. -/
def rampartlaw05_DgramEdges.Pure : Prop := ∀ (a0 : Int) (a1 : Int) (a2 : ByteArray), (Lit.int .i64 a0).wf = true → (Lit.int .i64 a1).wf = true → a2.size ≤ 140737488351232 → ∃ k, rampartlaw05_DgramEdges.f k a0 a1 a2 = some true
theorem rampartlaw05_DgramEdges.walk (P : rampartlaw05_DgramEdges.Pure) (a0 : Int) (a1 : Int) (a2 : ByteArray) (w : World) (w0 : (Lit.int .i64 a0).wf = true) (w1 : (Lit.int .i64 a1).wf = true) (w2 : a2.size ≤ 140737488351232) :
  Calls Try.prog 14 #[.int .i64 a0, .int .i64 a1, .string a2] w fun e w' => e = .returned (.bool true) ∧ Below w.heap.size w w' := by
 obtain ⟨k, h⟩ := P a0 a1 a2 w0 w1 w2
 refine (rampartlaw05_DgramEdges.calls k a0 a1 a2 true w h rfl).mono ?_
 rintro e w' ⟨rfl, hd⟩
 exact ⟨rfl, hd⟩


end Go.Proofs.Ytgolimfljndnmaa.HE
