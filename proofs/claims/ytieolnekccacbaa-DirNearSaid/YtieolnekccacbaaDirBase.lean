/- What is proved: a stream's place in memory, and what 'behind' answers. Conditions: those that stand in each theorem. -/
import Derived.Test.YtieolnekccacbaaMapW
import Derived.Test.YtieolnekccacbaaDirSeq
import Derived.Deep.LoopGhost
import Derived.Deep.QuietTactic
import Derived.BigQuiet
import Derived.Outline
import Derived.StillTailTactics
import Derived.Laws.BytesArg
namespace Go.Proofs.Ytieolnekccacbaa
set_option linter.unusedVariables false
set_option linter.unusedSimpArgs false
set_option linter.unusedSectionVars false
open Go.RowKit Go.Maps Go.MapKept Go.ChangeMaps

/-- A stream: its start, bounds, place, what is held (in the order in which it came), the last bytes, its end, whether it is done. -/
structure DS where
  start : Int
  buffer : Int
  hist : Int
  pl : Int
  held : List (Int × Int)
  last : ByteArray
  fin : Int
  done : Bool

def okK (x : Int) : Prop := (Lit.int .i64 x).wf = true
theorem okK_mk {x : Int} (h0 : -9223372036854775808 ≤ x) (h1 : x ≤ 9223372036854775807) : okK x := WalkArith.wf_i64 (by omega)
theorem KMd : KM Try.prog 3 (Value.int .i64) okK := ⟨int_keyed Try.underlying3, fun x hx => ⟨_, keyOf_int_mk Try.underlying3 hx⟩, fun x y h => by injection h⟩
theorem info_u8 : (Try.prog.info? 5).map (fun i => (i.zero, i.size, i.bytes)) = some (some (.int .u8 0), 1, 1) := by kernel_rfl
theorem zero_u8 (w : World) : (zeroValue 5).run Try.prog w = .ok (.int .u8 0) w := by kernel_rfl

/-- A stream's own block. -/
def DBlk (w : World) (p m : Nat) (d : DS) : Prop :=
  w.heap[p]? = some (.cells #[.int .u32 d.start, .int .i64 d.buffer, .int .i64 d.hist, .int .i64 d.pl, .map (some m), .string d.last, .int .i64 d.fin, .bool d.done] 53 (0, 0))
abbrev HM (w : World) (m : Nat) (l : List (Int × Int)) : Prop := ML (Value.int .i64) (Value.int .u8) okK w m l
structure DirAt (w : World) (p m : Nat) (d : DS) : Prop where
  blk : DBlk w p m d
  map : HM w m d.held

theorem DBlk.cells {w : World} {p m : Nat} {d : DS} (h : DBlk w p m d) :
    w.cell? ⟨p, 0, none⟩ = some (.int .u32 d.start) ∧ w.cell? ⟨p, 1, none⟩ = some (.int .i64 d.buffer) ∧ w.cell? ⟨p, 2, none⟩ = some (.int .i64 d.hist) ∧ w.cell? ⟨p, 3, none⟩ = some (.int .i64 d.pl) ∧
    w.cell? ⟨p, 4, none⟩ = some (.map (some m)) ∧ w.cell? ⟨p, 5, none⟩ = some (.string d.last) ∧ w.cell? ⟨p, 6, none⟩ = some (.int .i64 d.fin) ∧ w.cell? ⟨p, 7, none⟩ = some (.bool d.done) := by
  unfold DBlk at h
  refine ⟨?_, ?_, ?_, ?_, ?_, ?_, ?_, ?_⟩ <;> (unfold World.cell?; rw [h]; rfl)
theorem DBlk.free {w : World} {p m : Nat} {d : DS} (h : DBlk w p m d) (i : Nat) : w.frozen? ⟨p, i, none⟩ = false := by
  unfold DBlk at h
  unfold World.frozen?
  rw [h]
  simp
theorem DBlk.lt {w : World} {p m : Nat} {d : DS} (h : DBlk w p m d) : p < w.heap.size := (Array.getElem?_eq_some_iff.1 h).1
theorem DirAt.ne {w : World} {p m : Nat} {d : DS} (h : DirAt w p m d) : p ≠ m := by
  intro e
  obtain ⟨es, clock, hb, _⟩ := h.map
  have := h.blk
  unfold DBlk at this
  rw [e, hb] at this
  cases this
theorem DBlk.moved {S : Nat → Prop} {w w' : World} {p m : Nat} {d : DS} (h : DBlk w p m d) (hm : Mv S w w') (hs : ¬ S p) : DBlk w' p m d := (hm.block p h.lt hs).trans h
theorem DirAt.moved {S : Nat → Prop} {w w' : World} {p m : Nat} {d : DS} (h : DirAt w p m d) (hm : Mv S w w') (hp : ¬ S p) (hs : ¬ S m) : DirAt w' p m d := ⟨h.blk.moved hm hp, h.map.moved hm hs⟩
theorem DirAt.same {w w' : World} {p m : Nat} {d : DS} (h : DirAt w p m d) (s : Same w w') : DirAt w' p m d := h.moved (S := fun _ => False) ((Mv.refl _ w).same s) (fun e => e) (fun e => e)
theorem DBlk.set {w : World} {p m : Nat} {d d' : DS} (h : DBlk w p m d) (i : Nat) (v : Value)
    (he : (#[.int .u32 d.start, .int .i64 d.buffer, .int .i64 d.hist, .int .i64 d.pl, .map (some m), .string d.last, .int .i64 d.fin, .bool d.done] : Array Value).setIfInBounds i v =
      #[.int .u32 d'.start, .int .i64 d'.buffer, .int .i64 d'.hist, .int .i64 d'.pl, .map (some m), .string d'.last, .int .i64 d'.fin, .bool d'.done]) : DBlk (w.setCell ⟨p, i, none⟩ v) p m d' := by
  unfold DBlk at h ⊢
  simp only [World.setCell, Array.getElem?_modify, if_pos, h, Option.map_some]
  rw [← he]
  rfl

theorem filter_shorter {α : Type} {l : List α} {p : α → Bool} {x : α} (hx : x ∈ l) (hp : p x = false) : (l.filter p).length < l.length := by
  induction l with
  | nil => cases hx
  | cons y r ih =>
    rw [List.filter_cons]
    have := List.length_filter_le p r
    rcases List.mem_cons.1 hx with rfl | hx
    · rw [hp, if_neg Bool.false_ne_true, List.length_cons]; omega
    · have := ih hx
      split <;> simp only [List.length_cons] <;> omega
theorem wp_tail {P : Program} {id : Nat} {Q : Exit → Act → World → Prop} {a : Act} {w : World} {l : List Oper} (n : Nat) (hm : P.follows .mixedOrders = true) (hB : Region.lexTailB .any l.toArray n = true)
    (h : ∀ W, W = w.drew → wpStill P l.toArray W (fun a' => wpList P l.toArray Q (l.drop n) a' W) (l.take n) a) : (Code.region id l.toArray true).wp P Q a w := wp_region_still_tail n hm hB (h _ rfl)
/-- What is owned, as a text. -/
theorem own_str {P : Program} {w : World} {base n : Nat} {e' src dst e : TypeId} {v : Value} {xs : List Int} (hs : P.underlying src = some (.slice e)) (he : P.underlying e = some (.int .u8)) (hd : P.underlying dst = some .string)
    (h : w.ownsRow base e' 1 v n (xs.map (Value.int .u8))) : (convert src dst v).run P w = .ok (.string (strOfNums xs)) w := by
  have hl : xs.length = n := by have := h.1; simpa using this
  rcases h.2 with ⟨rfl, rfl⟩ | ⟨g, cap, cur, rfl, _⟩
  · obtain rfl : xs = [] := List.eq_nil_of_length_eq_zero hl
    exact run_convert_bytes_nil w src e hs he 0 0 dst hd
  · refine run_convert_bytes_arg w src e hs he g 0 n cap xs hl (fun i hi => ?_) dst hd
    have hc := h.cells (g := g) rfl i (.int .u8 (xs.getD i 0)) (by simp [List.getElem?_eq_getElem (show i < xs.length by omega), List.getD_eq_getElem?_getD])
    have ha : (⟨g, 0, none⟩ : Addr).add i = ⟨g, 0 + i, none⟩ := by unfold Addr.add; split <;> simp_all
    rwa [ha] at hc
theorem size_nums (xs : List Int) : (strOfNums xs).size = xs.length := by
  unfold strOfNums
  show (Array.size _) = _
  simp
theorem small_join {a b : ByteArray} (h : a.size + b.size ≤ 4000000) : (9223372036854775807 < a.size + b.size) = False := eq_false (by omega)
/-- What is remembered of a text. -/
def keep (s : ByteArray) (n : Int) : ByteArray := s.extract (s.size - n.toNat) s.size
theorem size_keep (s : ByteArray) (n : Int) : (keep s n).size = min s.size n.toNat := by
  unfold keep
  rw [ByteArray.size_extract]
  omega
def far (l : List (Int × Int)) (x : Int) : Bool := l.any fun q => decide (x ≤ q.1)
def BoolIs (b : Bool) (w : World) (e : Ending) (w' : World) : Prop := e = .returned (.bool b) ∧ Mv (fun _ => False) w w'

set_option maxRecDepth 100000 in
theorem behind_any (p m : Nat) (d : DS) (x : Int) (w : World) (h : DirAt w p m d) :
    Calls Try.prog 25 #[.pointer (some ⟨p, 0, none⟩), .int .i64 x] w (BoolIs (far d.held x) w) := by
  have hc := h.blk.cells.2.2.2.2.1
  have hmap := h.map
  go_enter Try.func25, Try.ntmps25
  go_wp2_with (first
    | (at_range; refine wpL_range rfl rfl Try.underlying51 hmap rfl ?_; intro w0 hI0 hs0 hm0)
    | go_in)
  go_frame
  go_loopg [5] d.held.length (fun n _ wr => ∃ left, left.length = n ∧ MI (Value.int .i64) (Value.int .u8) okK wr w.heap.size m d.held left ∧ (∀ q ∈ d.held, q ∉ left → q.1 < x) ∧ Mv (fun _ => False) w wr)
  case atStart => exact ⟨d.held, rfl, hI0, fun q h1 h2 => absurd h1 h2, hm0⟩
  case round =>
    obtain ⟨left, hlen, hI, hno, hmv⟩ := hrel
    go_wp2_with (first
      | (at_next; refine wpL_next rfl rfl KMd hI rfl ?_ ?_)
      | go_in)
    · intro h0
      subst h0
      go_wp2
      go_ret
      refine ⟨?_, hmv⟩
      have : far d.held x = false := by
        unfold far
        rw [List.any_eq_false]
        intro q hq
        have := hno q hq (by simp)
        simpa using this
      rw [this]
      rfl
    · intro y c w1 hq hq2 hI1 hm1 hs1 hen
      have hA : Hid (Mv (fun _ => False) w w1) := hmv.cut hm1 (fun i hi e => by omega)
      have hB : Hid (∀ q ∈ d.held, q ∉ left.filter (fun q => q.1 != y) → y < x → q.1 < x) := by
        intro q h1 h2 h3
        by_cases e : q.1 = y
        · rw [e]; exact h3
        · exact hno q h1 (fun h4 => h2 (List.mem_filter.2 ⟨h4, by simpa using e⟩))
      have hC : Hid ((left.filter (fun q => q.1 != y)).length < gk) := by
        rw [← hlen]
        exact filter_shorter hq (by simp)
      have hI' : Hid (MI (Value.int .i64) (Value.int .u8) okK w1 w.heap.size m d.held (left.filter (fun q => q.1 != y))) := hI1
      clear hI hno hmv hlen hm1 hI1
      by_cases hlt : x ≤ y
      · have hD : Hid (far d.held x = true) := List.any_eq_true.2 ⟨_, hq2, by simpa using hlt⟩
        clear hq hq2
        go_wp2
        go_ret
        refine ⟨?_, hA.out⟩
        rw [hD.out]
        rfl
      · clear hq hq2
        go_wp2
        go_roundg (left.filter (fun q => q.1 != y)).length
        case measure => exact hC.out
        case rel => exact ⟨_, rfl, hI'.out, fun q h1 h2 => hB.out q h1 h2 (by omega), hA.out⟩
end Go.Proofs.Ytieolnekccacbaa
