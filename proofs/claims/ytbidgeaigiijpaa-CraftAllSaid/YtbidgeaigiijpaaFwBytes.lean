/- What is proved: rows of bytes made of texts: made, read, written, made texts again; a text copied into an array. Conditions: those that stand in each theorem. -/
import Derived.Test.YtbidgeaigiijpaaFwRowZ
import Derived.Lib.ConvBytes
import Derived.Lib.Strings
import Derived.Laws.IdiomCopy
namespace Go.Proofs.Ytbidgeaigiijpaa.Fw
set_option linter.unusedVariables false
set_option linter.unusedSimpArgs false
set_option linter.unusedSectionVars false
open Go.RowKit
def bset (s : ByteArray) (i : Nat) (v : Int) : ByteArray := ⟨(s.data.toList.set i (UInt8.ofNat v.toNat)).toArray⟩
theorem bset_size (s : ByteArray) (i : Nat) (v : Int) : (bset s i v).size = s.size := by
  show (s.data.toList.set i _).toArray.size = _
  simp
/-- A text's bytes as cells. -/
def bcs (s : ByteArray) : List Value := s.data.toList.map fun c => Value.int .u8 (c.toNat : Int)
theorem bcs_len (s : ByteArray) : (bcs s).length = s.size := by simp [bcs]
theorem bcs_at (s : ByteArray) {j : Nat} (h : j < s.size) : (bcs s)[j]? = some (.int .u8 (bt s (j : Int))) := by
  have h' : j < s.data.toList.length := by simpa using h
  unfold bcs bt
  rw [List.getElem?_map, Int.toNat_natCast, List.getD_eq_getElem?_getD, List.getElem?_eq_getElem h', Option.map_some, Option.getD_some]
theorem bcs_one (s : ByteArray) (u : Value) (h : u ∈ bcs s) : u.oneCell' = true := by
  obtain ⟨x, _, rfl⟩ := List.mem_map.1 h
  rfl
/-- Block b holds a text's bytes (and its mark lies behind its last cell). -/
def BytesAt (w : World) (b : Nat) (s : ByteArray) : Prop := ∃ (zs : List Value) (T : Nat), w.heap[b]? = some (.cells (bcs s ++ zs).toArray T ((bcs s ++ zs).length, (bcs s ++ zs).length + 1))
theorem BytesAt.lt {w : World} {b : Nat} {s : ByteArray} (h : BytesAt w b s) : b < w.heap.size := by
  obtain ⟨_, _, h⟩ := h
  exact (Array.getElem?_eq_some_iff.1 h).1
theorem BytesAt.moved {S : Nat → Prop} {w w' : World} {b : Nat} {s : ByteArray} (h : BytesAt w b s) (m : Mv S w w') (hs : ¬ S b) : BytesAt w' b s := by
  have hl := h.lt
  obtain ⟨zs, T, h⟩ := h
  exact ⟨zs, T, (m.block b hl hs).trans h⟩
theorem BytesAt.same {w w' : World} {b : Nat} {s : ByteArray} (h : BytesAt w b s) (e : Same w w') : BytesAt w' b s := h.moved (S := fun _ => False) ((Mv.refl _ w).same e) fun e => e
theorem BytesAt.cell {w : World} {b : Nat} {s : ByteArray} (h : BytesAt w b s) {j : Nat} (hj : j < s.size) : w.cell? ⟨b, j, none⟩ = some (.int .u8 (bt s (j : Int))) := by
  obtain ⟨zs, T, h⟩ := h
  unfold World.cell?
  rw [h]
  show (bcs s ++ zs).toArray[j]? = _
  rw [List.getElem?_toArray, List.getElem?_append_left (by rw [bcs_len]; exact hj), bcs_at s hj]
theorem ofNat_toNat {v : Int} (h0 : 0 ≤ v) (h1 : v < 256) : ((UInt8.ofNat v.toNat).toNat : Int) = v := by
  rw [UInt8.toNat_ofNat', Nat.mod_eq_of_lt (by omega)]
  omega
theorem bcs_set (s : ByteArray) (j : Nat) {v : Int} (h0 : 0 ≤ v) (h1 : v < 256) : bcs (bset s j v) = (bcs s).set j (.int .u8 v) := by
  have e : (bset s j v).data.toList = s.data.toList.set j (UInt8.ofNat v.toNat) := rfl
  unfold bcs
  rw [e, List.map_set, ofNat_toNat h0 h1]
theorem of_bcs (s : ByteArray) : strOfNums (s.data.toList.map fun c => (c.toNat : Int)) = s := by
  apply ByteArray.ext
  unfold strOfNums
  rw [List.map_map]
  have : (fun n : Int => UInt8.ofNat n.toNat) ∘ (fun c : UInt8 => (c.toNat : Int)) = id := by
    funext c
    simp
  rw [this, List.map_id, Array.toArray_toList]
/-- 'string(b)'. -/
theorem BytesAt.back {P : Program} {w : World} {b : Nat} {str : ByteArray} (h : BytesAt w b str) {s d e c : Nat} (hs : P.underlying s = some (.slice e)) (he : P.underlying e = some (.int .u8)) (hd : P.underlying d = some .string) :
    ∀ w', Same w w' → (convert s d (.slice (some ⟨b, 0, none⟩) str.size c)).run P w' = .ok (.string str) w' := fun w' hw => by
  have := run_convert_bytes_arg (P := P) w' s e hs he b 0 str.size c (str.data.toList.map fun c => (c.toNat : Int)) (by simp) (fun i hi => by
    rw [Nat.zero_add, (h.same hw).cell hi]
    have hi' : i < str.data.toList.length := by simpa using hi
    unfold bt
    rw [List.getD_eq_getElem?_getD, List.getD_eq_getElem?_getD, List.getElem?_map, Int.toNat_natCast, List.getElem?_eq_getElem hi']
    rfl) d hd
  rw [of_bcs] at this
  exact this
section
variable {P : Program} {L : Lay} {n : Nat} {f : Fr} {w : World} {Q : Exit → Act → World → Prop}
/-- '[]byte(s)'. -/
theorem Ls.convB {ops l : List Oper} {o : Oper} {s d e r : Nat} {x : Operand} {ds : TypeDesc} (hop : o.op = .convert s d x) (hgd : o.guard = none) (hd : o.dst = some r) (hdn : Nat.blt r n = true) {str : ByteArray} (hx : feval f x = some (.string str))
    (h1 : P.underlying s = some ds) (h2 : P.underlying d = some (.slice e)) (h3 : P.underlying e = some (.int .u8))
    (hK : ∀ w' c, BytesAt w' w.heap.size str → Mv (fun _ => False) w w' → str.size ≤ c → Ls P n ops l ((r, .slice (some ⟨w.heap.size, 0, none⟩) str.size c) :: f) w' Q) : Ls P n ops (o :: l) f w Q := fun a hf => by
  refine wpList_plain hgd fun K hK' => ?_
  have hr := Lib.run_convert_string_bytes (P := P) w s d e str h1 h2 h3
  unfold Oper.wp
  have : (execOp a.eval o).run P w = .ok (.value (.slice (some ⟨w.heap.size, 0, none⟩) str.size (grownCap w str.size 0 e))) (Lib.bytesWorld w e str) := by
    simp [execOp, hop, hf.eval hx, hr, Result.andThen]
  rw [this, Oper.upon_value, hd]
  have hge := grownCap_ge w str.size 0 e
  refine hK' _ _ (hK _ _ ?_ ?_ hge _ (hf.put hdn _))
  · refine ⟨List.replicate (grownCap w str.size 0 e - str.size) (Value.int .u8 0), e, ?_⟩
    have hb := Lib.bytesWorld_at_new w e str
    have ec : Lib.bytesCells w e str = (bcs str ++ List.replicate (grownCap w str.size 0 e - str.size) (Value.int .u8 0)).toArray := by
      apply Array.toList_inj.1
      unfold Lib.bytesCells bcs
      simp
    rw [ec] at hb
    rw [hb]
    simp only [List.size_toArray]
  · refine ⟨rfl, rfl, rfl, ?_, fun k hk _ => Lib.bytesWorld_at_old w e str k hk⟩
    rw [Lib.bytesWorld_size]; omega
/-- A byte stored in such a row. -/
theorem Ls.storeB (LO : LayOk P L) {ops l : List Oper} {o : Oper} {t : Nat} {x y : Operand} (hop : o.op = .store t x y) (hgd : o.guard = none) (hdst : o.dst = none) {b i : Nat} (hx : feval f x = some (.pointer (some ⟨b, i, none⟩))) {v : Int} (hy : feval f y = some (.int .u8 v))
    (ht : sizeL L t = some 1) {s : ByteArray} (hb : BytesAt w b s) (hi : i < s.size) (h0 : 0 ≤ v) (h1 : v < 256)
    (h : ∀ w', BytesAt w' b (bset s i v) → Mv (· = b) w w' → w'.heap.size = w.heap.size → Ls P n ops l f w' Q) : Ls P n ops (o :: l) f w Q := fun a hf => by
  refine wpList_plain hgd fun K hK => ?_
  unfold Oper.wp
  have hsz := sizeL_ok LO ht
  have hcell := hb.cell hi
  obtain ⟨zs, T, hh⟩ := hb
  have hfz : w.frozen? ⟨b, i, none⟩ = false := by
    unfold World.frozen?
    rw [hh]
    have := bcs_len s
    simp only [List.length_append, Bool.and_eq_false_iff, decide_eq_false_iff_not]
    left
    omega
  have hrun := run_storeCells_cells (P := P) b i [Value.int .u8 v] 0 w (fun j hj => by
    have : j = 0 := by simpa using hj
    subst this
    show (w.cell? ⟨b, i, none⟩).isSome = true
    rw [hcell]; rfl) (fun j hj => by
    have : j = 0 := by simpa using hj
    subst this
    exact hfz) (fun u hu => by rw [List.mem_singleton.1 hu]; rfl)
  have e1 : w.setCells b (i + 0) [Value.int .u8 v] = w.setCell ⟨b, i, none⟩ (.int .u8 v) := rfl
  rw [e1] at hrun
  have : (execOp a.eval o).run P w = .ok .skip (w.setCell ⟨b, i, none⟩ (.int .u8 v)) := by
    simp [execOp, hop, hf.eval hx, hf.eval hy, Instr.storeAt, Instr.sureAddr, storeVar, run_sizeOf hsz, Value.cells, Result.andThen, hrun]
  rw [this, Oper.upon_skip, hdst]
  have hblt := (Array.getElem?_eq_some_iff.1 hh).1
  refine hK _ _ (h _ ⟨zs, T, ?_⟩ ((Mv.refl (· = b) w).setCell (p := ⟨b, i, none⟩) (.inr rfl) (.int .u8 v)) ?_ a (hf.none undef))
  · have ec : (bcs (bset s i v) ++ zs) = (bcs s ++ zs).set i (.int .u8 v) := by
      rw [bcs_set s i h0 h1, List.set_append_left _ _ (by rw [bcs_len]; exact hi)]
    rw [ec]
    simp [World.setCell, Array.getElem?_modify, hh]
  · simp [World.setCell]
/-- 'copy(a[..], s)': into cells of a variable. -/
theorem Ls.copyS {ops l : List Oper} {o : Oper} {x y : Operand} {ts : Array Nat} {t e : Nat} (hop : o.op = .call ⟨.builtin .copy, #[x, y], ts⟩) (hgd : o.guard = none) {r : Nat} (hd : o.dst = some r) (hdn : Nat.blt r n = true) (ht0 : ts[0]? = some t) (ht : P.underlying t = some (.slice e)) (hz : sizeT P e = some 1)
    {b k m c : Nat} {s : ByteArray} (hx : feval f x = some (.slice (some ⟨b, k, none⟩) m c)) (hy : feval f y = some (.string s)) {cs : List Value} {T : Nat} (hc : w.heap[b]? = some (.cells cs.toArray T (0, 0))) (hl : k + min s.size m ≤ cs.length)
    (h : ∀ w' u, w'.heap[b]? = some (.cells (wr cs k ((bcs s).take (min s.size m))).toArray T (0, 0)) → Mv (· = b) w w' → w'.heap.size = w.heap.size → Ls P n ops l ((r, u) :: f) w' Q) : Ls P n ops (o :: l) f w Q := fun a hf => by
  refine wpList_plain hgd fun K hK => ?_
  unfold Oper.wp
  have hl2 : ((bcs s).take (min s.size m)).length = min s.size m := by rw [List.length_take, bcs_len]; omega
  have hst := run_storeCells_at (P := P) b k T ((bcs s).take (min s.size m)) 0 cs.toArray w hc (by rw [hl2]; simpa using hl) (fun u hu => bcs_one s u (List.mem_of_mem_take hu))
  have hcells : ((s.extract 0 (min s.size m)).data.map fun b => Value.int .u8 (b.toNat : Int)).toList = (bcs s).take (min s.size m) := by
    rw [Array.toList_map]
    have : (s.extract 0 (min s.size m)).data.toList = s.data.toList.take (min s.size m) := by
      rw [Lib.extract_data]; simp
    rw [this]
    unfold bcs
    rw [List.map_take]
  have hrun : (Builtin.copy_ ts o.type #[.slice (some ⟨b, k, none⟩) m c, .string s]).run P w = .ok (goInt (min s.size m)) (w.setRow b (wr cs k ((bcs s).take (min s.size m))).toArray) := by
    unfold Builtin.copy_
    simp [ht0, run_underlying ht, run_sizeOf hz, Builtin.lenOf, Builtin.firstCells, Result.andThen]
    have hs2 : (storeCells ⟨b, k, none⟩ (List.take (s.size.min m) (List.map (fun b : UInt8 => Value.int .u8 (b.toNat : Int)) s.data.toList))).run P w = _ := hst
    rw [hs2]
    have e2 : goInt ((s.size.min m : Nat) : Int) = goInt (min (s.size : Int) (m : Int)) := by
      congr 1
      show ((min s.size m : Nat) : Int) = _
      omega
    rw [e2]
    simp [wr]
  have : (execOp a.eval o).run P w = .ok (.value (goInt (min s.size m))) (w.setRow b (wr cs k ((bcs s).take (min s.size m))).toArray) := by
    simp [execOp, hop, resolve, invoke, builtin, hf.eval hx, hf.eval hy, hrun, Result.andThen]
  rw [this, Oper.upon_value, hd]
  exact hK _ _ (h _ _ (setRow_heap w b _ _ T _ hc) ⟨rfl, rfl, rfl, by rw [size_setRow]; exact Nat.le_refl _, fun k _ hk => setRow_other w b k _ hk⟩ (size_setRow _ _ _) _ (hf.put hdn _))
end
end Go.Proofs.Ytbidgeaigiijpaa.Fw
