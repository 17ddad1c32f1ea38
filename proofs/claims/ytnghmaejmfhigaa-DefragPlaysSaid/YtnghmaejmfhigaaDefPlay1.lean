/- What is proved: a row of calls that came as an argument. Conditions: those that stand in each theorem. -/
import Derived.Test.YtnghmaejmfhigaaDefRef6
import Derived.Deep.Slices
namespace Go.Proofs.Ytnghmaejmfhigaa
set_option linter.unusedVariables false
set_option linter.unusedSimpArgs false
set_option linter.unusedSectionVars false
open Go.RowKit Go.Maps Go.MapKept Go.ChangeMaps Go.ChangeShapes Fw
structure OpV where
  kind : Int
  n : Int
  ip : IPV
  body : ByteArray
def OpV.cs (x : OpV) : List Value := .int .i64 x.kind :: .int .i64 x.n :: (ipVs x.ip ++ [.string x.body])
def OpRow (w : World) (a : Option Addr) (l : List OpV) : Prop := ∀ i x, l[i]? = some x → ∃ b o, a = some ⟨b, o, none⟩ ∧ ∀ (j : Nat) (u : Value), x.cs[j]? = some u → w.cell? ⟨b, o + i * 13 + j, none⟩ = some u
theorem take_one {α : Type} {cs : List α} {o : Nat} {v : α} (h : (cs.drop o).take 1 = [v]) : cs[o]? = some v := by
  have h1 : ((cs.drop o).take 1)[0]? = some v := by rw [h]; rfl
  rw [List.getElem?_take, if_pos (by decide), List.getElem?_drop] at h1
  exact h1
theorem field_of {fs : Array Field} {l : List (Nat × Nat)} (h : fs.toList.map (fun f => (f.offset, f.type)) = l) {i o t : Nat} (hi : l[i]? = some (o, t)) : ∃ f, fs[i]? = some f ∧ f.offset = o ∧ f.type = t := by
  rw [← h, List.getElem?_map, Option.map_eq_some_iff] at hi
  obtain ⟨f, hf, e⟩ := hi
  injection e with e1 e2
  exact ⟨f, by rw [← Array.getElem?_toList]; exact hf, e1, e2⟩
section
variable {H : Type} {enc : TypeId × Value → H} {W : World} {n : Nat} {cs : List Value} {xs : List (DataW H × List MemPlace)} {fs : Array Field} {l : List (Nat × Nat)}
theorem fld_any (h : fs.toList.map (fun f => (f.offset, f.type)) = l) (hx : xs.length = fs.size) (hfd : ∀ (i : Nat) (f : Field), fs[i]? = some f → DataW.trod enc Try.prog W 0 (fun _ => true) true n f.type ((cs.drop f.offset).take (Try.prog.cellsOf f.type)) = xs[i]?)
    {i o t z : Nat} (hi : l[i]? = some (o, t)) (hz : Try.prog.cellsOf t = z) : ∃ y, DataW.trod enc Try.prog W 0 (fun _ => true) true n t ((cs.drop o).take z) = some y := by
  obtain ⟨f, hf, rfl, rfl⟩ := field_of h hi
  have hlt : i < xs.length := by rw [hx]; exact (Array.getElem?_eq_some_iff.1 hf).1
  have := hfd i f hf
  rw [hz, List.getElem?_eq_getElem hlt] at this
  exact ⟨_, this⟩
theorem fld_int {k : IntKind} {t : Nat} (ht : Try.prog.underlying t = some (.int k)) (h : fs.toList.map (fun f => (f.offset, f.type)) = l) (hx : xs.length = fs.size) (hfd : ∀ (i : Nat) (f : Field), fs[i]? = some f → DataW.trod enc Try.prog W 0 (fun _ => true) true n f.type ((cs.drop f.offset).take (Try.prog.cellsOf f.type)) = xs[i]?)
    {i o : Nat} (hi : l[i]? = some (o, t)) (hz : Try.prog.cellsOf t = 1) : ∃ v, cs[o]? = some (.int k v) ∧ (Lit.int k v).wf = true := by
  obtain ⟨y, hy⟩ := fld_any h hx hfd hi hz
  obtain ⟨v, e, _, hw⟩ := DataW.trod_int ht hy
  exact ⟨v, take_one e, hw⟩
theorem fld_bool {t : Nat} (ht : Try.prog.underlying t = some .bool) (h : fs.toList.map (fun f => (f.offset, f.type)) = l) (hx : xs.length = fs.size) (hfd : ∀ (i : Nat) (f : Field), fs[i]? = some f → DataW.trod enc Try.prog W 0 (fun _ => true) true n f.type ((cs.drop f.offset).take (Try.prog.cellsOf f.type)) = xs[i]?)
    {i o : Nat} (hi : l[i]? = some (o, t)) (hz : Try.prog.cellsOf t = 1) : ∃ v, cs[o]? = some (.bool v) := by
  obtain ⟨y, hy⟩ := fld_any h hx hfd hi hz
  obtain ⟨v, e, _⟩ := DataW.trod_bool ht hy
  exact ⟨v, take_one e⟩
theorem fld_str {t : Nat} (ht : Try.prog.underlying t = some .string) (h : fs.toList.map (fun f => (f.offset, f.type)) = l) (hx : xs.length = fs.size) (hfd : ∀ (i : Nat) (f : Field), fs[i]? = some f → DataW.trod enc Try.prog W 0 (fun _ => true) true n f.type ((cs.drop f.offset).take (Try.prog.cellsOf f.type)) = xs[i]?)
    {i o : Nat} (hi : l[i]? = some (o, t)) (hz : Try.prog.cellsOf t = 1) : ∃ v, cs[o]? = some (.string v) := by
  obtain ⟨y, hy⟩ := fld_any h hx hfd hi hz
  obtain ⟨v, e, _⟩ := DataW.trod_string ht hy
  exact ⟨v, take_one e⟩
end
theorem fs_op {fs : Array Field} (he : Try.prog.underlying 44 = some (.struct fs)) : fs.toList.map (fun f => (f.offset, f.type)) = [(0, 3), (1, 3), (2, 29), (12, 9)] := by
  have h1 : (match Try.prog.underlying 44 with | some (.struct fs) => fs.toList.map (fun f => (f.offset, f.type)) | _ => []) = [(0, 3), (1, 3), (2, 29), (12, 9)] := by kernel_rfl
  rw [he] at h1; exact h1
theorem fs_ip {fs : Array Field} (he : Try.prog.underlying 29 = some (.struct fs)) : fs.toList.map (fun f => (f.offset, f.type)) = [(0, 3), (1, 3), (2, 4), (3, 4), (4, 3), (5, 3), (6, 3), (7, 27), (8, 27), (9, 9)] := by
  have h1 : (match Try.prog.underlying 29 with | some (.struct fs) => fs.toList.map (fun f => (f.offset, f.type)) | _ => []) = [(0, 3), (1, 3), (2, 4), (3, 4), (4, 3), (5, 3), (6, 3), (7, 27), (8, 27), (9, 9)] := by kernel_rfl
  rw [he] at h1; exact h1
theorem und_ip : ∃ fs, Try.prog.underlying 29 = some (.struct fs) := by
  have h1 : (match Try.prog.underlying 29 with | some (.struct _) => true | _ => false) = true := by kernel_rfl
  revert h1
  cases h : Try.prog.underlying 29 with
  | none => intro h1; cases h1
  | some u => cases u <;> intro h1 <;> first | exact ⟨_, rfl⟩ | cases h1
/-- What is known of a call. -/
structure OpOk (x : OpV) : Prop where
  kind : -9223372036854775808 ≤ x.kind ∧ x.kind ≤ 9223372036854775807
  n : -9223372036854775808 ≤ x.n ∧ x.n ≤ 9223372036854775807
  ip : IPok x.ip
theorem spot_of {w : World} {a : Addr} {v : Value} (h : w.cell? a = some v) : a = ⟨a.block, a.off, none⟩ := by
  obtain ⟨b, o, s⟩ := a
  cases s with
  | none => rfl
  | some s =>
    unfold World.cell? at h
    split at h
    · simp at h
    · cases h
/-- The cells of one call, opened. -/
theorem open_op {H : Type} {enc : TypeId × Value → H} {W : World} {n : Nat} {cs : List Value} {fs : Array Field} {r : DataW H × List MemPlace} (he : Try.prog.underlying 44 = some (.struct fs)) (h : DataW.trod enc Try.prog W 0 (fun _ => true) true n 44 cs = some r) : ∃ x : OpV, OpOk x ∧ ∀ (j : Nat) (u : Value), x.cs[j]? = some u → cs[j]? = some u := by
  obtain ⟨xs, m, _, _, _, hx, hfd⟩ := DataW.trod_struct he h
  have hl := fs_op he
  have z3 : Try.prog.cellsOf 3 = 1 := by kernel_rfl
  have z9 : Try.prog.cellsOf 9 = 1 := by kernel_rfl
  have z4 : Try.prog.cellsOf 4 = 1 := by kernel_rfl
  have z22 : Try.prog.cellsOf 27 = 1 := by kernel_rfl
  have z29 : Try.prog.cellsOf 29 = 10 := by kernel_rfl
  obtain ⟨kind, a0, w0⟩ := fld_int (i := 0) Try.underlying3 hl hx hfd rfl z3
  obtain ⟨n1, a1, w1⟩ := fld_int (i := 1) Try.underlying3 hl hx hfd rfl z3
  obtain ⟨y2, a2⟩ := fld_any (i := 2) hl hx hfd rfl z29
  obtain ⟨body, a3⟩ := fld_str (i := 3) Try.underlying9 hl hx hfd rfl z9
  obtain ⟨fi, hfi⟩ := und_ip
  obtain ⟨xs2, m2, _, _, _, hx2, hfd2⟩ := DataW.trod_struct hfi a2
  have hl2 := fs_ip hfi
  obtain ⟨tos, b0, v0⟩ := fld_int (i := 0) Try.underlying3 hl2 hx2 hfd2 rfl z3
  obtain ⟨id, b1, v1⟩ := fld_int (i := 1) Try.underlying3 hl2 hx2 hfd2 rfl z3
  obtain ⟨more, b2⟩ := fld_bool (i := 2) Try.underlying4 hl2 hx2 hfd2 rfl z4
  obtain ⟨kp, b3⟩ := fld_bool (i := 3) Try.underlying4 hl2 hx2 hfd2 rfl z4
  obtain ⟨off, b4, v4⟩ := fld_int (i := 4) Try.underlying3 hl2 hx2 hfd2 rfl z3
  obtain ⟨ttl, b5, v5⟩ := fld_int (i := 5) Try.underlying3 hl2 hx2 hfd2 rfl z3
  obtain ⟨proto, b6, v6⟩ := fld_int (i := 6) Try.underlying3 hl2 hx2 hfd2 rfl z3
  obtain ⟨src, b7, v7⟩ := fld_int (i := 7) Try.underlying27 hl2 hx2 hfd2 rfl z22
  obtain ⟨dst, b8, v8⟩ := fld_int (i := 8) Try.underlying27 hl2 hx2 hfd2 rfl z22
  obtain ⟨opts, b9⟩ := fld_str (i := 9) Try.underlying9 hl2 hx2 hfd2 rfl z9
  refine ⟨⟨kind, n1, ⟨tos, id, more, kp, off, ttl, proto, src, dst, opts⟩, body⟩, ⟨bounds_i64 w0, bounds_i64 w1, ipok _ v7 v8 v6 v1 (bounds_i64 v4)⟩, ?_⟩
  rw [List.getElem?_take, if_pos (by decide), List.getElem?_drop] at b0 b1 b2 b3 b4 b5 b6 b7 b8 b9
  intro j u hj
  match j, hj with
  | 0, hj => cases hj; exact a0
  | 1, hj => cases hj; exact a1
  | 2, hj => cases hj; exact b0
  | 3, hj => cases hj; exact b1
  | 4, hj => cases hj; exact b2
  | 5, hj => cases hj; exact b3
  | 6, hj => cases hj; exact b4
  | 7, hj => cases hj; exact b5
  | 8, hj => cases hj; exact b6
  | 9, hj => cases hj; exact b7
  | 10, hj => cases hj; exact b8
  | 11, hj => cases hj; exact b9
  | 12, hj => cases hj; exact a3
  | j + 13, hj => simp [OpV.cs, ipVs] at hj
theorem open_rampartlaw07_Op {H : Type} {enc : TypeId × Value → H} {W : World} {fs : Array Field} {a : Option Addr} {len cap : Nat} {d : DataW H} {ps : List MemPlace}
    (ht : Try.prog.underlying 40 = some (.slice 44)) (he : Try.prog.underlying 44 = some (.struct fs)) (hc : Try.prog.cellsOf 44 = 13) (h : DataW.Trod enc Try.prog W 0 (fun _ => true) true 40 (.slice a len cap) d ps) :
    ∃ l : List OpV, len = l.length ∧ OpRow W a l ∧ ∀ x ∈ l, OpOk x := by
  obtain ⟨fuel, hf⟩ := h
  rcases Deep.open_slice ht hf with ⟨hcs, _⟩ | ⟨A, len', cap', m, n, D, Pl, hcs, _, hl, hm, hmm, _, hx⟩
  · simp [Value.cells] at hcs
    obtain ⟨rfl, rfl, rfl⟩ := hcs
    exact ⟨[], rfl, fun i v hi => by simp at hi, fun s hs => by cases hs⟩
  · simp [Value.cells] at hcs
    obtain ⟨rfl, rfl, rfl⟩ := hcs
    have hlm : len ≤ m := by rw [hmm]; split <;> omega
    have each : ∀ i, i < len → ∃ x : OpV, OpOk x ∧ ∀ (j : Nat) (u : Value), x.cs[j]? = some u → W.cell? ((A.add (i * 13)).add j) = some u := by
      intro i hi
      obtain ⟨cs', h1, h2⟩ := hx i (by omega)
      rw [hc] at h1
      obtain ⟨_, hlen, hcell⟩ := World.cells?_some h1
      obtain ⟨x, hok, hxc⟩ := open_op he h2
      refine ⟨x, hok, fun j u hj => ?_⟩
      have hj13 : j < 13 := (List.getElem?_eq_some_iff.1 hj).1
      rw [hcell j hj13]
      exact hxc j u hj
    haveI : Inhabited OpV := ⟨⟨0, 0, ⟨0, 0, false, false, 0, 0, 0, 0, 0, ⟨#[]⟩⟩, ⟨#[]⟩⟩⟩
    obtain ⟨F, hF⟩ := Deep.choose_lt (α := OpV) each
    refine ⟨(List.range len).map F, by simp, fun i x hi => ?_, fun x hx => ?_⟩
    · rw [List.getElem?_map] at hi
      obtain ⟨j, hj, rfl⟩ := Option.map_eq_some_iff.1 hi
      have : i < len ∧ i = j := by
        by_cases hlt : i < len
        · rw [List.getElem?_range hlt] at hj; exact ⟨hlt, Option.some.inj hj⟩
        · rw [List.getElem?_eq_none (by simp; omega)] at hj; cases hj
      obtain ⟨hlt, rfl⟩ := this
      have h0 := (hF 0 (by omega)).2 0 _ rfl
      have hA : A = ⟨A.block, A.off, none⟩ := by
        have : W.cell? A = some (.int .i64 (F 0).kind) := by
          have e : (A.add (0 * 13)).add 0 = A := by unfold Addr.add; simp
          rw [e] at h0; exact h0
        exact spot_of this
      refine ⟨A.block, A.off, by rw [← hA], fun j u hj => ?_⟩
      have := (hF i hlt).2 j u hj
      rw [hA, Addr.add_lit, Addr.add_lit] at this
      exact this
    · obtain ⟨i, hi, rfl⟩ := List.mem_map.1 hx
      exact (hF i (List.mem_range.1 hi)).1
end Go.Proofs.Ytnghmaejmfhigaa
