/- What is proved: the law CraftBack, as its row asks. Conditions: those that stand in each theorem. -/
import Derived.Test.YtbidgeaigiijpaaNetBk4
import Derived.Test.YtbidgeaigiijpaaNetArg
import Derived.OpenShut
namespace Go.Proofs.Ytbidgeaigiijpaa
set_option linter.unusedVariables false
set_option linter.unusedSimpArgs false
set_option linter.unusedSectionVars false
open Go.RowKit Go.ChangeShapes Fw
section
variable {H : Type} {enc : TypeId × Value → H} {W : World}
theorem zzi : Try.prog.cellsOf 3 = 1 := by kernel_rfl
theorem zzu : Try.prog.cellsOf 22 = 1 := by kernel_rfl
theorem zzb : Try.prog.cellsOf 4 = 1 := by kernel_rfl
theorem zzs : Try.prog.cellsOf 9 = 1 := by kernel_rfl
theorem zz6 : Try.prog.cellsOf 31 = 6 := by kernel_rfl
theorem byte_of (v : Int) (h : 0 ≤ v ∧ v ≤ 255) : (((UInt8.ofNat v.toNat).toNat : Nat) : Int) = v := by
  rw [UInt8.toNat_ofNat', Nat.mod_eq_of_lt (by omega)]
  omega
theorem open_six {n : Nat} {cs : List Value} {r : DataW H × List MemPlace} (h : DataW.trod enc Try.prog W 0 (fun _ => true) true n 31 cs = some r) : ∃ s : ByteArray, s.size = 6 ∧ cs = bcs s := by
  obtain ⟨xs, m, _, _, hl, hx, hall⟩ := DataW.trod_array und_six h
  rw [zz6] at hl
  have hv : ∀ i, i < 6 → ∃ v, cs[i]? = some (.int .u8 v) ∧ 0 ≤ v ∧ v ≤ 255 := fun i hi => by
    have := hall i hi
    rw [one_u8, List.getElem?_eq_getElem (show i < xs.length by omega), Nat.mul_one] at this
    obtain ⟨v, e, _, hw⟩ := DataW.trod_int und_u8 this
    exact ⟨v, take_one e, bounds_u8 hw⟩
  obtain ⟨v0, h0, r0⟩ := hv 0 (by decide)
  obtain ⟨v1, h1, r1⟩ := hv 1 (by decide)
  obtain ⟨v2, h2, r2⟩ := hv 2 (by decide)
  obtain ⟨v3, h3, r3⟩ := hv 3 (by decide)
  obtain ⟨v4, h4, r4⟩ := hv 4 (by decide)
  obtain ⟨v5, h5, r5⟩ := hv 5 (by decide)
  refine ⟨⟨#[UInt8.ofNat v0.toNat, UInt8.ofNat v1.toNat, UInt8.ofNat v2.toNat, UInt8.ofNat v3.toNat, UInt8.ofNat v4.toNat, UInt8.ofNat v5.toNat]⟩, rfl, ?_⟩
  show cs = [.int .u8 (((UInt8.ofNat v0.toNat).toNat : Nat) : Int), .int .u8 (((UInt8.ofNat v1.toNat).toNat : Nat) : Int), .int .u8 (((UInt8.ofNat v2.toNat).toNat : Nat) : Int), .int .u8 (((UInt8.ofNat v3.toNat).toNat : Nat) : Int), .int .u8 (((UInt8.ofNat v4.toNat).toNat : Nat) : Int), .int .u8 (((UInt8.ofNat v5.toNat).toNat : Nat) : Int)]
  rw [byte_of _ r0, byte_of _ r1, byte_of _ r2, byte_of _ r3, byte_of _ r4, byte_of _ r5]
  refine list_is (by rw [hl]; rfl) fun j u hj => ?_
  match j, hj with
  | 0, hj => cases hj; exact h0
  | 1, hj => cases hj; exact h1
  | 2, hj => cases hj; exact h2
  | 3, hj => cases hj; exact h3
  | 4, hj => cases hj; exact h4
  | 5, hj => cases hj; exact h5
  | j + 6, hj => simp at hj
theorem open_eth {n : Nat} {cs : List Value} {r : DataW H × List MemPlace} (h : DataW.trod enc Try.prog W 0 (fun _ => true) true n 33 cs = some r) : ∃ x : EthV, cs = x.cs ∧ x.Ok := by
  obtain ⟨m, o⟩ := opn (l := [(0, 31), (6, 31), (12, 3)]) (by kernel_rfl) (by kernel_rfl) h
  have hl : cs.length = 13 := o.len.trans (by kernel_rfl)
  obtain ⟨y0, hy0⟩ := o.fld 0 0 31 rfl
  obtain ⟨y1, hy1⟩ := o.fld 1 6 31 rfl
  obtain ⟨d, hd, ed⟩ := open_six hy0
  obtain ⟨s, hs, es⟩ := open_six hy1
  obtain ⟨t, ht, _⟩ := o.int (i := 2) rfl Try.underlying3 zzi
  rw [zz6] at ed es
  refine ⟨⟨d, s, t⟩, ?_, hd, hs⟩
  show cs = bcs d ++ (bcs s ++ [.int .i64 t])
  rw [← ed, ← es]
  have e3 : cs.drop 12 = [.int .i64 t] := by
    refine list_is (by rw [List.length_drop, hl]; rfl) fun j u hj => ?_
    match j, hj with
    | 0, hj => cases hj; rw [List.getElem?_drop]; exact ht
    | j + 1, hj => simp at hj
  rw [← e3, List.drop_zero, show cs.drop 12 = (cs.drop 6).drop 6 by rw [List.drop_drop], List.take_append_drop, List.take_append_drop]
theorem open_ip {n : Nat} {cs : List Value} {r : DataW H × List MemPlace} (h : DataW.trod enc Try.prog W 0 (fun _ => true) true n 28 cs = some r) : ∃ x : IpV, cs = x.cs ∧ (0 ≤ x.src ∧ x.src ≤ 4294967295) ∧ (0 ≤ x.dst ∧ x.dst ≤ 4294967295) ∧ x.o.size ≤ maxLen := by
  obtain ⟨m, o⟩ := opn (l := [(0, 3), (1, 3), (2, 4), (3, 4), (4, 3), (5, 3), (6, 3), (7, 22), (8, 22), (9, 9)]) (by kernel_rfl) (by kernel_rfl) h
  have hl : cs.length = 10 := o.len.trans (by kernel_rfl)
  obtain ⟨x0, h0, _⟩ := o.int (i := 0) rfl Try.underlying3 zzi
  obtain ⟨x1, h1, _⟩ := o.int (i := 1) rfl Try.underlying3 zzi
  obtain ⟨x2, h2⟩ := o.bool (i := 2) rfl Try.underlying4 zzb
  obtain ⟨x3, h3⟩ := o.bool (i := 3) rfl Try.underlying4 zzb
  obtain ⟨x4, h4, _⟩ := o.int (i := 4) rfl Try.underlying3 zzi
  obtain ⟨x5, h5, _⟩ := o.int (i := 5) rfl Try.underlying3 zzi
  obtain ⟨x6, h6, _⟩ := o.int (i := 6) rfl Try.underlying3 zzi
  obtain ⟨x7, h7, u7⟩ := o.int (i := 7) rfl Try.underlying22 zzu
  obtain ⟨x8, h8, u8⟩ := o.int (i := 8) rfl Try.underlying22 zzu
  obtain ⟨x9, h9, u9⟩ := o.str (i := 9) rfl Try.underlying9 zzs
  refine ⟨⟨x0, x1, x2, x3, x4, x5, x6, x7, x8, x9⟩, list_is (by rw [hl]; rfl) fun j u hj => ?_, bounds_u32 u7, bounds_u32 u8, u9⟩
  match j, hj with
  | 0, hj => cases hj; exact h0
  | 1, hj => cases hj; exact h1
  | 2, hj => cases hj; exact h2
  | 3, hj => cases hj; exact h3
  | 4, hj => cases hj; exact h4
  | 5, hj => cases hj; exact h5
  | 6, hj => cases hj; exact h6
  | 7, hj => cases hj; exact h7
  | 8, hj => cases hj; exact h8
  | 9, hj => cases hj; exact h9
  | j + 10, hj => simp [IpV.cs] at hj
theorem open_seg {n : Nat} {cs : List Value} {r : DataW H × List MemPlace} (h : DataW.trod enc Try.prog W 0 (fun _ => true) true n 26 cs = some r) : ∃ x : SegV, cs = x.cs ∧ (0 ≤ x.seq ∧ x.seq ≤ 4294967295) ∧ (0 ≤ x.ack ∧ x.ack ≤ 4294967295) ∧ x.o.size ≤ maxLen := by
  obtain ⟨m, o⟩ := opn (l := [(0, 3), (1, 3), (2, 22), (3, 22), (4, 3), (5, 3), (6, 9)]) (by kernel_rfl) (by kernel_rfl) h
  have hl : cs.length = 7 := o.len.trans (by kernel_rfl)
  obtain ⟨x0, h0, _⟩ := o.int (i := 0) rfl Try.underlying3 zzi
  obtain ⟨x1, h1, _⟩ := o.int (i := 1) rfl Try.underlying3 zzi
  obtain ⟨x2, h2, u2⟩ := o.int (i := 2) rfl Try.underlying22 zzu
  obtain ⟨x3, h3, u3⟩ := o.int (i := 3) rfl Try.underlying22 zzu
  obtain ⟨x4, h4, _⟩ := o.int (i := 4) rfl Try.underlying3 zzi
  obtain ⟨x5, h5, _⟩ := o.int (i := 5) rfl Try.underlying3 zzi
  obtain ⟨x6, h6, u6⟩ := o.str (i := 6) rfl Try.underlying9 zzs
  refine ⟨⟨x0, x1, x2, x3, x4, x5, x6⟩, list_is (by rw [hl]; rfl) fun j u hj => ?_, bounds_u32 u2, bounds_u32 u3, u6⟩
  match j, hj with
  | 0, hj => cases hj; exact h0
  | 1, hj => cases hj; exact h1
  | 2, hj => cases hj; exact h2
  | 3, hj => cases hj; exact h3
  | 4, hj => cases hj; exact h4
  | 5, hj => cases hj; exact h5
  | 6, hj => cases hj; exact h6
  | j + 7, hj => simp [SegV.cs] at hj
theorem open_api_Eth {cs : Array Value} {d : DataW H} {ps : List MemPlace} (h : DataW.Trod enc Try.prog W 0 (fun _ => true) true 33 (.agg cs) d ps) : ∃ x : EthV, cs = x.cs.toArray ∧ x.Ok := by
  obtain ⟨fuel, hf⟩ := h
  have hf : DataW.trod enc Try.prog W 0 (fun _ => true) true fuel 33 cs.toList = some (d, ps) := hf
  obtain ⟨x, hx, hp⟩ := open_eth hf
  exact ⟨x, by rw [← hx], hp⟩
theorem open_api_IP {cs : Array Value} {d : DataW H} {ps : List MemPlace} (h : DataW.Trod enc Try.prog W 0 (fun _ => true) true 28 (.agg cs) d ps) : ∃ x : IpV, cs = x.cs.toArray ∧ (0 ≤ x.src ∧ x.src ≤ 4294967295) ∧ (0 ≤ x.dst ∧ x.dst ≤ 4294967295) ∧ x.o.size ≤ maxLen := by
  obtain ⟨fuel, hf⟩ := h
  have hf : DataW.trod enc Try.prog W 0 (fun _ => true) true fuel 28 cs.toList = some (d, ps) := hf
  obtain ⟨x, hx, hp⟩ := open_ip hf
  exact ⟨x, by rw [← hx], hp⟩
theorem open_api_Seg {cs : Array Value} {d : DataW H} {ps : List MemPlace} (h : DataW.Trod enc Try.prog W 0 (fun _ => true) true 26 (.agg cs) d ps) : ∃ x : SegV, cs = x.cs.toArray ∧ (0 ≤ x.seq ∧ x.seq ≤ 4294967295) ∧ (0 ≤ x.ack ∧ x.ack ≤ 4294967295) ∧ x.o.size ≤ maxLen := by
  obtain ⟨fuel, hf⟩ := h
  have hf : DataW.trod enc Try.prog W 0 (fun _ => true) true fuel 26 cs.toList = some (d, ps) := hf
  obtain ⟨x, hx, hp⟩ := open_seg hf
  exact ⟨x, by rw [← hx], hp⟩
end
theorem back_law (e : EthV) (i : IpV) (h : SegV) (body : ByteArray) (w : World) (h0 : e.Ok) (h1 : (0 ≤ i.src ∧ i.src ≤ 4294967295) ∧ (0 ≤ i.dst ∧ i.dst ≤ 4294967295) ∧ i.o.size ≤ maxLen) (h2 : (0 ≤ h.seq ∧ h.seq ≤ 4294967295) ∧ (0 ≤ h.ack ∧ h.ack ≤ 4294967295) ∧ h.o.size ≤ maxLen) (_ : body.size ≤ 140737488351232) :
    Calls Try.prog 4 #[.agg e.cs.toArray, .agg i.cs.toArray, .agg h.cs.toArray, .string body] w (Yes w) :=
  backlaw_walk e i h body w h0 h1.1 h1.2.1 h2.1 h2.2.1
end Go.Proofs.Ytbidgeaigiijpaa
