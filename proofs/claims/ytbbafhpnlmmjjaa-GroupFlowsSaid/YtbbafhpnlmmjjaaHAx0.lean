/- What is proved: each Go function of this text answers as the plain Lean function beside it (a law: its given row, out of the plain statement). Conditions: those that stand in each theorem. Written by my drive.py, which calls the printer of the kit for what that covers. -/
import Derived.Test.YtbbafhpnlmmjjaaProg
import Derived.Below
import Derived.Deep.Draws
import Derived.Deep.AppendLies
import Derived.Maps.AppendAt
import Derived.OwnWalk
import Derived.Laws.BytesArg
import Derived.Laws.MakeOwn
import Derived.Laws.OwnMore
import Derived.Deep.OwnRows
import Derived.Tactics
import Derived.Lib.ConvBytes
import Derived.Laws.Slices
import Derived.WalkKit
import Derived.KernelRfl
import Derived.RowKit3
import Derived.Deep.LoopGhost
import Derived.Deep.QuietTactic
import Derived.BigQuiet
import Derived.WideLaws
import Derived.Deep.DeepCutAuto
import Derived.Deep.CutBlock
import Derived.Deep.RegionHeld3
import Derived.Laws.Rows
import Derived.Lib.AppendStr
import Derived.ArgAppend
import Derived.Laws.IdiomCopy
import Derived.OrdersHeld
import Derived.Laws.BitsLemmas
import Derived.RowKit
import Derived.LoopTactic
import Derived.Laws.CopyOwn
import Derived.Laws.Tables
import Derived.Laws.EntriesVeiled
import Derived.Lib.LazyBuf
import Derived.Laws.IdiomStrings
import Derived.Lib.Strings
import Derived.Test.YtbbafhpnlmmjjaaWWords
import Derived.Test.YtbbafhpnlmmjjaaWLast
import Derived.Test.YtbbafhpnlmmjjaaWTab
import Derived.Test.YtbbafhpnlmmjjaaWRepsOne
import Derived.Test.YtbbafhpnlmmjjaaWGuard
import Derived.Test.YtbbafhpnlmmjjaaWMore
namespace Go.Proofs.Ytbbafhpnlmmjjaa.HA
open Go.RowKit Go.Proofs.YtbbafhpnlmmjjaaW.PrintWords Go.Proofs.YtbbafhpnlmmjjaaW.PrintLast Go.Proofs.YtbbafhpnlmmjjaaW.PrintMore
attribute [local go_sem] max2_int min2_int max_two min_two max_three min_three max_four min_four   -- for this text's walks alone
set_option linter.unusedVariables false
set_option linter.unusedSimpArgs false



def errW : Option Int → Value
 | none => .nilIface
 | some c => .iface 0 (.int .i64 c)
theorem errW_none : errW none = .nilIface := rfl
theorem errW_some (c : Int) : errW (some c) = .iface 0 (.int .i64 c) := rfl

theorem info3 : (Try.prog.info? 3).map (fun i => (i.zero, i.size, i.bytes)) = some (some (.int .i64 0), 1, 8) := by kernel_rfl
theorem info37 : (Try.prog.info? 37).map (fun i => (i.zero, i.size, i.bytes)) = some (some (.agg #[(.int .i64 0), (.int .i64 0), (.bool false), (.slice none 0 0), (.bool false), (.slice none 0 0), (.bool false), (.slice none 0 0), (.bool false), (.slice none 0 0), (.bool false), (.int .i64 0), (.slice none 0 0), (.int .i64 0), (.int .i64 0)]), 15, 200) := by kernel_rfl
theorem info48 : (Try.prog.info? 48).map (fun i => (i.zero, i.size, i.bytes)) = some (some (.agg #[(.int .u32 0), (.int .i64 0)]), 2, 16) := by kernel_rfl
theorem info50 : (Try.prog.info? 50).map (fun i => (i.zero, i.size, i.bytes)) = some (some (.agg #[(.int .i64 0), (.int .i64 0)]), 2, 16) := by kernel_rfl
-- the values' own types
/-! #### struct type 48 -/
structure S48 where
 f0 : Int
 f1 : Int
def z48 : S48 := ⟨(0 : Int), (0 : Int)⟩
def k48 : Kd S48 := Kd.iso (Kd.pair (Kd.int .u32) (Kd.int .i64)) (fun x : S48 => (x.f0, x.f1))
theorem k48_open {w : World} {x : S48} {cs : List Value} (h : k48.K w x cs) : cs = [.int .u32 x.f0, .int .i64 x.f1] := by
 obtain ⟨_, _, rfl, rfl, rfl⟩ := h
 exact rfl
theorem k48_openM {w : World} {base : Nat} {ok : Nat → Prop} {x : S48} {cs : List Value} (h : k48.M w base ok x cs) : cs = [.int .u32 x.f0, .int .i64 x.f1] := by
 obtain ⟨_, _, rfl, rfl, rfl⟩ := h
 exact rfl
theorem k48_mk (w : World) (x : S48)  : k48.K w x [.int .u32 x.f0, .int .i64 x.f1] := ⟨[.int .u32 x.f0], [.int .i64 x.f1], rfl, rfl, rfl⟩
theorem k48_mkM (w : World) (base : Nat) (ok : Nat → Prop) (x : S48)  : k48.M w base ok x [.int .u32 x.f0, .int .i64 x.f1] := ⟨[.int .u32 x.f0], [.int .i64 x.f1], rfl, rfl, rfl⟩
theorem k48_mkF (W : World) (ok : Nat → Prop) (x : S48) : Kd.FK k48 W ok x [.int .u32 x.f0, .int .i64 x.f1] := fun W2 _ => k48_mk W2 x
def rd_T48 (xs : List S48) (i : Int) : S48 := xs.getD i.toNat z48
theorem at_T48 {w : World} {A : Option Addr} {n : Nat} {xs : List S48} (h : Kd.C k48 w A n xs) (i : Int) (h0 : 0 ≤ i) (h1 : i < n) : ∃ ad , A = some ad ∧ w.cell? (ad.add (i.toNat * 2)) = some (.int .u32 (rd_T48 xs i).f0) ∧ w.cell? ⟨(ad.add (i.toNat * 2)).block, (ad.add (i.toNat * 2)).off + 1, none⟩ = some (.int .i64 (rd_T48 xs i).f1) := by
 obtain ⟨ad, c, e, _, hK, hc0⟩ := Kd.C_get h z48 i h0 h1
 have hc : ∀ j u, c[j]? = some u → w.cell? (ad.add (i.toNat * 2 + j)) = some u := hc0
 obtain rfl := k48_open hK
 exact ⟨ad, e, hc 0 _ rfl, by rw [← add_field _ _ 1 (by omega)]; exact hc 1 _ rfl⟩

/-! #### struct type 50 -/
structure S50 where
 f0 : Int
 f1 : Int
def z50 : S50 := ⟨(0 : Int), (0 : Int)⟩
def k50 : Kd S50 := Kd.iso (Kd.pair (Kd.int .i64) (Kd.int .i64)) (fun x : S50 => (x.f0, x.f1))
theorem k50_open {w : World} {x : S50} {cs : List Value} (h : k50.K w x cs) : cs = [.int .i64 x.f0, .int .i64 x.f1] := by
 obtain ⟨_, _, rfl, rfl, rfl⟩ := h
 exact rfl
theorem k50_openM {w : World} {base : Nat} {ok : Nat → Prop} {x : S50} {cs : List Value} (h : k50.M w base ok x cs) : cs = [.int .i64 x.f0, .int .i64 x.f1] := by
 obtain ⟨_, _, rfl, rfl, rfl⟩ := h
 exact rfl
theorem k50_mk (w : World) (x : S50)  : k50.K w x [.int .i64 x.f0, .int .i64 x.f1] := ⟨[.int .i64 x.f0], [.int .i64 x.f1], rfl, rfl, rfl⟩
theorem k50_mkM (w : World) (base : Nat) (ok : Nat → Prop) (x : S50)  : k50.M w base ok x [.int .i64 x.f0, .int .i64 x.f1] := ⟨[.int .i64 x.f0], [.int .i64 x.f1], rfl, rfl, rfl⟩
theorem k50_mkF (W : World) (ok : Nat → Prop) (x : S50) : Kd.FK k50 W ok x [.int .i64 x.f0, .int .i64 x.f1] := fun W2 _ => k50_mk W2 x
def rd_T50 (xs : List S50) (i : Int) : S50 := xs.getD i.toNat z50
theorem at_T50 {w : World} {A : Option Addr} {n : Nat} {xs : List S50} (h : Kd.C k50 w A n xs) (i : Int) (h0 : 0 ≤ i) (h1 : i < n) : ∃ ad , A = some ad ∧ w.cell? (ad.add (i.toNat * 2)) = some (.int .i64 (rd_T50 xs i).f0) ∧ w.cell? ⟨(ad.add (i.toNat * 2)).block, (ad.add (i.toNat * 2)).off + 1, none⟩ = some (.int .i64 (rd_T50 xs i).f1) := by
 obtain ⟨ad, c, e, _, hK, hc0⟩ := Kd.C_get h z50 i h0 h1
 have hc : ∀ j u, c[j]? = some u → w.cell? (ad.add (i.toNat * 2 + j)) = some u := hc0
 obtain rfl := k50_open hK
 exact ⟨ad, e, hc 0 _ rfl, by rw [← add_field _ _ 1 (by omega)]; exact hc 1 _ rfl⟩

/-! #### struct type 54 -/
structure S54 where
 f0 : ByteArray
 f1 : Bool
 f2 : Bool
 f3 : Int
 f4 : Int
 f5 : Bool
 f6 : Int
 f7 : Int
def z54 : S54 := ⟨(⟨#[]⟩ : ByteArray), false, false, (0 : Int), (0 : Int), false, (0 : Int), (0 : Int)⟩
def k54 : Kd S54 := Kd.iso (Kd.pair Kd.string (Kd.pair Kd.bool (Kd.pair Kd.bool (Kd.pair (Kd.int .i64) (Kd.pair (Kd.int .i64) (Kd.pair Kd.bool (Kd.pair (Kd.int .i64) (Kd.int .i64)))))))) (fun x : S54 => (x.f0, x.f1, x.f2, x.f3, x.f4, x.f5, x.f6, x.f7))
theorem k54_open {w : World} {x : S54} {cs : List Value} (h : k54.K w x cs) : cs = [.string x.f0, .bool x.f1, .bool x.f2, .int .i64 x.f3, .int .i64 x.f4, .bool x.f5, .int .i64 x.f6, .int .i64 x.f7] := by
 obtain ⟨_, _, rfl, rfl, ⟨_, _, rfl, rfl, ⟨_, _, rfl, rfl, ⟨_, _, rfl, rfl, ⟨_, _, rfl, rfl, ⟨_, _, rfl, rfl, ⟨_, _, rfl, rfl, rfl⟩⟩⟩⟩⟩⟩⟩ := h
 exact rfl
theorem k54_openM {w : World} {base : Nat} {ok : Nat → Prop} {x : S54} {cs : List Value} (h : k54.M w base ok x cs) : cs = [.string x.f0, .bool x.f1, .bool x.f2, .int .i64 x.f3, .int .i64 x.f4, .bool x.f5, .int .i64 x.f6, .int .i64 x.f7] := by
 obtain ⟨_, _, rfl, rfl, ⟨_, _, rfl, rfl, ⟨_, _, rfl, rfl, ⟨_, _, rfl, rfl, ⟨_, _, rfl, rfl, ⟨_, _, rfl, rfl, ⟨_, _, rfl, rfl, rfl⟩⟩⟩⟩⟩⟩⟩ := h
 exact rfl
theorem k54_mk (w : World) (x : S54)  : k54.K w x [.string x.f0, .bool x.f1, .bool x.f2, .int .i64 x.f3, .int .i64 x.f4, .bool x.f5, .int .i64 x.f6, .int .i64 x.f7] := ⟨[.string x.f0], [.bool x.f1, .bool x.f2, .int .i64 x.f3, .int .i64 x.f4, .bool x.f5, .int .i64 x.f6, .int .i64 x.f7], rfl, rfl, ⟨[.bool x.f1], [.bool x.f2, .int .i64 x.f3, .int .i64 x.f4, .bool x.f5, .int .i64 x.f6, .int .i64 x.f7], rfl, rfl, ⟨[.bool x.f2], [.int .i64 x.f3, .int .i64 x.f4, .bool x.f5, .int .i64 x.f6, .int .i64 x.f7], rfl, rfl, ⟨[.int .i64 x.f3], [.int .i64 x.f4, .bool x.f5, .int .i64 x.f6, .int .i64 x.f7], rfl, rfl, ⟨[.int .i64 x.f4], [.bool x.f5, .int .i64 x.f6, .int .i64 x.f7], rfl, rfl, ⟨[.bool x.f5], [.int .i64 x.f6, .int .i64 x.f7], rfl, rfl, ⟨[.int .i64 x.f6], [.int .i64 x.f7], rfl, rfl, rfl⟩⟩⟩⟩⟩⟩⟩
theorem k54_mkM (w : World) (base : Nat) (ok : Nat → Prop) (x : S54)  : k54.M w base ok x [.string x.f0, .bool x.f1, .bool x.f2, .int .i64 x.f3, .int .i64 x.f4, .bool x.f5, .int .i64 x.f6, .int .i64 x.f7] := ⟨[.string x.f0], [.bool x.f1, .bool x.f2, .int .i64 x.f3, .int .i64 x.f4, .bool x.f5, .int .i64 x.f6, .int .i64 x.f7], rfl, rfl, ⟨[.bool x.f1], [.bool x.f2, .int .i64 x.f3, .int .i64 x.f4, .bool x.f5, .int .i64 x.f6, .int .i64 x.f7], rfl, rfl, ⟨[.bool x.f2], [.int .i64 x.f3, .int .i64 x.f4, .bool x.f5, .int .i64 x.f6, .int .i64 x.f7], rfl, rfl, ⟨[.int .i64 x.f3], [.int .i64 x.f4, .bool x.f5, .int .i64 x.f6, .int .i64 x.f7], rfl, rfl, ⟨[.int .i64 x.f4], [.bool x.f5, .int .i64 x.f6, .int .i64 x.f7], rfl, rfl, ⟨[.bool x.f5], [.int .i64 x.f6, .int .i64 x.f7], rfl, rfl, ⟨[.int .i64 x.f6], [.int .i64 x.f7], rfl, rfl, rfl⟩⟩⟩⟩⟩⟩⟩
theorem k54_mkF (W : World) (ok : Nat → Prop) (x : S54) : Kd.FK k54 W ok x [.string x.f0, .bool x.f1, .bool x.f2, .int .i64 x.f3, .int .i64 x.f4, .bool x.f5, .int .i64 x.f6, .int .i64 x.f7] := fun W2 _ => k54_mk W2 x
def rd_T54 (xs : List S54) (i : Int) : S54 := xs.getD i.toNat z54
theorem at_T54 {w : World} {A : Option Addr} {n : Nat} {xs : List S54} (h : Kd.C k54 w A n xs) (i : Int) (h0 : 0 ≤ i) (h1 : i < n) : ∃ ad , A = some ad ∧ w.cell? (ad.add (i.toNat * 8)) = some (.string (rd_T54 xs i).f0) ∧ w.cell? ⟨(ad.add (i.toNat * 8)).block, (ad.add (i.toNat * 8)).off + 1, none⟩ = some (.bool (rd_T54 xs i).f1) ∧ w.cell? ⟨(ad.add (i.toNat * 8)).block, (ad.add (i.toNat * 8)).off + 2, none⟩ = some (.bool (rd_T54 xs i).f2) ∧ w.cell? ⟨(ad.add (i.toNat * 8)).block, (ad.add (i.toNat * 8)).off + 3, none⟩ = some (.int .i64 (rd_T54 xs i).f3) ∧ w.cell? ⟨(ad.add (i.toNat * 8)).block, (ad.add (i.toNat * 8)).off + 4, none⟩ = some (.int .i64 (rd_T54 xs i).f4) ∧ w.cell? ⟨(ad.add (i.toNat * 8)).block, (ad.add (i.toNat * 8)).off + 5, none⟩ = some (.bool (rd_T54 xs i).f5) ∧ w.cell? ⟨(ad.add (i.toNat * 8)).block, (ad.add (i.toNat * 8)).off + 6, none⟩ = some (.int .i64 (rd_T54 xs i).f6) ∧ w.cell? ⟨(ad.add (i.toNat * 8)).block, (ad.add (i.toNat * 8)).off + 7, none⟩ = some (.int .i64 (rd_T54 xs i).f7) := by
 obtain ⟨ad, c, e, _, hK, hc0⟩ := Kd.C_get h z54 i h0 h1
 have hc : ∀ j u, c[j]? = some u → w.cell? (ad.add (i.toNat * 8 + j)) = some u := hc0
 obtain rfl := k54_open hK
 exact ⟨ad, e, hc 0 _ rfl, by rw [← add_field _ _ 1 (by omega)]; exact hc 1 _ rfl, by rw [← add_field _ _ 2 (by omega)]; exact hc 2 _ rfl, by rw [← add_field _ _ 3 (by omega)]; exact hc 3 _ rfl, by rw [← add_field _ _ 4 (by omega)]; exact hc 4 _ rfl, by rw [← add_field _ _ 5 (by omega)]; exact hc 5 _ rfl, by rw [← add_field _ _ 6 (by omega)]; exact hc 6 _ rfl, by rw [← add_field _ _ 7 (by omega)]; exact hc 7 _ rfl⟩

def rd_L7 (xs : List (List S48)) (i : Int) : (List S48) := xs.getD i.toNat ([] : List S48)
theorem at_L7 {w : World} {A : Option Addr} {n : Nat} {xs : List (List S48)} (h : Kd.C (Kd.slice 48 k48) w A n xs) (i : Int) (h0 : 0 ≤ i) (h1 : i < n) : ∃ ad A0 c0, A = some ad ∧ w.cell? (ad.add i.toNat) = some (.slice A0 (rd_L7 xs i).length c0) ∧ (rd_L7 xs i).length ≤ c0 ∧ k48.C w A0 (rd_L7 xs i).length (rd_L7 xs i) := by
 obtain ⟨ad, c, e, _, hK, hc0⟩ := Kd.C_get h ([] : List S48) i h0 h1
 have hc : ∀ j u, c[j]? = some u → w.cell? (ad.add (i.toNat * 1 + j)) = some u := hc0
 obtain ⟨A0, c0, rfl, l0, g0⟩ := hK
 exact ⟨ad, A0, c0, e, by have hq := hc 0 _ rfl; rwa [Nat.mul_one, Nat.add_zero] at hq, l0, g0⟩

/-! #### struct type 31 -/
structure S31 where
 f0 : Bool
 f1 : (List S48)
def z31 : S31 := ⟨false, ([] : List S48)⟩
def k31 : Kd S31 := Kd.iso (Kd.pair Kd.bool (Kd.slice 48 k48)) (fun x : S31 => (x.f0, x.f1))
theorem k31_open {w : World} {x : S31} {cs : List Value} (h : k31.K w x cs) : ∃ A1 c1, cs = [.bool x.f0, .slice A1 x.f1.length c1] ∧ x.f1.length ≤ c1 ∧ k48.C w A1 x.f1.length x.f1 := by
 obtain ⟨_, _, rfl, rfl, ⟨A1, c1, rfl, l1, g1⟩⟩ := h
 exact ⟨A1, c1, rfl, l1, g1⟩
theorem k31_openM {w : World} {base : Nat} {ok : Nat → Prop} {x : S31} {cs : List Value} (h : k31.M w base ok x cs) : ∃ v1, cs = [.bool x.f0, v1] ∧ k48.R 48 w base ok v1 x.f1 := by
 obtain ⟨_, _, rfl, rfl, ⟨v1, rfl, g1⟩⟩ := h
 exact ⟨v1, rfl, g1⟩
theorem k31_mk (w : World) (x : S31) {A1 : Option Addr} {c1 : Nat} (l1 : x.f1.length ≤ c1) (g1 : k48.C w A1 x.f1.length x.f1) : k31.K w x [.bool x.f0, .slice A1 x.f1.length c1] := ⟨[.bool x.f0], [.slice A1 x.f1.length c1], rfl, rfl, ⟨A1, c1, rfl, l1, g1⟩⟩
theorem k31_mkM (w : World) (base : Nat) (ok : Nat → Prop) (x : S31) {v1 : Value} (g1 : k48.R 48 w base ok v1 x.f1) : k31.M w base ok x [.bool x.f0, v1] := ⟨[.bool x.f0], [v1], rfl, rfl, ⟨v1, rfl, g1⟩⟩
theorem k31_openF {W : World} {ok : Nat → Prop} {x : S31} {cs : List Value} (h : Kd.FK k31 W ok x cs) : ∃ A1 c1, cs = [.bool x.f0, .slice A1 x.f1.length c1] ∧ x.f1.length ≤ c1 ∧ Kd.F k48 W ok A1 x.f1.length x.f1 := by
 obtain ⟨A1, c1, rfl, l1, _⟩ := k31_open (Kd.FK_now h)
 exact ⟨A1, c1, rfl, l1, (fun W' hW => by obtain ⟨A1_, c1_, he, l1_, g1_⟩ := k31_open (h W' hW); injection (Option.some.inj (show some (Value.slice A1 x.f1.length c1) = some (Value.slice A1_ x.f1.length c1_) from congrArg (fun l => l[1]?) he)) with ha_ _ _; rw [ha_]; exact g1_)⟩
theorem k31_mkF (W : World) (ok : Nat → Prop) (x : S31) {A1 : Option Addr} {c1 : Nat} (l1 : x.f1.length ≤ c1) (g1 : Kd.F k48 W ok A1 x.f1.length x.f1) : Kd.FK k31 W ok x [.bool x.f0, .slice A1 x.f1.length c1] := fun W2 hW => k31_mk W2 x l1 (g1 W2 hW)
def rd_T31 (xs : List S31) (i : Int) : S31 := xs.getD i.toNat z31
theorem at_T31 {w : World} {A : Option Addr} {n : Nat} {xs : List S31} (h : Kd.C k31 w A n xs) (i : Int) (h0 : 0 ≤ i) (h1 : i < n) : ∃ ad A1 c1, A = some ad ∧ w.cell? (ad.add (i.toNat * 2)) = some (.bool (rd_T31 xs i).f0) ∧ w.cell? ⟨(ad.add (i.toNat * 2)).block, (ad.add (i.toNat * 2)).off + 1, none⟩ = some (.slice A1 (rd_T31 xs i).f1.length c1) ∧ (rd_T31 xs i).f1.length ≤ c1 ∧ k48.C w A1 (rd_T31 xs i).f1.length (rd_T31 xs i).f1 := by
 obtain ⟨ad, c, e, _, hK, hc0⟩ := Kd.C_get h z31 i h0 h1
 have hc : ∀ j u, c[j]? = some u → w.cell? (ad.add (i.toNat * 2 + j)) = some u := hc0
 obtain ⟨A1, c1, rfl, l1, g1⟩ := k31_open hK
 exact ⟨ad, A1, c1, e, hc 0 _ rfl, by rw [← add_field _ _ 1 (by omega)]; exact hc 1 _ rfl, l1, g1⟩

def rd_L9 (xs : List (List S50)) (i : Int) : (List S50) := xs.getD i.toNat ([] : List S50)
theorem at_L9 {w : World} {A : Option Addr} {n : Nat} {xs : List (List S50)} (h : Kd.C (Kd.slice 50 k50) w A n xs) (i : Int) (h0 : 0 ≤ i) (h1 : i < n) : ∃ ad A0 c0, A = some ad ∧ w.cell? (ad.add i.toNat) = some (.slice A0 (rd_L9 xs i).length c0) ∧ (rd_L9 xs i).length ≤ c0 ∧ k50.C w A0 (rd_L9 xs i).length (rd_L9 xs i) := by
 obtain ⟨ad, c, e, _, hK, hc0⟩ := Kd.C_get h ([] : List S50) i h0 h1
 have hc : ∀ j u, c[j]? = some u → w.cell? (ad.add (i.toNat * 1 + j)) = some u := hc0
 obtain ⟨A0, c0, rfl, l0, g0⟩ := hK
 exact ⟨ad, A0, c0, e, by have hq := hc 0 _ rfl; rwa [Nat.mul_one, Nat.add_zero] at hq, l0, g0⟩

/-! #### struct type 34 -/
structure S34 where
 f0 : Bool
 f1 : (List S50)
def z34 : S34 := ⟨false, ([] : List S50)⟩
def k34 : Kd S34 := Kd.iso (Kd.pair Kd.bool (Kd.slice 50 k50)) (fun x : S34 => (x.f0, x.f1))
theorem k34_open {w : World} {x : S34} {cs : List Value} (h : k34.K w x cs) : ∃ A1 c1, cs = [.bool x.f0, .slice A1 x.f1.length c1] ∧ x.f1.length ≤ c1 ∧ k50.C w A1 x.f1.length x.f1 := by
 obtain ⟨_, _, rfl, rfl, ⟨A1, c1, rfl, l1, g1⟩⟩ := h
 exact ⟨A1, c1, rfl, l1, g1⟩
theorem k34_openM {w : World} {base : Nat} {ok : Nat → Prop} {x : S34} {cs : List Value} (h : k34.M w base ok x cs) : ∃ v1, cs = [.bool x.f0, v1] ∧ k50.R 50 w base ok v1 x.f1 := by
 obtain ⟨_, _, rfl, rfl, ⟨v1, rfl, g1⟩⟩ := h
 exact ⟨v1, rfl, g1⟩
theorem k34_mk (w : World) (x : S34) {A1 : Option Addr} {c1 : Nat} (l1 : x.f1.length ≤ c1) (g1 : k50.C w A1 x.f1.length x.f1) : k34.K w x [.bool x.f0, .slice A1 x.f1.length c1] := ⟨[.bool x.f0], [.slice A1 x.f1.length c1], rfl, rfl, ⟨A1, c1, rfl, l1, g1⟩⟩
theorem k34_mkM (w : World) (base : Nat) (ok : Nat → Prop) (x : S34) {v1 : Value} (g1 : k50.R 50 w base ok v1 x.f1) : k34.M w base ok x [.bool x.f0, v1] := ⟨[.bool x.f0], [v1], rfl, rfl, ⟨v1, rfl, g1⟩⟩
theorem k34_openF {W : World} {ok : Nat → Prop} {x : S34} {cs : List Value} (h : Kd.FK k34 W ok x cs) : ∃ A1 c1, cs = [.bool x.f0, .slice A1 x.f1.length c1] ∧ x.f1.length ≤ c1 ∧ Kd.F k50 W ok A1 x.f1.length x.f1 := by
 obtain ⟨A1, c1, rfl, l1, _⟩ := k34_open (Kd.FK_now h)
 exact ⟨A1, c1, rfl, l1, (fun W' hW => by obtain ⟨A1_, c1_, he, l1_, g1_⟩ := k34_open (h W' hW); injection (Option.some.inj (show some (Value.slice A1 x.f1.length c1) = some (Value.slice A1_ x.f1.length c1_) from congrArg (fun l => l[1]?) he)) with ha_ _ _; rw [ha_]; exact g1_)⟩
theorem k34_mkF (W : World) (ok : Nat → Prop) (x : S34) {A1 : Option Addr} {c1 : Nat} (l1 : x.f1.length ≤ c1) (g1 : Kd.F k50 W ok A1 x.f1.length x.f1) : Kd.FK k34 W ok x [.bool x.f0, .slice A1 x.f1.length c1] := fun W2 hW => k34_mk W2 x l1 (g1 W2 hW)
def rd_T34 (xs : List S34) (i : Int) : S34 := xs.getD i.toNat z34
theorem at_T34 {w : World} {A : Option Addr} {n : Nat} {xs : List S34} (h : Kd.C k34 w A n xs) (i : Int) (h0 : 0 ≤ i) (h1 : i < n) : ∃ ad A1 c1, A = some ad ∧ w.cell? (ad.add (i.toNat * 2)) = some (.bool (rd_T34 xs i).f0) ∧ w.cell? ⟨(ad.add (i.toNat * 2)).block, (ad.add (i.toNat * 2)).off + 1, none⟩ = some (.slice A1 (rd_T34 xs i).f1.length c1) ∧ (rd_T34 xs i).f1.length ≤ c1 ∧ k50.C w A1 (rd_T34 xs i).f1.length (rd_T34 xs i).f1 := by
 obtain ⟨ad, c, e, _, hK, hc0⟩ := Kd.C_get h z34 i h0 h1
 have hc : ∀ j u, c[j]? = some u → w.cell? (ad.add (i.toNat * 2 + j)) = some u := hc0
 obtain ⟨A1, c1, rfl, l1, g1⟩ := k34_open hK
 exact ⟨ad, A1, c1, e, hc 0 _ rfl, by rw [← add_field _ _ 1 (by omega)]; exact hc 1 _ rfl, l1, g1⟩

def rd_L11 (xs : List (List S54)) (i : Int) : (List S54) := xs.getD i.toNat ([] : List S54)
theorem at_L11 {w : World} {A : Option Addr} {n : Nat} {xs : List (List S54)} (h : Kd.C (Kd.slice 54 k54) w A n xs) (i : Int) (h0 : 0 ≤ i) (h1 : i < n) : ∃ ad A0 c0, A = some ad ∧ w.cell? (ad.add i.toNat) = some (.slice A0 (rd_L11 xs i).length c0) ∧ (rd_L11 xs i).length ≤ c0 ∧ k54.C w A0 (rd_L11 xs i).length (rd_L11 xs i) := by
 obtain ⟨ad, c, e, _, hK, hc0⟩ := Kd.C_get h ([] : List S54) i h0 h1
 have hc : ∀ j u, c[j]? = some u → w.cell? (ad.add (i.toNat * 1 + j)) = some u := hc0
 obtain ⟨A0, c0, rfl, l0, g0⟩ := hK
 exact ⟨ad, A0, c0, e, by have hq := hc 0 _ rfl; rwa [Nat.mul_one, Nat.add_zero] at hq, l0, g0⟩

/-! #### struct type 37 -/
structure S37 where
 f0 : Int
 f1 : Int
 f2 : S31
 f3 : S34
 f4 : S31
 f5 : S34
 f6 : Bool
 f7 : Int
 f8 : (List S54)
 f9 : Int
 f10 : Int
def z37 : S37 := ⟨(0 : Int), (0 : Int), z31, z34, z31, z34, false, (0 : Int), ([] : List S54), (0 : Int), (0 : Int)⟩
def k37 : Kd S37 := Kd.iso (Kd.pair (Kd.int .i64) (Kd.pair (Kd.int .i64) (Kd.pair k31 (Kd.pair k34 (Kd.pair k31 (Kd.pair k34 (Kd.pair Kd.bool (Kd.pair (Kd.int .i64) (Kd.pair (Kd.slice 54 k54) (Kd.pair (Kd.int .i64) (Kd.int .i64))))))))))) (fun x : S37 => (x.f0, x.f1, x.f2, x.f3, x.f4, x.f5, x.f6, x.f7, x.f8, x.f9, x.f10))
theorem k37_open {w : World} {x : S37} {cs : List Value} (h : k37.K w x cs) : ∃ A3 c3 A5 c5 A7 c7 A9 c9 A12 c12, cs = [.int .i64 x.f0, .int .i64 x.f1, .bool x.f2.f0, .slice A3 x.f2.f1.length c3, .bool x.f3.f0, .slice A5 x.f3.f1.length c5, .bool x.f4.f0, .slice A7 x.f4.f1.length c7, .bool x.f5.f0, .slice A9 x.f5.f1.length c9, .bool x.f6, .int .i64 x.f7, .slice A12 x.f8.length c12, .int .i64 x.f9, .int .i64 x.f10] ∧ x.f2.f1.length ≤ c3 ∧ k48.C w A3 x.f2.f1.length x.f2.f1 ∧ x.f3.f1.length ≤ c5 ∧ k50.C w A5 x.f3.f1.length x.f3.f1 ∧ x.f4.f1.length ≤ c7 ∧ k48.C w A7 x.f4.f1.length x.f4.f1 ∧ x.f5.f1.length ≤ c9 ∧ k50.C w A9 x.f5.f1.length x.f5.f1 ∧ x.f8.length ≤ c12 ∧ k54.C w A12 x.f8.length x.f8 := by
 obtain ⟨_, _, rfl, rfl, ⟨_, _, rfl, rfl, ⟨_, _, rfl, s2, ⟨_, _, rfl, s4, ⟨_, _, rfl, s6, ⟨_, _, rfl, s8, ⟨_, _, rfl, rfl, ⟨_, _, rfl, rfl, ⟨_, _, rfl, ⟨A12, c12, rfl, l12, g12⟩, ⟨_, _, rfl, rfl, rfl⟩⟩⟩⟩⟩⟩⟩⟩⟩⟩ := h
 obtain ⟨A3, c3, rfl, l3, g3⟩ := k31_open s2
 obtain ⟨A5, c5, rfl, l5, g5⟩ := k34_open s4
 obtain ⟨A7, c7, rfl, l7, g7⟩ := k31_open s6
 obtain ⟨A9, c9, rfl, l9, g9⟩ := k34_open s8
 exact ⟨A3, c3, A5, c5, A7, c7, A9, c9, A12, c12, rfl, l3, g3, l5, g5, l7, g7, l9, g9, l12, g12⟩
theorem k37_openM {w : World} {base : Nat} {ok : Nat → Prop} {x : S37} {cs : List Value} (h : k37.M w base ok x cs) : ∃ v3 v5 v7 v9 v12, cs = [.int .i64 x.f0, .int .i64 x.f1, .bool x.f2.f0, v3, .bool x.f3.f0, v5, .bool x.f4.f0, v7, .bool x.f5.f0, v9, .bool x.f6, .int .i64 x.f7, v12, .int .i64 x.f9, .int .i64 x.f10] ∧ k48.R 48 w base ok v3 x.f2.f1 ∧ k50.R 50 w base ok v5 x.f3.f1 ∧ k48.R 48 w base ok v7 x.f4.f1 ∧ k50.R 50 w base ok v9 x.f5.f1 ∧ k54.R 54 w base ok v12 x.f8 := by
 obtain ⟨_, _, rfl, rfl, ⟨_, _, rfl, rfl, ⟨_, _, rfl, s2, ⟨_, _, rfl, s4, ⟨_, _, rfl, s6, ⟨_, _, rfl, s8, ⟨_, _, rfl, rfl, ⟨_, _, rfl, rfl, ⟨_, _, rfl, ⟨v12, rfl, g12⟩, ⟨_, _, rfl, rfl, rfl⟩⟩⟩⟩⟩⟩⟩⟩⟩⟩ := h
 obtain ⟨v3, rfl, g3⟩ := k31_openM s2
 obtain ⟨v5, rfl, g5⟩ := k34_openM s4
 obtain ⟨v7, rfl, g7⟩ := k31_openM s6
 obtain ⟨v9, rfl, g9⟩ := k34_openM s8
 exact ⟨v3, v5, v7, v9, v12, rfl, g3, g5, g7, g9, g12⟩
theorem k37_mk (w : World) (x : S37) {A3 : Option Addr} {c3 : Nat} (l3 : x.f2.f1.length ≤ c3) (g3 : k48.C w A3 x.f2.f1.length x.f2.f1) {A5 : Option Addr} {c5 : Nat} (l5 : x.f3.f1.length ≤ c5) (g5 : k50.C w A5 x.f3.f1.length x.f3.f1) {A7 : Option Addr} {c7 : Nat} (l7 : x.f4.f1.length ≤ c7) (g7 : k48.C w A7 x.f4.f1.length x.f4.f1) {A9 : Option Addr} {c9 : Nat} (l9 : x.f5.f1.length ≤ c9) (g9 : k50.C w A9 x.f5.f1.length x.f5.f1) {A12 : Option Addr} {c12 : Nat} (l12 : x.f8.length ≤ c12) (g12 : k54.C w A12 x.f8.length x.f8) : k37.K w x [.int .i64 x.f0, .int .i64 x.f1, .bool x.f2.f0, .slice A3 x.f2.f1.length c3, .bool x.f3.f0, .slice A5 x.f3.f1.length c5, .bool x.f4.f0, .slice A7 x.f4.f1.length c7, .bool x.f5.f0, .slice A9 x.f5.f1.length c9, .bool x.f6, .int .i64 x.f7, .slice A12 x.f8.length c12, .int .i64 x.f9, .int .i64 x.f10] := ⟨[.int .i64 x.f0], [.int .i64 x.f1, .bool x.f2.f0, .slice A3 x.f2.f1.length c3, .bool x.f3.f0, .slice A5 x.f3.f1.length c5, .bool x.f4.f0, .slice A7 x.f4.f1.length c7, .bool x.f5.f0, .slice A9 x.f5.f1.length c9, .bool x.f6, .int .i64 x.f7, .slice A12 x.f8.length c12, .int .i64 x.f9, .int .i64 x.f10], rfl, rfl, ⟨[.int .i64 x.f1], [.bool x.f2.f0, .slice A3 x.f2.f1.length c3, .bool x.f3.f0, .slice A5 x.f3.f1.length c5, .bool x.f4.f0, .slice A7 x.f4.f1.length c7, .bool x.f5.f0, .slice A9 x.f5.f1.length c9, .bool x.f6, .int .i64 x.f7, .slice A12 x.f8.length c12, .int .i64 x.f9, .int .i64 x.f10], rfl, rfl, ⟨[.bool x.f2.f0, .slice A3 x.f2.f1.length c3], [.bool x.f3.f0, .slice A5 x.f3.f1.length c5, .bool x.f4.f0, .slice A7 x.f4.f1.length c7, .bool x.f5.f0, .slice A9 x.f5.f1.length c9, .bool x.f6, .int .i64 x.f7, .slice A12 x.f8.length c12, .int .i64 x.f9, .int .i64 x.f10], rfl, (k31_mk w x.f2 l3 g3), ⟨[.bool x.f3.f0, .slice A5 x.f3.f1.length c5], [.bool x.f4.f0, .slice A7 x.f4.f1.length c7, .bool x.f5.f0, .slice A9 x.f5.f1.length c9, .bool x.f6, .int .i64 x.f7, .slice A12 x.f8.length c12, .int .i64 x.f9, .int .i64 x.f10], rfl, (k34_mk w x.f3 l5 g5), ⟨[.bool x.f4.f0, .slice A7 x.f4.f1.length c7], [.bool x.f5.f0, .slice A9 x.f5.f1.length c9, .bool x.f6, .int .i64 x.f7, .slice A12 x.f8.length c12, .int .i64 x.f9, .int .i64 x.f10], rfl, (k31_mk w x.f4 l7 g7), ⟨[.bool x.f5.f0, .slice A9 x.f5.f1.length c9], [.bool x.f6, .int .i64 x.f7, .slice A12 x.f8.length c12, .int .i64 x.f9, .int .i64 x.f10], rfl, (k34_mk w x.f5 l9 g9), ⟨[.bool x.f6], [.int .i64 x.f7, .slice A12 x.f8.length c12, .int .i64 x.f9, .int .i64 x.f10], rfl, rfl, ⟨[.int .i64 x.f7], [.slice A12 x.f8.length c12, .int .i64 x.f9, .int .i64 x.f10], rfl, rfl, ⟨[.slice A12 x.f8.length c12], [.int .i64 x.f9, .int .i64 x.f10], rfl, ⟨A12, c12, rfl, l12, g12⟩, ⟨[.int .i64 x.f9], [.int .i64 x.f10], rfl, rfl, rfl⟩⟩⟩⟩⟩⟩⟩⟩⟩⟩
theorem k37_mkM (w : World) (base : Nat) (ok : Nat → Prop) (x : S37) {v3 : Value} (g3 : k48.R 48 w base ok v3 x.f2.f1) {v5 : Value} (g5 : k50.R 50 w base ok v5 x.f3.f1) {v7 : Value} (g7 : k48.R 48 w base ok v7 x.f4.f1) {v9 : Value} (g9 : k50.R 50 w base ok v9 x.f5.f1) {v12 : Value} (g12 : k54.R 54 w base ok v12 x.f8) : k37.M w base ok x [.int .i64 x.f0, .int .i64 x.f1, .bool x.f2.f0, v3, .bool x.f3.f0, v5, .bool x.f4.f0, v7, .bool x.f5.f0, v9, .bool x.f6, .int .i64 x.f7, v12, .int .i64 x.f9, .int .i64 x.f10] := ⟨[.int .i64 x.f0], [.int .i64 x.f1, .bool x.f2.f0, v3, .bool x.f3.f0, v5, .bool x.f4.f0, v7, .bool x.f5.f0, v9, .bool x.f6, .int .i64 x.f7, v12, .int .i64 x.f9, .int .i64 x.f10], rfl, rfl, ⟨[.int .i64 x.f1], [.bool x.f2.f0, v3, .bool x.f3.f0, v5, .bool x.f4.f0, v7, .bool x.f5.f0, v9, .bool x.f6, .int .i64 x.f7, v12, .int .i64 x.f9, .int .i64 x.f10], rfl, rfl, ⟨[.bool x.f2.f0, v3], [.bool x.f3.f0, v5, .bool x.f4.f0, v7, .bool x.f5.f0, v9, .bool x.f6, .int .i64 x.f7, v12, .int .i64 x.f9, .int .i64 x.f10], rfl, (k31_mkM w base ok x.f2 g3), ⟨[.bool x.f3.f0, v5], [.bool x.f4.f0, v7, .bool x.f5.f0, v9, .bool x.f6, .int .i64 x.f7, v12, .int .i64 x.f9, .int .i64 x.f10], rfl, (k34_mkM w base ok x.f3 g5), ⟨[.bool x.f4.f0, v7], [.bool x.f5.f0, v9, .bool x.f6, .int .i64 x.f7, v12, .int .i64 x.f9, .int .i64 x.f10], rfl, (k31_mkM w base ok x.f4 g7), ⟨[.bool x.f5.f0, v9], [.bool x.f6, .int .i64 x.f7, v12, .int .i64 x.f9, .int .i64 x.f10], rfl, (k34_mkM w base ok x.f5 g9), ⟨[.bool x.f6], [.int .i64 x.f7, v12, .int .i64 x.f9, .int .i64 x.f10], rfl, rfl, ⟨[.int .i64 x.f7], [v12, .int .i64 x.f9, .int .i64 x.f10], rfl, rfl, ⟨[v12], [.int .i64 x.f9, .int .i64 x.f10], rfl, ⟨v12, rfl, g12⟩, ⟨[.int .i64 x.f9], [.int .i64 x.f10], rfl, rfl, rfl⟩⟩⟩⟩⟩⟩⟩⟩⟩⟩
theorem k37_openF {W : World} {ok : Nat → Prop} {x : S37} {cs : List Value} (h : Kd.FK k37 W ok x cs) : ∃ A3 c3 A5 c5 A7 c7 A9 c9 A12 c12, cs = [.int .i64 x.f0, .int .i64 x.f1, .bool x.f2.f0, .slice A3 x.f2.f1.length c3, .bool x.f3.f0, .slice A5 x.f3.f1.length c5, .bool x.f4.f0, .slice A7 x.f4.f1.length c7, .bool x.f5.f0, .slice A9 x.f5.f1.length c9, .bool x.f6, .int .i64 x.f7, .slice A12 x.f8.length c12, .int .i64 x.f9, .int .i64 x.f10] ∧ x.f2.f1.length ≤ c3 ∧ Kd.F k48 W ok A3 x.f2.f1.length x.f2.f1 ∧ x.f3.f1.length ≤ c5 ∧ Kd.F k50 W ok A5 x.f3.f1.length x.f3.f1 ∧ x.f4.f1.length ≤ c7 ∧ Kd.F k48 W ok A7 x.f4.f1.length x.f4.f1 ∧ x.f5.f1.length ≤ c9 ∧ Kd.F k50 W ok A9 x.f5.f1.length x.f5.f1 ∧ x.f8.length ≤ c12 ∧ Kd.F k54 W ok A12 x.f8.length x.f8 := by
 obtain ⟨A3, c3, A5, c5, A7, c7, A9, c9, A12, c12, rfl, l3, _, l5, _, l7, _, l9, _, l12, _⟩ := k37_open (Kd.FK_now h)
 exact ⟨A3, c3, A5, c5, A7, c7, A9, c9, A12, c12, rfl, l3, (fun W' hW => by obtain ⟨A3_, c3_, A5_, c5_, A7_, c7_, A9_, c9_, A12_, c12_, he, l3_, g3_, l5_, g5_, l7_, g7_, l9_, g9_, l12_, g12_⟩ := k37_open (h W' hW); injection (Option.some.inj (show some (Value.slice A3 x.f2.f1.length c3) = some (Value.slice A3_ x.f2.f1.length c3_) from congrArg (fun l => l[3]?) he)) with ha_ _ _; rw [ha_]; exact g3_), l5, (fun W' hW => by obtain ⟨A3_, c3_, A5_, c5_, A7_, c7_, A9_, c9_, A12_, c12_, he, l3_, g3_, l5_, g5_, l7_, g7_, l9_, g9_, l12_, g12_⟩ := k37_open (h W' hW); injection (Option.some.inj (show some (Value.slice A5 x.f3.f1.length c5) = some (Value.slice A5_ x.f3.f1.length c5_) from congrArg (fun l => l[5]?) he)) with ha_ _ _; rw [ha_]; exact g5_), l7, (fun W' hW => by obtain ⟨A3_, c3_, A5_, c5_, A7_, c7_, A9_, c9_, A12_, c12_, he, l3_, g3_, l5_, g5_, l7_, g7_, l9_, g9_, l12_, g12_⟩ := k37_open (h W' hW); injection (Option.some.inj (show some (Value.slice A7 x.f4.f1.length c7) = some (Value.slice A7_ x.f4.f1.length c7_) from congrArg (fun l => l[7]?) he)) with ha_ _ _; rw [ha_]; exact g7_), l9, (fun W' hW => by obtain ⟨A3_, c3_, A5_, c5_, A7_, c7_, A9_, c9_, A12_, c12_, he, l3_, g3_, l5_, g5_, l7_, g7_, l9_, g9_, l12_, g12_⟩ := k37_open (h W' hW); injection (Option.some.inj (show some (Value.slice A9 x.f5.f1.length c9) = some (Value.slice A9_ x.f5.f1.length c9_) from congrArg (fun l => l[9]?) he)) with ha_ _ _; rw [ha_]; exact g9_), l12, (fun W' hW => by obtain ⟨A3_, c3_, A5_, c5_, A7_, c7_, A9_, c9_, A12_, c12_, he, l3_, g3_, l5_, g5_, l7_, g7_, l9_, g9_, l12_, g12_⟩ := k37_open (h W' hW); injection (Option.some.inj (show some (Value.slice A12 x.f8.length c12) = some (Value.slice A12_ x.f8.length c12_) from congrArg (fun l => l[12]?) he)) with ha_ _ _; rw [ha_]; exact g12_)⟩
theorem k37_mkF (W : World) (ok : Nat → Prop) (x : S37) {A3 : Option Addr} {c3 : Nat} (l3 : x.f2.f1.length ≤ c3) (g3 : Kd.F k48 W ok A3 x.f2.f1.length x.f2.f1) {A5 : Option Addr} {c5 : Nat} (l5 : x.f3.f1.length ≤ c5) (g5 : Kd.F k50 W ok A5 x.f3.f1.length x.f3.f1) {A7 : Option Addr} {c7 : Nat} (l7 : x.f4.f1.length ≤ c7) (g7 : Kd.F k48 W ok A7 x.f4.f1.length x.f4.f1) {A9 : Option Addr} {c9 : Nat} (l9 : x.f5.f1.length ≤ c9) (g9 : Kd.F k50 W ok A9 x.f5.f1.length x.f5.f1) {A12 : Option Addr} {c12 : Nat} (l12 : x.f8.length ≤ c12) (g12 : Kd.F k54 W ok A12 x.f8.length x.f8) : Kd.FK k37 W ok x [.int .i64 x.f0, .int .i64 x.f1, .bool x.f2.f0, .slice A3 x.f2.f1.length c3, .bool x.f3.f0, .slice A5 x.f3.f1.length c5, .bool x.f4.f0, .slice A7 x.f4.f1.length c7, .bool x.f5.f0, .slice A9 x.f5.f1.length c9, .bool x.f6, .int .i64 x.f7, .slice A12 x.f8.length c12, .int .i64 x.f9, .int .i64 x.f10] := fun W2 hW => k37_mk W2 x l3 (g3 W2 hW) l5 (g5 W2 hW) l7 (g7 W2 hW) l9 (g9 W2 hW) l12 (g12 W2 hW)
def rd_T37 (xs : List S37) (i : Int) : S37 := xs.getD i.toNat z37
theorem at_T37 {w : World} {A : Option Addr} {n : Nat} {xs : List S37} (h : Kd.C k37 w A n xs) (i : Int) (h0 : 0 ≤ i) (h1 : i < n) : ∃ ad A3 c3 A5 c5 A7 c7 A9 c9 A12 c12, A = some ad ∧ w.cell? (ad.add (i.toNat * 15)) = some (.int .i64 (rd_T37 xs i).f0) ∧ w.cell? ⟨(ad.add (i.toNat * 15)).block, (ad.add (i.toNat * 15)).off + 1, none⟩ = some (.int .i64 (rd_T37 xs i).f1) ∧ w.cell? ⟨(ad.add (i.toNat * 15)).block, (ad.add (i.toNat * 15)).off + 2, none⟩ = some (.bool (rd_T37 xs i).f2.f0) ∧ w.cell? ⟨(ad.add (i.toNat * 15)).block, (ad.add (i.toNat * 15)).off + 3, none⟩ = some (.slice A3 (rd_T37 xs i).f2.f1.length c3) ∧ w.cell? ⟨(ad.add (i.toNat * 15)).block, (ad.add (i.toNat * 15)).off + 4, none⟩ = some (.bool (rd_T37 xs i).f3.f0) ∧ w.cell? ⟨(ad.add (i.toNat * 15)).block, (ad.add (i.toNat * 15)).off + 5, none⟩ = some (.slice A5 (rd_T37 xs i).f3.f1.length c5) ∧ w.cell? ⟨(ad.add (i.toNat * 15)).block, (ad.add (i.toNat * 15)).off + 6, none⟩ = some (.bool (rd_T37 xs i).f4.f0) ∧ w.cell? ⟨(ad.add (i.toNat * 15)).block, (ad.add (i.toNat * 15)).off + 7, none⟩ = some (.slice A7 (rd_T37 xs i).f4.f1.length c7) ∧ w.cell? ⟨(ad.add (i.toNat * 15)).block, (ad.add (i.toNat * 15)).off + 8, none⟩ = some (.bool (rd_T37 xs i).f5.f0) ∧ w.cell? ⟨(ad.add (i.toNat * 15)).block, (ad.add (i.toNat * 15)).off + 9, none⟩ = some (.slice A9 (rd_T37 xs i).f5.f1.length c9) ∧ w.cell? ⟨(ad.add (i.toNat * 15)).block, (ad.add (i.toNat * 15)).off + 10, none⟩ = some (.bool (rd_T37 xs i).f6) ∧ w.cell? ⟨(ad.add (i.toNat * 15)).block, (ad.add (i.toNat * 15)).off + 11, none⟩ = some (.int .i64 (rd_T37 xs i).f7) ∧ w.cell? ⟨(ad.add (i.toNat * 15)).block, (ad.add (i.toNat * 15)).off + 12, none⟩ = some (.slice A12 (rd_T37 xs i).f8.length c12) ∧ w.cell? ⟨(ad.add (i.toNat * 15)).block, (ad.add (i.toNat * 15)).off + 13, none⟩ = some (.int .i64 (rd_T37 xs i).f9) ∧ w.cell? ⟨(ad.add (i.toNat * 15)).block, (ad.add (i.toNat * 15)).off + 14, none⟩ = some (.int .i64 (rd_T37 xs i).f10) ∧ (rd_T37 xs i).f2.f1.length ≤ c3 ∧ k48.C w A3 (rd_T37 xs i).f2.f1.length (rd_T37 xs i).f2.f1 ∧ (rd_T37 xs i).f3.f1.length ≤ c5 ∧ k50.C w A5 (rd_T37 xs i).f3.f1.length (rd_T37 xs i).f3.f1 ∧ (rd_T37 xs i).f4.f1.length ≤ c7 ∧ k48.C w A7 (rd_T37 xs i).f4.f1.length (rd_T37 xs i).f4.f1 ∧ (rd_T37 xs i).f5.f1.length ≤ c9 ∧ k50.C w A9 (rd_T37 xs i).f5.f1.length (rd_T37 xs i).f5.f1 ∧ (rd_T37 xs i).f8.length ≤ c12 ∧ k54.C w A12 (rd_T37 xs i).f8.length (rd_T37 xs i).f8 := by
 obtain ⟨ad, c, e, _, hK, hc0⟩ := Kd.C_get h z37 i h0 h1
 have hc : ∀ j u, c[j]? = some u → w.cell? (ad.add (i.toNat * 15 + j)) = some u := hc0
 obtain ⟨A3, c3, A5, c5, A7, c7, A9, c9, A12, c12, rfl, l3, g3, l5, g5, l7, g7, l9, g9, l12, g12⟩ := k37_open hK
 exact ⟨ad, A3, c3, A5, c5, A7, c7, A9, c9, A12, c12, e, hc 0 _ rfl, by rw [← add_field _ _ 1 (by omega)]; exact hc 1 _ rfl, by rw [← add_field _ _ 2 (by omega)]; exact hc 2 _ rfl, by rw [← add_field _ _ 3 (by omega)]; exact hc 3 _ rfl, by rw [← add_field _ _ 4 (by omega)]; exact hc 4 _ rfl, by rw [← add_field _ _ 5 (by omega)]; exact hc 5 _ rfl, by rw [← add_field _ _ 6 (by omega)]; exact hc 6 _ rfl, by rw [← add_field _ _ 7 (by omega)]; exact hc 7 _ rfl, by rw [← add_field _ _ 8 (by omega)]; exact hc 8 _ rfl, by rw [← add_field _ _ 9 (by omega)]; exact hc 9 _ rfl, by rw [← add_field _ _ 10 (by omega)]; exact hc 10 _ rfl, by rw [← add_field _ _ 11 (by omega)]; exact hc 11 _ rfl, by rw [← add_field _ _ 12 (by omega)]; exact hc 12 _ rfl, by rw [← add_field _ _ 13 (by omega)]; exact hc 13 _ rfl, by rw [← add_field _ _ 14 (by omega)]; exact hc 14 _ rfl, l3, g3, l5, g5, l7, g7, l9, g9, l12, g12⟩

end Go.Proofs.Ytbbafhpnlmmjjaa.HA
