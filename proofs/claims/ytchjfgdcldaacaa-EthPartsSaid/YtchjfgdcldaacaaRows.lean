/-
  No cell of these rows narrows 'for every input' (looked for: loops, veiled, ifaces, maps, wideKeys, modest, calm, conditions, laid).
  DERIVED. THE GIVEN ROWS OF THIS SEAT. 9 by the template 'for every input the law returns true; each argument reads behind the call as it read before'; 0 by the template 'total and deterministic' (their statements: YtchjfgdcldaacaaTotals.lean).
  GIVEN WITH THE SEED: the statements are not yours to turn. If you find one false, say at which input.
  Laid BY PROGRAM, IN A SANDBOX (cutbox-rows.mjs): the forced cells as the released guide's own fill.sh prints them over the translation d621b5f8641dbf2c… (all of the seat's roots in one cut). By AI agents, Wed Nov 11 2026. No macro, syntax, notation, axiom, sorry.
-/
import Derived.Test.YtchjfgdcldaacaaChecked
import GoSem.Claim
import GoSem.ClaimJoined
import GoSem.ClaimMapViews
import Derived.JoinedTies
import Derived.KernelRfl
namespace Go.Proofs.Ytchjfgdcldaacaa
/- THE CELL 'sum', in the pinned program and in every row, IS THE sha256 OF THE DUMP (.gsa) THAT YtchjfgdcldaacaaProg.lean LOADS. Nothing in Lean hashes anything: it is a label: what it is worth is what the hold of that sum in a sandbox is worth. -/
noncomputable def Try.pinned : Pinned := { name := "ytchjfgdcldaacaa", sum := "d621b5f8641dbf2c6211b70a012f45cc795fb06a282ef69b195df4fb2e0a55cf", checked := Try.checked }
namespace Rows
def none {H : Type} : Left H := { results := [], args := [] }

/-- 'rampartlaw02.EthSizes': WHATEVER THE INPUT: true; the input reads as it did. -/
def ethSizesSpec : ChangeSpec := { name := "ethSizes", fn := fun _ => fun
  | [d1, d2] => { results := [.lit (.bool true)], args := [d1, d2] }
  | _ => none }
def ethSizesRow : OpenClaim := { program := "ytchjfgdcldaacaa", sum := "d621b5f8641dbf2c6211b70a012f45cc795fb06a282ef69b195df4fb2e0a55cf", func := "rampart/rampartlaw02.EthSizes", spec := "ethSizes", apart := false }
def EthSizesSaid : Prop := ethSizesRow.holds Try.pinned (OpenSpec.ofChange ethSizesSpec)

/-- ITS FALSE NEIGHBOUR: 'it returns false'. Refute it at one input. -/
def ethSizesWrong : ChangeSpec := { name := "ethSizes", fn := fun _ => fun
  | [d1, d2] => { results := [.lit (.bool false)], args := [d1, d2] }
  | _ => none }
def EthSizesWrongFalsely : Prop := ethSizesRow.holds Try.pinned (OpenSpec.ofChange ethSizesWrong)

/-- 'rampartlaw01.SumZero': WHATEVER THE INPUT: true; the input reads as it did. -/
def sumZeroSpec : ChangeSpec := { name := "sumZero", fn := fun _ => fun
  | [d1, d2] => { results := [.lit (.bool true)], args := [d1, d2] }
  | _ => none }
def sumZeroRow : OpenClaim := { program := "ytchjfgdcldaacaa", sum := "d621b5f8641dbf2c6211b70a012f45cc795fb06a282ef69b195df4fb2e0a55cf", func := "rampart/rampartlaw01.SumZero", spec := "sumZero", apart := false }
def SumZeroSaid : Prop := sumZeroRow.holds Try.pinned (OpenSpec.ofChange sumZeroSpec)

/-- ITS FALSE NEIGHBOUR: 'it returns false'. Refute it at one input. -/
def sumZeroWrong : ChangeSpec := { name := "sumZero", fn := fun _ => fun
  | [d1, d2] => { results := [.lit (.bool false)], args := [d1, d2] }
  | _ => none }
def SumZeroWrongFalsely : Prop := sumZeroRow.holds Try.pinned (OpenSpec.ofChange sumZeroWrong)

/-- 'rampartlaw01.SumParts': WHATEVER THE INPUT: true; the input reads as it did. -/
def sumPartsSpec : ChangeSpec := { name := "sumParts", fn := fun _ => fun
  | [d1, d2] => { results := [.lit (.bool true)], args := [d1, d2] }
  | _ => none }
def sumPartsRow : OpenClaim := { program := "ytchjfgdcldaacaa", sum := "d621b5f8641dbf2c6211b70a012f45cc795fb06a282ef69b195df4fb2e0a55cf", func := "rampart/rampartlaw01.SumParts", spec := "sumParts", apart := false }
def SumPartsSaid : Prop := sumPartsRow.holds Try.pinned (OpenSpec.ofChange sumPartsSpec)

/-- ITS FALSE NEIGHBOUR: 'it returns false'. Refute it at one input. -/
def sumPartsWrong : ChangeSpec := { name := "sumParts", fn := fun _ => fun
  | [d1, d2] => { results := [.lit (.bool false)], args := [d1, d2] }
  | _ => none }
def SumPartsWrongFalsely : Prop := sumPartsRow.holds Try.pinned (OpenSpec.ofChange sumPartsWrong)

/-- 'rampartlaw01.SumNumbers': WHATEVER THE INPUT: true; the input reads as it did. -/
def sumNumbersSpec : ChangeSpec := { name := "sumNumbers", fn := fun _ => fun
  | [d1, d2] => { results := [.lit (.bool true)], args := [d1, d2] }
  | _ => none }
def sumNumbersRow : OpenClaim := { program := "ytchjfgdcldaacaa", sum := "d621b5f8641dbf2c6211b70a012f45cc795fb06a282ef69b195df4fb2e0a55cf", func := "rampart/rampartlaw01.SumNumbers", spec := "sumNumbers", apart := false }
def SumNumbersSaid : Prop := sumNumbersRow.holds Try.pinned (OpenSpec.ofChange sumNumbersSpec)

/-- ITS FALSE NEIGHBOUR: 'it returns false'. Refute it at one input. -/
def sumNumbersWrong : ChangeSpec := { name := "sumNumbers", fn := fun _ => fun
  | [d1, d2] => { results := [.lit (.bool false)], args := [d1, d2] }
  | _ => none }
def SumNumbersWrongFalsely : Prop := sumNumbersRow.holds Try.pinned (OpenSpec.ofChange sumNumbersWrong)

/-- 'rampartlaw02.EthAll': WHATEVER THE INPUT: true; the input reads as it did. -/
def ethAllSpec : ChangeSpec := { name := "ethAll", fn := fun _ => fun
  | [d1, d2, d3] => { results := [.lit (.bool true)], args := [d1, d2, d3] }
  | _ => none }
def ethAllRow : OpenClaim := { program := "ytchjfgdcldaacaa", sum := "d621b5f8641dbf2c6211b70a012f45cc795fb06a282ef69b195df4fb2e0a55cf", func := "rampart/rampartlaw02.EthAll", spec := "ethAll", apart := false }
def EthAllSaid : Prop := ethAllRow.holds Try.pinned (OpenSpec.ofChange ethAllSpec)

/-- ITS FALSE NEIGHBOUR: 'it returns false'. Refute it at one input. -/
def ethAllWrong : ChangeSpec := { name := "ethAll", fn := fun _ => fun
  | [d1, d2, d3] => { results := [.lit (.bool false)], args := [d1, d2, d3] }
  | _ => none }
def EthAllWrongFalsely : Prop := ethAllRow.holds Try.pinned (OpenSpec.ofChange ethAllWrong)

/-- 'rampartlaw02.EthBack': WHATEVER THE INPUT: true; the input reads as it did. -/
def ethBackSpec : ChangeSpec := { name := "ethBack", fn := fun _ => fun
  | [d1, d2, d3] => { results := [.lit (.bool true)], args := [d1, d2, d3] }
  | _ => none }
def ethBackRow : OpenClaim := { program := "ytchjfgdcldaacaa", sum := "d621b5f8641dbf2c6211b70a012f45cc795fb06a282ef69b195df4fb2e0a55cf", func := "rampart/rampartlaw02.EthBack", spec := "ethBack", apart := false }
def EthBackSaid : Prop := ethBackRow.holds Try.pinned (OpenSpec.ofChange ethBackSpec)

/-- ITS FALSE NEIGHBOUR: 'it returns false'. Refute it at one input. -/
def ethBackWrong : ChangeSpec := { name := "ethBack", fn := fun _ => fun
  | [d1, d2, d3] => { results := [.lit (.bool false)], args := [d1, d2, d3] }
  | _ => none }
def EthBackWrongFalsely : Prop := ethBackRow.holds Try.pinned (OpenSpec.ofChange ethBackWrong)

/-- 'rampartlaw02.EthParts': WHATEVER THE INPUT: true; the input reads as it did. -/
def ethPartsSpec : ChangeSpec := { name := "ethParts", fn := fun _ => fun
  | [d1, d2, d3] => { results := [.lit (.bool true)], args := [d1, d2, d3] }
  | _ => none }
def ethPartsRow : OpenClaim := { program := "ytchjfgdcldaacaa", sum := "d621b5f8641dbf2c6211b70a012f45cc795fb06a282ef69b195df4fb2e0a55cf", func := "rampart/rampartlaw02.EthParts", spec := "ethParts", apart := false }
def EthPartsSaid : Prop := ethPartsRow.holds Try.pinned (OpenSpec.ofChange ethPartsSpec)

/-- ITS FALSE NEIGHBOUR: 'it returns false'. Refute it at one input. -/
def ethPartsWrong : ChangeSpec := { name := "ethParts", fn := fun _ => fun
  | [d1, d2, d3] => { results := [.lit (.bool false)], args := [d1, d2, d3] }
  | _ => none }
def EthPartsWrongFalsely : Prop := ethPartsRow.holds Try.pinned (OpenSpec.ofChange ethPartsWrong)

/-- 'rampartlaw01.SumAll': WHATEVER THE INPUT: true; the input reads as it did. -/
def sumAllSpec : ChangeSpec := { name := "sumAll", fn := fun _ => fun
  | [d1, d2, d3, d4] => { results := [.lit (.bool true)], args := [d1, d2, d3, d4] }
  | _ => none }
def sumAllRow : OpenClaim := { program := "ytchjfgdcldaacaa", sum := "d621b5f8641dbf2c6211b70a012f45cc795fb06a282ef69b195df4fb2e0a55cf", func := "rampart/rampartlaw01.SumAll", spec := "sumAll", apart := false }
def SumAllSaid : Prop := sumAllRow.holds Try.pinned (OpenSpec.ofChange sumAllSpec)

/-- ITS FALSE NEIGHBOUR: 'it returns false'. Refute it at one input. -/
def sumAllWrong : ChangeSpec := { name := "sumAll", fn := fun _ => fun
  | [d1, d2, d3, d4] => { results := [.lit (.bool false)], args := [d1, d2, d3, d4] }
  | _ => none }
def SumAllWrongFalsely : Prop := sumAllRow.holds Try.pinned (OpenSpec.ofChange sumAllWrong)

/-- 'rampartlaw01.SumAdds': WHATEVER THE INPUT: true; the input reads as it did. -/
def sumAddsSpec : ChangeSpec := { name := "sumAdds", fn := fun _ => fun
  | [d1, d2, d3] => { results := [.lit (.bool true)], args := [d1, d2, d3] }
  | _ => none }
def sumAddsRow : OpenClaim := { program := "ytchjfgdcldaacaa", sum := "d621b5f8641dbf2c6211b70a012f45cc795fb06a282ef69b195df4fb2e0a55cf", func := "rampart/rampartlaw01.SumAdds", spec := "sumAdds", apart := false }
def SumAddsSaid : Prop := sumAddsRow.holds Try.pinned (OpenSpec.ofChange sumAddsSpec)

/-- ITS FALSE NEIGHBOUR: 'it returns false'. Refute it at one input. -/
def sumAddsWrong : ChangeSpec := { name := "sumAdds", fn := fun _ => fun
  | [d1, d2, d3] => { results := [.lit (.bool false)], args := [d1, d2, d3] }
  | _ => none }
def SumAddsWrongFalsely : Prop := sumAddsRow.holds Try.pinned (OpenSpec.ofChange sumAddsWrong)

/- THE SECOND FORM. 'bulk': how many values and letters a reading holds, each counted each time it is reached (what is shared counts as often as it is met; a slice's spare places count too). A statement '..UptoSaid' is the law's where the arguments, and the package variables that the reading takes, are together of bulk at most 1048576: NARROWER than '..Said'. Prove '..Said' where nothing that the law and all that it calls make is longer than what came in: it says more and counts as full. Else prove '..UptoSaid'. A law counts once. -/
mutual
def uptoBulk {H : Type} : DataW H → Nat
  | .lit (.string bytes) => bytes.length + 1
  | .lit _ => 1
  | .nil => 1
  | .ptr d => uptoBulk d + 1
  | .slice elems spare => uptoBulkAll elems + uptoBulkAll spare + 1
  | .agg parts => uptoBulkAll parts + 1
  | .iface _ d => uptoBulk d + 1
  | .map entries => uptoBulkEntries entries + 1
  | .held _ => 1
def uptoBulkAll {H : Type} : List (DataW H) → Nat
  | [] => 0
  | d :: r => uptoBulk d + uptoBulkAll r
def uptoBulkEntries {H : Type} : List (Lit × DataW H) → Nat
  | [] => 0
  | x :: r => uptoBulkEntry x + uptoBulkEntries r
def uptoBulkEntry {H : Type} : Lit × DataW H → Nat
  | (.string bytes, d) => bytes.length + uptoBulk d + 1
  | (_, d) => uptoBulk d + 1
 end
def uptoSmall : (H : Type) → List (DataW H) → Bool := fun _ ds => decide (uptoBulkAll ds ≤ 1048576)
def OpenSpec.upto (s : _root_.Go.ChangeSpec) : _root_.Go.OpenSpec := { _root_.Go.OpenSpec.ofChange s with cond := some uptoSmall }

/-- 'rampartlaw02.EthSizes', WHERE WHAT IT READS IS OF BULK AT MOST 1048576: true; the input reads as it did. -/
def ethSizesUptoRow : OpenClaim := { program := "ytchjfgdcldaacaa", sum := "d621b5f8641dbf2c6211b70a012f45cc795fb06a282ef69b195df4fb2e0a55cf", func := "rampart/rampartlaw02.EthSizes", spec := "ethSizes", apart := false, narrowed := true }
def EthSizesUptoSaid : Prop := ethSizesUptoRow.holds Try.pinned (OpenSpec.upto ethSizesSpec)

/-- 'rampartlaw01.SumZero', WHERE WHAT IT READS IS OF BULK AT MOST 1048576: true; the input reads as it did. -/
def sumZeroUptoRow : OpenClaim := { program := "ytchjfgdcldaacaa", sum := "d621b5f8641dbf2c6211b70a012f45cc795fb06a282ef69b195df4fb2e0a55cf", func := "rampart/rampartlaw01.SumZero", spec := "sumZero", apart := false, narrowed := true }
def SumZeroUptoSaid : Prop := sumZeroUptoRow.holds Try.pinned (OpenSpec.upto sumZeroSpec)

/-- 'rampartlaw01.SumParts', WHERE WHAT IT READS IS OF BULK AT MOST 1048576: true; the input reads as it did. -/
def sumPartsUptoRow : OpenClaim := { program := "ytchjfgdcldaacaa", sum := "d621b5f8641dbf2c6211b70a012f45cc795fb06a282ef69b195df4fb2e0a55cf", func := "rampart/rampartlaw01.SumParts", spec := "sumParts", apart := false, narrowed := true }
def SumPartsUptoSaid : Prop := sumPartsUptoRow.holds Try.pinned (OpenSpec.upto sumPartsSpec)

/-- 'rampartlaw01.SumNumbers', WHERE WHAT IT READS IS OF BULK AT MOST 1048576: true; the input reads as it did. -/
def sumNumbersUptoRow : OpenClaim := { program := "ytchjfgdcldaacaa", sum := "d621b5f8641dbf2c6211b70a012f45cc795fb06a282ef69b195df4fb2e0a55cf", func := "rampart/rampartlaw01.SumNumbers", spec := "sumNumbers", apart := false, narrowed := true }
def SumNumbersUptoSaid : Prop := sumNumbersUptoRow.holds Try.pinned (OpenSpec.upto sumNumbersSpec)

/-- 'rampartlaw02.EthAll', WHERE WHAT IT READS IS OF BULK AT MOST 1048576: true; the input reads as it did. -/
def ethAllUptoRow : OpenClaim := { program := "ytchjfgdcldaacaa", sum := "d621b5f8641dbf2c6211b70a012f45cc795fb06a282ef69b195df4fb2e0a55cf", func := "rampart/rampartlaw02.EthAll", spec := "ethAll", apart := false, narrowed := true }
def EthAllUptoSaid : Prop := ethAllUptoRow.holds Try.pinned (OpenSpec.upto ethAllSpec)

/-- 'rampartlaw02.EthBack', WHERE WHAT IT READS IS OF BULK AT MOST 1048576: true; the input reads as it did. -/
def ethBackUptoRow : OpenClaim := { program := "ytchjfgdcldaacaa", sum := "d621b5f8641dbf2c6211b70a012f45cc795fb06a282ef69b195df4fb2e0a55cf", func := "rampart/rampartlaw02.EthBack", spec := "ethBack", apart := false, narrowed := true }
def EthBackUptoSaid : Prop := ethBackUptoRow.holds Try.pinned (OpenSpec.upto ethBackSpec)

/-- 'rampartlaw02.EthParts', WHERE WHAT IT READS IS OF BULK AT MOST 1048576: true; the input reads as it did. -/
def ethPartsUptoRow : OpenClaim := { program := "ytchjfgdcldaacaa", sum := "d621b5f8641dbf2c6211b70a012f45cc795fb06a282ef69b195df4fb2e0a55cf", func := "rampart/rampartlaw02.EthParts", spec := "ethParts", apart := false, narrowed := true }
def EthPartsUptoSaid : Prop := ethPartsUptoRow.holds Try.pinned (OpenSpec.upto ethPartsSpec)

/-- 'rampartlaw01.SumAll', WHERE WHAT IT READS IS OF BULK AT MOST 1048576: true; the input reads as it did. -/
def sumAllUptoRow : OpenClaim := { program := "ytchjfgdcldaacaa", sum := "d621b5f8641dbf2c6211b70a012f45cc795fb06a282ef69b195df4fb2e0a55cf", func := "rampart/rampartlaw01.SumAll", spec := "sumAll", apart := false, narrowed := true }
def SumAllUptoSaid : Prop := sumAllUptoRow.holds Try.pinned (OpenSpec.upto sumAllSpec)

/-- 'rampartlaw01.SumAdds', WHERE WHAT IT READS IS OF BULK AT MOST 1048576: true; the input reads as it did. -/
def sumAddsUptoRow : OpenClaim := { program := "ytchjfgdcldaacaa", sum := "d621b5f8641dbf2c6211b70a012f45cc795fb06a282ef69b195df4fb2e0a55cf", func := "rampart/rampartlaw01.SumAdds", spec := "sumAdds", apart := false, narrowed := true }
def SumAddsUptoSaid : Prop := sumAddsUptoRow.holds Try.pinned (OpenSpec.upto sumAddsSpec)

end Rows
end Go.Proofs.Ytchjfgdcldaacaa
