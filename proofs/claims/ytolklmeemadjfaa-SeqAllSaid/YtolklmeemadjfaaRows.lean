/-
  No cell of these rows narrows 'for every input' (looked for: loops, veiled, ifaces, maps, wideKeys, modest, calm, conditions, laid).
  DERIVED. THE GIVEN ROWS OF THIS SEAT. 4 by the template 'for every input the law returns true; each argument reads behind the call as it read before'; 0 by the template 'total and deterministic' (their statements: YtolklmeemadjfaaTotals.lean).
  GIVEN WITH THE SEED: the statements are not yours to turn. If you find one false, say at which input.
  Laid BY PROGRAM, IN A SANDBOX (cutbox-rows.mjs): the forced cells as the released guide's own fill.sh prints them over the translation 16a5b0fed16f14e4… (all of the seat's roots in one cut). By AI agents, Wed Nov 11 2026. No macro, syntax, notation, axiom, sorry.
-/
import Derived.Test.YtolklmeemadjfaaChecked
import GoSem.Claim
import GoSem.ClaimJoined
import GoSem.ClaimMapViews
import Derived.JoinedTies
import Derived.KernelRfl
namespace Go.Proofs.Ytolklmeemadjfaa
/- THE CELL 'sum', in the pinned program and in every row, IS THE sha256 OF THE DUMP (.gsa) THAT YtolklmeemadjfaaProg.lean LOADS. Nothing in Lean hashes anything: it is a label: what it is worth is what the hold of that sum in a sandbox is worth. -/
noncomputable def Try.pinned : Pinned := { name := "ytolklmeemadjfaa", sum := "16a5b0fed16f14e47c4edc4a6058a8e144572b23ad7df34f6b0bf27fc94171b7", checked := Try.checked }
namespace Rows
def none {H : Type} : Left H := { results := [], args := [] }

/-- 'rampartlaw19.SeqAll': WHATEVER THE INPUT: true; the input reads as it did. -/
def seqAllSpec : ChangeSpec := { name := "seqAll", fn := fun _ => fun
  | [d1, d2, d3, d4] => { results := [.lit (.bool true)], args := [d1, d2, d3, d4] }
  | _ => none }
def seqAllRow : OpenClaim := { program := "ytolklmeemadjfaa", sum := "16a5b0fed16f14e47c4edc4a6058a8e144572b23ad7df34f6b0bf27fc94171b7", func := "rampart/rampartlaw19.SeqAll", spec := "seqAll", apart := false }
def SeqAllSaid : Prop := seqAllRow.holds Try.pinned (OpenSpec.ofChange seqAllSpec)

/-- ITS FALSE NEIGHBOUR: 'it returns false'. Refute it at one input. -/
def seqAllWrong : ChangeSpec := { name := "seqAll", fn := fun _ => fun
  | [d1, d2, d3, d4] => { results := [.lit (.bool false)], args := [d1, d2, d3, d4] }
  | _ => none }
def SeqAllWrongFalsely : Prop := seqAllRow.holds Try.pinned (OpenSpec.ofChange seqAllWrong)

/-- 'rampartlaw19.SeqBack': WHATEVER THE INPUT: true; the input reads as it did. -/
def seqBackSpec : ChangeSpec := { name := "seqBack", fn := fun _ => fun
  | [d1, d2, d3, d4] => { results := [.lit (.bool true)], args := [d1, d2, d3, d4] }
  | _ => none }
def seqBackRow : OpenClaim := { program := "ytolklmeemadjfaa", sum := "16a5b0fed16f14e47c4edc4a6058a8e144572b23ad7df34f6b0bf27fc94171b7", func := "rampart/rampartlaw19.SeqBack", spec := "seqBack", apart := false }
def SeqBackSaid : Prop := seqBackRow.holds Try.pinned (OpenSpec.ofChange seqBackSpec)

/-- ITS FALSE NEIGHBOUR: 'it returns false'. Refute it at one input. -/
def seqBackWrong : ChangeSpec := { name := "seqBack", fn := fun _ => fun
  | [d1, d2, d3, d4] => { results := [.lit (.bool false)], args := [d1, d2, d3, d4] }
  | _ => none }
def SeqBackWrongFalsely : Prop := seqBackRow.holds Try.pinned (OpenSpec.ofChange seqBackWrong)

/-- 'rampartlaw19.SeqOrder': WHATEVER THE INPUT: true; the input reads as it did. -/
def seqOrderSpec : ChangeSpec := { name := "seqOrder", fn := fun _ => fun
  | [d1, d2, d3] => { results := [.lit (.bool true)], args := [d1, d2, d3] }
  | _ => none }
def seqOrderRow : OpenClaim := { program := "ytolklmeemadjfaa", sum := "16a5b0fed16f14e47c4edc4a6058a8e144572b23ad7df34f6b0bf27fc94171b7", func := "rampart/rampartlaw19.SeqOrder", spec := "seqOrder", apart := false }
def SeqOrderSaid : Prop := seqOrderRow.holds Try.pinned (OpenSpec.ofChange seqOrderSpec)

/-- ITS FALSE NEIGHBOUR: 'it returns false'. Refute it at one input. -/
def seqOrderWrong : ChangeSpec := { name := "seqOrder", fn := fun _ => fun
  | [d1, d2, d3] => { results := [.lit (.bool false)], args := [d1, d2, d3] }
  | _ => none }
def SeqOrderWrongFalsely : Prop := seqOrderRow.holds Try.pinned (OpenSpec.ofChange seqOrderWrong)

/-- 'rampartlaw19.SeqPlaces': WHATEVER THE INPUT: true; the input reads as it did. -/
def seqPlacesSpec : ChangeSpec := { name := "seqPlaces", fn := fun _ => fun
  | [d1, d2, d3] => { results := [.lit (.bool true)], args := [d1, d2, d3] }
  | _ => none }
def seqPlacesRow : OpenClaim := { program := "ytolklmeemadjfaa", sum := "16a5b0fed16f14e47c4edc4a6058a8e144572b23ad7df34f6b0bf27fc94171b7", func := "rampart/rampartlaw19.SeqPlaces", spec := "seqPlaces", apart := false }
def SeqPlacesSaid : Prop := seqPlacesRow.holds Try.pinned (OpenSpec.ofChange seqPlacesSpec)

/-- ITS FALSE NEIGHBOUR: 'it returns false'. Refute it at one input. -/
def seqPlacesWrong : ChangeSpec := { name := "seqPlaces", fn := fun _ => fun
  | [d1, d2, d3] => { results := [.lit (.bool false)], args := [d1, d2, d3] }
  | _ => none }
def SeqPlacesWrongFalsely : Prop := seqPlacesRow.holds Try.pinned (OpenSpec.ofChange seqPlacesWrong)

/- THE SECOND FORM. 'bulk': how many values and letters a reading holds, each counted each time it is reached (what is shared counts as often as it is met; a slice's spare places count too). A statement '..UptoSaid' is the law's where the arguments, and the package variables that the reading takes, are together of bulk at most 1048576: NARROWER than '..Said'. Prove '..Said' where nothing that the law and all that it calls make is longer than what came in: it says more and counts as full. Else prove '..UptoSaid'. A law counts once. -/
mutual
def uptoBulk {H : Type} : DataW H → Nat
  | .lit (.string bytes) => bytes.length + 1
  | .lit _ => 1
  | .nil => 1
  | .ptr d => uptoBulk d + 1
  | .slice elems spare => uptoBulkAll elems + uptoBulkAll spare + 1
  | .agg parts => uptoBulkAll parts + 1
  | .iface _ d => uptoBulk d + 1
  | .map entries => uptoBulkEntries entries + 1
  | .held _ => 1
def uptoBulkAll {H : Type} : List (DataW H) → Nat
  | [] => 0
  | d :: r => uptoBulk d + uptoBulkAll r
def uptoBulkEntries {H : Type} : List (Lit × DataW H) → Nat
  | [] => 0
  | x :: r => uptoBulkEntry x + uptoBulkEntries r
def uptoBulkEntry {H : Type} : Lit × DataW H → Nat
  | (.string bytes, d) => bytes.length + uptoBulk d + 1
  | (_, d) => uptoBulk d + 1
 end
def uptoSmall : (H : Type) → List (DataW H) → Bool := fun _ ds => decide (uptoBulkAll ds ≤ 1048576)
def OpenSpec.upto (s : _root_.Go.ChangeSpec) : _root_.Go.OpenSpec := { _root_.Go.OpenSpec.ofChange s with cond := some uptoSmall }

/-- 'rampartlaw19.SeqAll', WHERE WHAT IT READS IS OF BULK AT MOST 1048576: true; the input reads as it did. -/
def seqAllUptoRow : OpenClaim := { program := "ytolklmeemadjfaa", sum := "16a5b0fed16f14e47c4edc4a6058a8e144572b23ad7df34f6b0bf27fc94171b7", func := "rampart/rampartlaw19.SeqAll", spec := "seqAll", apart := false, narrowed := true }
def SeqAllUptoSaid : Prop := seqAllUptoRow.holds Try.pinned (OpenSpec.upto seqAllSpec)

/-- 'rampartlaw19.SeqBack', WHERE WHAT IT READS IS OF BULK AT MOST 1048576: true; the input reads as it did. -/
def seqBackUptoRow : OpenClaim := { program := "ytolklmeemadjfaa", sum := "16a5b0fed16f14e47c4edc4a6058a8e144572b23ad7df34f6b0bf27fc94171b7", func := "rampart/rampartlaw19.SeqBack", spec := "seqBack", apart := false, narrowed := true }
def SeqBackUptoSaid : Prop := seqBackUptoRow.holds Try.pinned (OpenSpec.upto seqBackSpec)

/-- 'rampartlaw19.SeqOrder', WHERE WHAT IT READS IS OF BULK AT MOST 1048576: true; the input reads as it did. -/
def seqOrderUptoRow : OpenClaim := { program := "ytolklmeemadjfaa", sum := "16a5b0fed16f14e47c4edc4a6058a8e144572b23ad7df34f6b0bf27fc94171b7", func := "rampart/rampartlaw19.SeqOrder", spec := "seqOrder", apart := false, narrowed := true }
def SeqOrderUptoSaid : Prop := seqOrderUptoRow.holds Try.pinned (OpenSpec.upto seqOrderSpec)

/-- 'rampartlaw19.SeqPlaces', WHERE WHAT IT READS IS OF BULK AT MOST 1048576: true; the input reads as it did. -/
def seqPlacesUptoRow : OpenClaim := { program := "ytolklmeemadjfaa", sum := "16a5b0fed16f14e47c4edc4a6058a8e144572b23ad7df34f6b0bf27fc94171b7", func := "rampart/rampartlaw19.SeqPlaces", spec := "seqPlaces", apart := false, narrowed := true }
def SeqPlacesUptoSaid : Prop := seqPlacesUptoRow.holds Try.pinned (OpenSpec.upto seqPlacesSpec)

end Rows
end Go.Proofs.Ytolklmeemadjfaa
