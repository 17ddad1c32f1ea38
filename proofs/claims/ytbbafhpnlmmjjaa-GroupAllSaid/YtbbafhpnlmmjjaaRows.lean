/-
  No cell of these rows narrows 'for every input' (looked for: loops, veiled, ifaces, maps, wideKeys, modest, calm, conditions, laid).
  DERIVED. THE GIVEN ROWS OF THIS SEAT. 4 by the template 'for every input the law returns true; each argument reads behind the call as it read before'; 0 by the template 'total and deterministic' (their statements: YtbbafhpnlmmjjaaTotals.lean).
  GIVEN WITH THE SEED: the statements are not yours to turn. If you find one false, say at which input.
  Laid BY PROGRAM, IN A SANDBOX (cutbox-rows.mjs): the forced cells as the released guide's own fill.sh prints them over the translation 7cc9b9b83265269c… (all of the seat's roots in one cut). By AI agents, Wed Nov 11 2026. No macro, syntax, notation, axiom, sorry.
-/
import Derived.Test.YtbbafhpnlmmjjaaChecked
import GoSem.Claim
import GoSem.ClaimJoined
import GoSem.ClaimMapViews
import Derived.JoinedTies
import Derived.KernelRfl
namespace Go.Proofs.Ytbbafhpnlmmjjaa
/- THE CELL 'sum', in the pinned program and in every row, IS THE sha256 OF THE DUMP (.gsa) THAT YtbbafhpnlmmjjaaProg.lean LOADS. Nothing in Lean hashes anything: it is a label: what it is worth is what the hold of that sum in a sandbox is worth. -/
noncomputable def Try.pinned : Pinned := { name := "ytbbafhpnlmmjjaa", sum := "7cc9b9b83265269cceed8e0e7ffbec46870ae5d2c45a82f668e248e201b20259", checked := Try.checked }
namespace Rows
def none {H : Type} : Left H := { results := [], args := [] }

/-- 'rampartlaw18.GroupAll': WHATEVER THE INPUT: true; the input reads as it did. -/
def groupAllSpec : ChangeSpec := { name := "groupAll", fn := fun _ => fun
  | [d1, d2, d3] => { results := [.lit (.bool true)], args := [d1, d2, d3] }
  | _ => none }
def groupAllRow : OpenClaim := { program := "ytbbafhpnlmmjjaa", sum := "7cc9b9b83265269cceed8e0e7ffbec46870ae5d2c45a82f668e248e201b20259", func := "rampart/rampartlaw18.GroupAll", spec := "groupAll", unfollowed := true, recurses := true, apart := false }
def GroupAllSaid : Prop := groupAllRow.holds Try.pinned (OpenSpec.ofChange groupAllSpec)

/-- ITS FALSE NEIGHBOUR: 'it returns false'. Refute it at one input. -/
def groupAllWrong : ChangeSpec := { name := "groupAll", fn := fun _ => fun
  | [d1, d2, d3] => { results := [.lit (.bool false)], args := [d1, d2, d3] }
  | _ => none }
def GroupAllWrongFalsely : Prop := groupAllRow.holds Try.pinned (OpenSpec.ofChange groupAllWrong)

/-- 'rampartlaw18.GroupBoth': WHATEVER THE INPUT: true; the input reads as it did. -/
def groupBothSpec : ChangeSpec := { name := "groupBoth", fn := fun _ => fun
  | [d1, d2, d3] => { results := [.lit (.bool true)], args := [d1, d2, d3] }
  | _ => none }
def groupBothRow : OpenClaim := { program := "ytbbafhpnlmmjjaa", sum := "7cc9b9b83265269cceed8e0e7ffbec46870ae5d2c45a82f668e248e201b20259", func := "rampart/rampartlaw18.GroupBoth", spec := "groupBoth", unfollowed := true, recurses := true, apart := false }
def GroupBothSaid : Prop := groupBothRow.holds Try.pinned (OpenSpec.ofChange groupBothSpec)

/-- ITS FALSE NEIGHBOUR: 'it returns false'. Refute it at one input. -/
def groupBothWrong : ChangeSpec := { name := "groupBoth", fn := fun _ => fun
  | [d1, d2, d3] => { results := [.lit (.bool false)], args := [d1, d2, d3] }
  | _ => none }
def GroupBothWrongFalsely : Prop := groupBothRow.holds Try.pinned (OpenSpec.ofChange groupBothWrong)

/-- 'rampartlaw18.GroupWays': WHATEVER THE INPUT: true; the input reads as it did. -/
def groupWaysSpec : ChangeSpec := { name := "groupWays", fn := fun _ => fun
  | [d1, d2, d3, d4] => { results := [.lit (.bool true)], args := [d1, d2, d3, d4] }
  | _ => none }
def groupWaysRow : OpenClaim := { program := "ytbbafhpnlmmjjaa", sum := "7cc9b9b83265269cceed8e0e7ffbec46870ae5d2c45a82f668e248e201b20259", func := "rampart/rampartlaw18.GroupWays", spec := "groupWays", unfollowed := true, recurses := true, apart := false }
def GroupWaysSaid : Prop := groupWaysRow.holds Try.pinned (OpenSpec.ofChange groupWaysSpec)

/-- ITS FALSE NEIGHBOUR: 'it returns false'. Refute it at one input. -/
def groupWaysWrong : ChangeSpec := { name := "groupWays", fn := fun _ => fun
  | [d1, d2, d3, d4] => { results := [.lit (.bool false)], args := [d1, d2, d3, d4] }
  | _ => none }
def GroupWaysWrongFalsely : Prop := groupWaysRow.holds Try.pinned (OpenSpec.ofChange groupWaysWrong)

/-- 'rampartlaw18.GroupFlows': WHATEVER THE INPUT: true; the input reads as it did. -/
def groupFlowsSpec : ChangeSpec := { name := "groupFlows", fn := fun _ => fun
  | [d1, d2] => { results := [.lit (.bool true)], args := [d1, d2] }
  | _ => none }
def groupFlowsRow : OpenClaim := { program := "ytbbafhpnlmmjjaa", sum := "7cc9b9b83265269cceed8e0e7ffbec46870ae5d2c45a82f668e248e201b20259", func := "rampart/rampartlaw18.GroupFlows", spec := "groupFlows", unfollowed := true, recurses := true, apart := false }
def GroupFlowsSaid : Prop := groupFlowsRow.holds Try.pinned (OpenSpec.ofChange groupFlowsSpec)

/-- ITS FALSE NEIGHBOUR: 'it returns false'. Refute it at one input. -/
def groupFlowsWrong : ChangeSpec := { name := "groupFlows", fn := fun _ => fun
  | [d1, d2] => { results := [.lit (.bool false)], args := [d1, d2] }
  | _ => none }
def GroupFlowsWrongFalsely : Prop := groupFlowsRow.holds Try.pinned (OpenSpec.ofChange groupFlowsWrong)

/- THE SECOND FORM. 'bulk': how many values and letters a reading holds, each counted each time it is reached (what is shared counts as often as it is met; a slice's spare places count too). A statement '..UptoSaid' is the law's where the arguments, and the package variables that the reading takes, are together of bulk at most 1048576: NARROWER than '..Said'. Prove '..Said' where nothing that the law and all that it calls make is longer than what came in: it says more and counts as full. Else prove '..UptoSaid'. A law counts once. -/
mutual
def uptoBulk {H : Type} : DataW H → Nat
  | .lit (.string bytes) => bytes.length + 1
  | .lit _ => 1
  | .nil => 1
  | .ptr d => uptoBulk d + 1
  | .slice elems spare => uptoBulkAll elems + uptoBulkAll spare + 1
  | .agg parts => uptoBulkAll parts + 1
  | .iface _ d => uptoBulk d + 1
  | .map entries => uptoBulkEntries entries + 1
  | .held _ => 1
def uptoBulkAll {H : Type} : List (DataW H) → Nat
  | [] => 0
  | d :: r => uptoBulk d + uptoBulkAll r
def uptoBulkEntries {H : Type} : List (Lit × DataW H) → Nat
  | [] => 0
  | x :: r => uptoBulkEntry x + uptoBulkEntries r
def uptoBulkEntry {H : Type} : Lit × DataW H → Nat
  | (.string bytes, d) => bytes.length + uptoBulk d + 1
  | (_, d) => uptoBulk d + 1
 end
def uptoSmall : (H : Type) → List (DataW H) → Bool := fun _ ds => decide (uptoBulkAll ds ≤ 1048576)
def OpenSpec.upto (s : _root_.Go.ChangeSpec) : _root_.Go.OpenSpec := { _root_.Go.OpenSpec.ofChange s with cond := some uptoSmall }

/-- 'rampartlaw18.GroupAll', WHERE WHAT IT READS IS OF BULK AT MOST 1048576: true; the input reads as it did. -/
def groupAllUptoRow : OpenClaim := { program := "ytbbafhpnlmmjjaa", sum := "7cc9b9b83265269cceed8e0e7ffbec46870ae5d2c45a82f668e248e201b20259", func := "rampart/rampartlaw18.GroupAll", spec := "groupAll", unfollowed := true, recurses := true, apart := false, narrowed := true }
def GroupAllUptoSaid : Prop := groupAllUptoRow.holds Try.pinned (OpenSpec.upto groupAllSpec)

/-- 'rampartlaw18.GroupBoth', WHERE WHAT IT READS IS OF BULK AT MOST 1048576: true; the input reads as it did. -/
def groupBothUptoRow : OpenClaim := { program := "ytbbafhpnlmmjjaa", sum := "7cc9b9b83265269cceed8e0e7ffbec46870ae5d2c45a82f668e248e201b20259", func := "rampart/rampartlaw18.GroupBoth", spec := "groupBoth", unfollowed := true, recurses := true, apart := false, narrowed := true }
def GroupBothUptoSaid : Prop := groupBothUptoRow.holds Try.pinned (OpenSpec.upto groupBothSpec)

/-- 'rampartlaw18.GroupWays', WHERE WHAT IT READS IS OF BULK AT MOST 1048576: true; the input reads as it did. -/
def groupWaysUptoRow : OpenClaim := { program := "ytbbafhpnlmmjjaa", sum := "7cc9b9b83265269cceed8e0e7ffbec46870ae5d2c45a82f668e248e201b20259", func := "rampart/rampartlaw18.GroupWays", spec := "groupWays", unfollowed := true, recurses := true, apart := false, narrowed := true }
def GroupWaysUptoSaid : Prop := groupWaysUptoRow.holds Try.pinned (OpenSpec.upto groupWaysSpec)

/-- 'rampartlaw18.GroupFlows', WHERE WHAT IT READS IS OF BULK AT MOST 1048576: true; the input reads as it did. -/
def groupFlowsUptoRow : OpenClaim := { program := "ytbbafhpnlmmjjaa", sum := "7cc9b9b83265269cceed8e0e7ffbec46870ae5d2c45a82f668e248e201b20259", func := "rampart/rampartlaw18.GroupFlows", spec := "groupFlows", unfollowed := true, recurses := true, apart := false, narrowed := true }
def GroupFlowsUptoSaid : Prop := groupFlowsUptoRow.holds Try.pinned (OpenSpec.upto groupFlowsSpec)

end Rows
end Go.Proofs.Ytbbafhpnlmmjjaa
