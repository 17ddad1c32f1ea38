/-
  No cell of these rows narrows 'for every input' (looked for: loops, veiled, ifaces, maps, wideKeys, modest, calm, conditions, laid).
  DERIVED. THE GIVEN ROWS OF THIS SEAT. 5 by the template 'for every input the law returns true; each argument reads behind the call as it read before'; 0 by the template 'total and deterministic' (their statements: YtnghmaejmfhigaaTotals.lean).
  GIVEN WITH THE SEED: the statements are not yours to turn. If you find one false, say at which input.
  Laid BY PROGRAM, IN A SANDBOX (cutbox-rows.mjs): the forced cells as the released guide's own fill.sh prints them over the translation 6be0a5e0bfc29dd7… (all of the seat's roots in one cut). By AI agents, Wed Nov 11 2026. No macro, syntax, notation, axiom, sorry.
-/
import Derived.Test.YtnghmaejmfhigaaChecked
import GoSem.Claim
import GoSem.ClaimJoined
import GoSem.ClaimMapViews
import Derived.JoinedTies
import Derived.KernelRfl
namespace Go.Proofs.Ytnghmaejmfhigaa
/- THE CELL 'sum', in the pinned program and in every row, IS THE sha256 OF THE DUMP (.gsa) THAT YtnghmaejmfhigaaProg.lean LOADS. Nothing in Lean hashes anything: it is a label: what it is worth is what the hold of that sum in a sandbox is worth. -/
noncomputable def Try.pinned : Pinned := { name := "ytnghmaejmfhigaa", sum := "6be0a5e0bfc29dd778e6664c0941359314d1462c58dfe1cc3ef5eeb5c3f22e56", checked := Try.checked }
namespace Rows
def none {H : Type} : Left H := { results := [], args := [] }

/-- 'rampartlaw07.DefragWrong': WHATEVER THE INPUT: true; the input reads as it did. -/
def defragWrongSpec : ChangeSpec := { name := "defragWrong", fn := fun _ => fun
  | [d1, d2] => { results := [.lit (.bool true)], args := [d1, d2] }
  | _ => none }
def defragWrongRow : OpenClaim := { program := "ytnghmaejmfhigaa", sum := "6be0a5e0bfc29dd778e6664c0941359314d1462c58dfe1cc3ef5eeb5c3f22e56", func := "rampart/rampartlaw07.DefragWrong", spec := "defragWrong", plainKeys := false, apart := false }
def DefragWrongSaid : Prop := defragWrongRow.holds Try.pinned (OpenSpec.ofChange defragWrongSpec)

/-- ITS FALSE NEIGHBOUR: 'it returns false'. Refute it at one input. -/
def defragWrongWrong : ChangeSpec := { name := "defragWrong", fn := fun _ => fun
  | [d1, d2] => { results := [.lit (.bool false)], args := [d1, d2] }
  | _ => none }
def DefragWrongWrongFalsely : Prop := defragWrongRow.holds Try.pinned (OpenSpec.ofChange defragWrongWrong)

/-- 'rampartlaw07.DefragNames': WHATEVER THE INPUT: true; the input reads as it did. -/
def defragNamesSpec : ChangeSpec := { name := "defragNames", fn := fun _ => fun
  | [d1, d2] => { results := [.lit (.bool true)], args := [d1, d2] }
  | _ => none }
def defragNamesRow : OpenClaim := { program := "ytnghmaejmfhigaa", sum := "6be0a5e0bfc29dd778e6664c0941359314d1462c58dfe1cc3ef5eeb5c3f22e56", func := "rampart/rampartlaw07.DefragNames", spec := "defragNames", plainKeys := false, apart := false }
def DefragNamesSaid : Prop := defragNamesRow.holds Try.pinned (OpenSpec.ofChange defragNamesSpec)

/-- ITS FALSE NEIGHBOUR: 'it returns false'. Refute it at one input. -/
def defragNamesWrong : ChangeSpec := { name := "defragNames", fn := fun _ => fun
  | [d1, d2] => { results := [.lit (.bool false)], args := [d1, d2] }
  | _ => none }
def DefragNamesWrongFalsely : Prop := defragNamesRow.holds Try.pinned (OpenSpec.ofChange defragNamesWrong)

/-- 'rampartlaw07.DefragOrders': WHATEVER THE INPUT: true; the input reads as it did. -/
def defragOrdersSpec : ChangeSpec := { name := "defragOrders", fn := fun _ => fun
  | [d1, d2, d3] => { results := [.lit (.bool true)], args := [d1, d2, d3] }
  | _ => none }
def defragOrdersRow : OpenClaim := { program := "ytnghmaejmfhigaa", sum := "6be0a5e0bfc29dd778e6664c0941359314d1462c58dfe1cc3ef5eeb5c3f22e56", func := "rampart/rampartlaw07.DefragOrders", spec := "defragOrders", plainKeys := false, apart := false }
def DefragOrdersSaid : Prop := defragOrdersRow.holds Try.pinned (OpenSpec.ofChange defragOrdersSpec)

/-- ITS FALSE NEIGHBOUR: 'it returns false'. Refute it at one input. -/
def defragOrdersWrong : ChangeSpec := { name := "defragOrders", fn := fun _ => fun
  | [d1, d2, d3] => { results := [.lit (.bool false)], args := [d1, d2, d3] }
  | _ => none }
def DefragOrdersWrongFalsely : Prop := defragOrdersRow.holds Try.pinned (OpenSpec.ofChange defragOrdersWrong)

/-- 'rampartlaw07.DefragBounds': WHATEVER THE INPUT: true; the input reads as it did. -/
def defragBoundsSpec : ChangeSpec := { name := "defragBounds", fn := fun _ => fun
  | [d1, d2, d3] => { results := [.lit (.bool true)], args := [d1, d2, d3] }
  | _ => none }
def defragBoundsRow : OpenClaim := { program := "ytnghmaejmfhigaa", sum := "6be0a5e0bfc29dd778e6664c0941359314d1462c58dfe1cc3ef5eeb5c3f22e56", func := "rampart/rampartlaw07.DefragBounds", spec := "defragBounds", plainKeys := false, apart := false }
def DefragBoundsSaid : Prop := defragBoundsRow.holds Try.pinned (OpenSpec.ofChange defragBoundsSpec)

/-- ITS FALSE NEIGHBOUR: 'it returns false'. Refute it at one input. -/
def defragBoundsWrong : ChangeSpec := { name := "defragBounds", fn := fun _ => fun
  | [d1, d2, d3] => { results := [.lit (.bool false)], args := [d1, d2, d3] }
  | _ => none }
def DefragBoundsWrongFalsely : Prop := defragBoundsRow.holds Try.pinned (OpenSpec.ofChange defragBoundsWrong)

/-- 'rampartlaw07.DefragPlays': WHATEVER THE INPUT: true; the input reads as it did. -/
def defragPlaysSpec : ChangeSpec := { name := "defragPlays", fn := fun _ => fun
  | [d1, d2, d3] => { results := [.lit (.bool true)], args := [d1, d2, d3] }
  | _ => none }
def defragPlaysRow : OpenClaim := { program := "ytnghmaejmfhigaa", sum := "6be0a5e0bfc29dd778e6664c0941359314d1462c58dfe1cc3ef5eeb5c3f22e56", func := "rampart/rampartlaw07.DefragPlays", spec := "defragPlays", plainKeys := false, apart := false }
def DefragPlaysSaid : Prop := defragPlaysRow.holds Try.pinned (OpenSpec.ofChange defragPlaysSpec)

/-- ITS FALSE NEIGHBOUR: 'it returns false'. Refute it at one input. -/
def defragPlaysWrong : ChangeSpec := { name := "defragPlays", fn := fun _ => fun
  | [d1, d2, d3] => { results := [.lit (.bool false)], args := [d1, d2, d3] }
  | _ => none }
def DefragPlaysWrongFalsely : Prop := defragPlaysRow.holds Try.pinned (OpenSpec.ofChange defragPlaysWrong)

/- THE SECOND FORM. 'bulk': how many values and letters a reading holds, each counted each time it is reached (what is shared counts as often as it is met; a slice's spare places count too). A statement '..UptoSaid' is the law's where the arguments, and the package variables that the reading takes, are together of bulk at most 1048576: NARROWER than '..Said'. Prove '..Said' where nothing that the law and all that it calls make is longer than what came in: it says more and counts as full. Else prove '..UptoSaid'. A law counts once. -/
mutual
def uptoBulk {H : Type} : DataW H → Nat
  | .lit (.string bytes) => bytes.length + 1
  | .lit _ => 1
  | .nil => 1
  | .ptr d => uptoBulk d + 1
  | .slice elems spare => uptoBulkAll elems + uptoBulkAll spare + 1
  | .agg parts => uptoBulkAll parts + 1
  | .iface _ d => uptoBulk d + 1
  | .map entries => uptoBulkEntries entries + 1
  | .held _ => 1
def uptoBulkAll {H : Type} : List (DataW H) → Nat
  | [] => 0
  | d :: r => uptoBulk d + uptoBulkAll r
def uptoBulkEntries {H : Type} : List (Lit × DataW H) → Nat
  | [] => 0
  | x :: r => uptoBulkEntry x + uptoBulkEntries r
def uptoBulkEntry {H : Type} : Lit × DataW H → Nat
  | (.string bytes, d) => bytes.length + uptoBulk d + 1
  | (_, d) => uptoBulk d + 1
 end
def uptoSmall : (H : Type) → List (DataW H) → Bool := fun _ ds => decide (uptoBulkAll ds ≤ 1048576)
def OpenSpec.upto (s : _root_.Go.ChangeSpec) : _root_.Go.OpenSpec := { _root_.Go.OpenSpec.ofChange s with cond := some uptoSmall }

/-- 'rampartlaw07.DefragWrong', WHERE WHAT IT READS IS OF BULK AT MOST 1048576: true; the input reads as it did. -/
def defragWrongUptoRow : OpenClaim := { program := "ytnghmaejmfhigaa", sum := "6be0a5e0bfc29dd778e6664c0941359314d1462c58dfe1cc3ef5eeb5c3f22e56", func := "rampart/rampartlaw07.DefragWrong", spec := "defragWrong", plainKeys := false, apart := false, narrowed := true }
def DefragWrongUptoSaid : Prop := defragWrongUptoRow.holds Try.pinned (OpenSpec.upto defragWrongSpec)

/-- 'rampartlaw07.DefragNames', WHERE WHAT IT READS IS OF BULK AT MOST 1048576: true; the input reads as it did. -/
def defragNamesUptoRow : OpenClaim := { program := "ytnghmaejmfhigaa", sum := "6be0a5e0bfc29dd778e6664c0941359314d1462c58dfe1cc3ef5eeb5c3f22e56", func := "rampart/rampartlaw07.DefragNames", spec := "defragNames", plainKeys := false, apart := false, narrowed := true }
def DefragNamesUptoSaid : Prop := defragNamesUptoRow.holds Try.pinned (OpenSpec.upto defragNamesSpec)

/-- 'rampartlaw07.DefragOrders', WHERE WHAT IT READS IS OF BULK AT MOST 1048576: true; the input reads as it did. -/
def defragOrdersUptoRow : OpenClaim := { program := "ytnghmaejmfhigaa", sum := "6be0a5e0bfc29dd778e6664c0941359314d1462c58dfe1cc3ef5eeb5c3f22e56", func := "rampart/rampartlaw07.DefragOrders", spec := "defragOrders", plainKeys := false, apart := false, narrowed := true }
def DefragOrdersUptoSaid : Prop := defragOrdersUptoRow.holds Try.pinned (OpenSpec.upto defragOrdersSpec)

/-- 'rampartlaw07.DefragBounds', WHERE WHAT IT READS IS OF BULK AT MOST 1048576: true; the input reads as it did. -/
def defragBoundsUptoRow : OpenClaim := { program := "ytnghmaejmfhigaa", sum := "6be0a5e0bfc29dd778e6664c0941359314d1462c58dfe1cc3ef5eeb5c3f22e56", func := "rampart/rampartlaw07.DefragBounds", spec := "defragBounds", plainKeys := false, apart := false, narrowed := true }
def DefragBoundsUptoSaid : Prop := defragBoundsUptoRow.holds Try.pinned (OpenSpec.upto defragBoundsSpec)

/-- 'rampartlaw07.DefragPlays', WHERE WHAT IT READS IS OF BULK AT MOST 1048576: true; the input reads as it did. -/
def defragPlaysUptoRow : OpenClaim := { program := "ytnghmaejmfhigaa", sum := "6be0a5e0bfc29dd778e6664c0941359314d1462c58dfe1cc3ef5eeb5c3f22e56", func := "rampart/rampartlaw07.DefragPlays", spec := "defragPlays", plainKeys := false, apart := false, narrowed := true }
def DefragPlaysUptoSaid : Prop := defragPlaysUptoRow.holds Try.pinned (OpenSpec.upto defragPlaysSpec)

end Rows
end Go.Proofs.Ytnghmaejmfhigaa
