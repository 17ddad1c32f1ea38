/-
  No cell of these rows narrows 'for every input' (looked for: loops, veiled, ifaces, maps, wideKeys, modest, calm, conditions, laid).
  DERIVED. THE GIVEN ROWS OF THIS SEAT. 4 by the template 'for every input the law returns true; each argument reads behind the call as it read before'; 0 by the template 'total and deterministic' (their statements: YtbidgeaigiijpaaTotals.lean).
  GIVEN WITH THE SEED: the statements are not yours to turn. If you find one false, say at which input.
  Laid BY PROGRAM, IN A SANDBOX (cutbox-rows.mjs): the forced cells as the released guide's own fill.sh prints them over the translation 50a2859185e904fb… (all of the seat's roots in one cut). By AI agents, Wed Nov 11 2026. No macro, syntax, notation, axiom, sorry.
-/
import Derived.Test.YtbidgeaigiijpaaChecked
import GoSem.Claim
import GoSem.ClaimJoined
import GoSem.ClaimMapViews
import Derived.JoinedTies
import Derived.KernelRfl
namespace Go.Proofs.Ytbidgeaigiijpaa
/- THE CELL 'sum', in the pinned program and in every row, IS THE sha256 OF THE DUMP (.gsa) THAT YtbidgeaigiijpaaProg.lean LOADS. Nothing in Lean hashes anything: it is a label: what it is worth is what the hold of that sum in a sandbox is worth. -/
noncomputable def Try.pinned : Pinned := { name := "ytbidgeaigiijpaa", sum := "50a2859185e904fb22423d569d7330140c9ce0be5882211ff63938fa8e772fd4", checked := Try.checked }
namespace Rows
def none {H : Type} : Left H := { results := [], args := [] }

/-- 'rampartlaw06.CraftResets': WHATEVER THE INPUT: true; the input reads as it did. -/
def craftResetsSpec : ChangeSpec := { name := "craftResets", fn := fun _ => fun
  | [d1, d2, d3, d4, d5] => { results := [.lit (.bool true)], args := [d1, d2, d3, d4, d5] }
  | _ => none }
def craftResetsRow : OpenClaim := { program := "ytbidgeaigiijpaa", sum := "50a2859185e904fb22423d569d7330140c9ce0be5882211ff63938fa8e772fd4", func := "rampart/rampartlaw06.CraftResets", spec := "craftResets", unfollowed := true, recurses := true, apart := false }
def CraftResetsSaid : Prop := craftResetsRow.holds Try.pinned (OpenSpec.ofChange craftResetsSpec)

/-- ITS FALSE NEIGHBOUR: 'it returns false'. Refute it at one input. -/
def craftResetsWrong : ChangeSpec := { name := "craftResets", fn := fun _ => fun
  | [d1, d2, d3, d4, d5] => { results := [.lit (.bool false)], args := [d1, d2, d3, d4, d5] }
  | _ => none }
def CraftResetsWrongFalsely : Prop := craftResetsRow.holds Try.pinned (OpenSpec.ofChange craftResetsWrong)

/-- 'rampartlaw06.CraftBack': WHATEVER THE INPUT: true; the input reads as it did. -/
def craftBackSpec : ChangeSpec := { name := "craftBack", fn := fun _ => fun
  | [d1, d2, d3, d4] => { results := [.lit (.bool true)], args := [d1, d2, d3, d4] }
  | _ => none }
def craftBackRow : OpenClaim := { program := "ytbidgeaigiijpaa", sum := "50a2859185e904fb22423d569d7330140c9ce0be5882211ff63938fa8e772fd4", func := "rampart/rampartlaw06.CraftBack", spec := "craftBack", unfollowed := true, recurses := true, apart := false }
def CraftBackSaid : Prop := craftBackRow.holds Try.pinned (OpenSpec.ofChange craftBackSpec)

/-- ITS FALSE NEIGHBOUR: 'it returns false'. Refute it at one input. -/
def craftBackWrong : ChangeSpec := { name := "craftBack", fn := fun _ => fun
  | [d1, d2, d3, d4] => { results := [.lit (.bool false)], args := [d1, d2, d3, d4] }
  | _ => none }
def CraftBackWrongFalsely : Prop := craftBackRow.holds Try.pinned (OpenSpec.ofChange craftBackWrong)

/-- 'rampartlaw06.CraftAll': WHATEVER THE INPUT: true; the input reads as it did. -/
def craftAllSpec : ChangeSpec := { name := "craftAll", fn := fun _ => fun
  | [d1, d2, d3, d4, d5, d6] => { results := [.lit (.bool true)], args := [d1, d2, d3, d4, d5, d6] }
  | _ => none }
def craftAllRow : OpenClaim := { program := "ytbidgeaigiijpaa", sum := "50a2859185e904fb22423d569d7330140c9ce0be5882211ff63938fa8e772fd4", func := "rampart/rampartlaw06.CraftAll", spec := "craftAll", unfollowed := true, recurses := true, apart := false }
def CraftAllSaid : Prop := craftAllRow.holds Try.pinned (OpenSpec.ofChange craftAllSpec)

/-- ITS FALSE NEIGHBOUR: 'it returns false'. Refute it at one input. -/
def craftAllWrong : ChangeSpec := { name := "craftAll", fn := fun _ => fun
  | [d1, d2, d3, d4, d5, d6] => { results := [.lit (.bool false)], args := [d1, d2, d3, d4, d5, d6] }
  | _ => none }
def CraftAllWrongFalsely : Prop := craftAllRow.holds Try.pinned (OpenSpec.ofChange craftAllWrong)

/-- 'rampartlaw06.CraftUnreachable': WHATEVER THE INPUT: true; the input reads as it did. -/
def craftUnreachableSpec : ChangeSpec := { name := "craftUnreachable", fn := fun _ => fun
  | [d1, d2] => { results := [.lit (.bool true)], args := [d1, d2] }
  | _ => none }
def craftUnreachableRow : OpenClaim := { program := "ytbidgeaigiijpaa", sum := "50a2859185e904fb22423d569d7330140c9ce0be5882211ff63938fa8e772fd4", func := "rampart/rampartlaw06.CraftUnreachable", spec := "craftUnreachable", unfollowed := true, recurses := true, apart := false }
def CraftUnreachableSaid : Prop := craftUnreachableRow.holds Try.pinned (OpenSpec.ofChange craftUnreachableSpec)

/-- ITS FALSE NEIGHBOUR: 'it returns false'. Refute it at one input. -/
def craftUnreachableWrong : ChangeSpec := { name := "craftUnreachable", fn := fun _ => fun
  | [d1, d2] => { results := [.lit (.bool false)], args := [d1, d2] }
  | _ => none }
def CraftUnreachableWrongFalsely : Prop := craftUnreachableRow.holds Try.pinned (OpenSpec.ofChange craftUnreachableWrong)

/- THE SECOND FORM. 'bulk': how many values and letters a reading holds, each counted each time it is reached (what is shared counts as often as it is met; a slice's spare places count too). A statement '..UptoSaid' is the law's where the arguments, and the package variables that the reading takes, are together of bulk at most 1048576: NARROWER than '..Said'. Prove '..Said' where nothing that the law and all that it calls make is longer than what came in: it says more and counts as full. Else prove '..UptoSaid'. A law counts once. -/
mutual
def uptoBulk {H : Type} : DataW H → Nat
  | .lit (.string bytes) => bytes.length + 1
  | .lit _ => 1
  | .nil => 1
  | .ptr d => uptoBulk d + 1
  | .slice elems spare => uptoBulkAll elems + uptoBulkAll spare + 1
  | .agg parts => uptoBulkAll parts + 1
  | .iface _ d => uptoBulk d + 1
  | .map entries => uptoBulkEntries entries + 1
  | .held _ => 1
def uptoBulkAll {H : Type} : List (DataW H) → Nat
  | [] => 0
  | d :: r => uptoBulk d + uptoBulkAll r
def uptoBulkEntries {H : Type} : List (Lit × DataW H) → Nat
  | [] => 0
  | x :: r => uptoBulkEntry x + uptoBulkEntries r
def uptoBulkEntry {H : Type} : Lit × DataW H → Nat
  | (.string bytes, d) => bytes.length + uptoBulk d + 1
  | (_, d) => uptoBulk d + 1
 end
def uptoSmall : (H : Type) → List (DataW H) → Bool := fun _ ds => decide (uptoBulkAll ds ≤ 1048576)
def OpenSpec.upto (s : _root_.Go.ChangeSpec) : _root_.Go.OpenSpec := { _root_.Go.OpenSpec.ofChange s with cond := some uptoSmall }

/-- 'rampartlaw06.CraftResets', WHERE WHAT IT READS IS OF BULK AT MOST 1048576: true; the input reads as it did. -/
def craftResetsUptoRow : OpenClaim := { program := "ytbidgeaigiijpaa", sum := "50a2859185e904fb22423d569d7330140c9ce0be5882211ff63938fa8e772fd4", func := "rampart/rampartlaw06.CraftResets", spec := "craftResets", unfollowed := true, recurses := true, apart := false, narrowed := true }
def CraftResetsUptoSaid : Prop := craftResetsUptoRow.holds Try.pinned (OpenSpec.upto craftResetsSpec)

/-- 'rampartlaw06.CraftBack', WHERE WHAT IT READS IS OF BULK AT MOST 1048576: true; the input reads as it did. -/
def craftBackUptoRow : OpenClaim := { program := "ytbidgeaigiijpaa", sum := "50a2859185e904fb22423d569d7330140c9ce0be5882211ff63938fa8e772fd4", func := "rampart/rampartlaw06.CraftBack", spec := "craftBack", unfollowed := true, recurses := true, apart := false, narrowed := true }
def CraftBackUptoSaid : Prop := craftBackUptoRow.holds Try.pinned (OpenSpec.upto craftBackSpec)

/-- 'rampartlaw06.CraftAll', WHERE WHAT IT READS IS OF BULK AT MOST 1048576: true; the input reads as it did. -/
def craftAllUptoRow : OpenClaim := { program := "ytbidgeaigiijpaa", sum := "50a2859185e904fb22423d569d7330140c9ce0be5882211ff63938fa8e772fd4", func := "rampart/rampartlaw06.CraftAll", spec := "craftAll", unfollowed := true, recurses := true, apart := false, narrowed := true }
def CraftAllUptoSaid : Prop := craftAllUptoRow.holds Try.pinned (OpenSpec.upto craftAllSpec)

/-- 'rampartlaw06.CraftUnreachable', WHERE WHAT IT READS IS OF BULK AT MOST 1048576: true; the input reads as it did. -/
def craftUnreachableUptoRow : OpenClaim := { program := "ytbidgeaigiijpaa", sum := "50a2859185e904fb22423d569d7330140c9ce0be5882211ff63938fa8e772fd4", func := "rampart/rampartlaw06.CraftUnreachable", spec := "craftUnreachable", unfollowed := true, recurses := true, apart := false, narrowed := true }
def CraftUnreachableUptoSaid : Prop := craftUnreachableUptoRow.holds Try.pinned (OpenSpec.upto craftUnreachableSpec)

end Rows
end Go.Proofs.Ytbidgeaigiijpaa
