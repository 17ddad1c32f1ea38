/-
  No cell of these rows narrows 'for every input' (looked for: loops, veiled, ifaces, maps, wideKeys, modest, calm, conditions, laid).
  DERIVED. THE GIVEN ROWS OF THIS SEAT. 6 by the template 'for every input the law returns true; each argument reads behind the call as it read before'; 0 by the template 'total and deterministic' (their statements: YtieolnekccacbaaTotals.lean).
  GIVEN WITH THE SEED: the statements are not yours to turn. If you find one false, say at which input.
  Laid BY PROGRAM, IN A SANDBOX (cutbox-rows.mjs): the forced cells as the released guide's own fill.sh prints them over the translation 90bc3547661e259c… (all of the seat's roots in one cut). By AI agents, Wed Nov 11 2026. No macro, syntax, notation, axiom, sorry.
-/
import Derived.Test.YtieolnekccacbaaChecked
import GoSem.Claim
import GoSem.ClaimJoined
import GoSem.ClaimMapViews
import Derived.JoinedTies
import Derived.KernelRfl
namespace Go.Proofs.Ytieolnekccacbaa
/- THE CELL 'sum', in the pinned program and in every row, IS THE sha256 OF THE DUMP (.gsa) THAT YtieolnekccacbaaProg.lean LOADS. Nothing in Lean hashes anything: it is a label: what it is worth is what the hold of that sum in a sandbox is worth. -/
noncomputable def Try.pinned : Pinned := { name := "ytieolnekccacbaa", sum := "90bc3547661e259c685a4e225829b745091d09e17be0ed601137521085371d4a", checked := Try.checked }
namespace Rows
def none {H : Type} : Left H := { results := [], args := [] }

/-- 'rampartlaw20.DirOlds': WHATEVER THE INPUT: true; the input reads as it did. -/
def dirOldsSpec : ChangeSpec := { name := "dirOlds", fn := fun _ => fun
  | [d1, d2, d3, d4, d5] => { results := [.lit (.bool true)], args := [d1, d2, d3, d4, d5] }
  | _ => none }
def dirOldsRow : OpenClaim := { program := "ytieolnekccacbaa", sum := "90bc3547661e259c685a4e225829b745091d09e17be0ed601137521085371d4a", func := "rampart/rampartlaw20.DirOlds", spec := "dirOlds", apart := false }
def DirOldsSaid : Prop := dirOldsRow.holds Try.pinned (OpenSpec.ofChange dirOldsSpec)

/-- ITS FALSE NEIGHBOUR: 'it returns false'. Refute it at one input. -/
def dirOldsWrong : ChangeSpec := { name := "dirOlds", fn := fun _ => fun
  | [d1, d2, d3, d4, d5] => { results := [.lit (.bool false)], args := [d1, d2, d3, d4, d5] }
  | _ => none }
def DirOldsWrongFalsely : Prop := dirOldsRow.holds Try.pinned (OpenSpec.ofChange dirOldsWrong)

/-- 'rampartlaw20.DirBuffers': WHATEVER THE INPUT: true; the input reads as it did. -/
def dirBuffersSpec : ChangeSpec := { name := "dirBuffers", fn := fun _ => fun
  | [d1, d2, d3, d4] => { results := [.lit (.bool true)], args := [d1, d2, d3, d4] }
  | _ => none }
def dirBuffersRow : OpenClaim := { program := "ytieolnekccacbaa", sum := "90bc3547661e259c685a4e225829b745091d09e17be0ed601137521085371d4a", func := "rampart/rampartlaw20.DirBuffers", spec := "dirBuffers", apart := false }
def DirBuffersSaid : Prop := dirBuffersRow.holds Try.pinned (OpenSpec.ofChange dirBuffersSpec)

/-- ITS FALSE NEIGHBOUR: 'it returns false'. Refute it at one input. -/
def dirBuffersWrong : ChangeSpec := { name := "dirBuffers", fn := fun _ => fun
  | [d1, d2, d3, d4] => { results := [.lit (.bool false)], args := [d1, d2, d3, d4] }
  | _ => none }
def DirBuffersWrongFalsely : Prop := dirBuffersRow.holds Try.pinned (OpenSpec.ofChange dirBuffersWrong)

/-- 'rampartlaw20.DirEnds': WHATEVER THE INPUT: true; the input reads as it did. -/
def dirEndsSpec : ChangeSpec := { name := "dirEnds", fn := fun _ => fun
  | [d1, d2, d3, d4] => { results := [.lit (.bool true)], args := [d1, d2, d3, d4] }
  | _ => none }
def dirEndsRow : OpenClaim := { program := "ytieolnekccacbaa", sum := "90bc3547661e259c685a4e225829b745091d09e17be0ed601137521085371d4a", func := "rampart/rampartlaw20.DirEnds", spec := "dirEnds", apart := false }
def DirEndsSaid : Prop := dirEndsRow.holds Try.pinned (OpenSpec.ofChange dirEndsSpec)

/-- ITS FALSE NEIGHBOUR: 'it returns false'. Refute it at one input. -/
def dirEndsWrong : ChangeSpec := { name := "dirEnds", fn := fun _ => fun
  | [d1, d2, d3, d4] => { results := [.lit (.bool false)], args := [d1, d2, d3, d4] }
  | _ => none }
def DirEndsWrongFalsely : Prop := dirEndsRow.holds Try.pinned (OpenSpec.ofChange dirEndsWrong)

/-- 'rampartlaw20.DirPlays': WHATEVER THE INPUT: true; the input reads as it did. -/
def dirPlaysSpec : ChangeSpec := { name := "dirPlays", fn := fun _ => fun
  | [d1, d2, d3, d4, d5] => { results := [.lit (.bool true)], args := [d1, d2, d3, d4, d5] }
  | _ => none }
def dirPlaysRow : OpenClaim := { program := "ytieolnekccacbaa", sum := "90bc3547661e259c685a4e225829b745091d09e17be0ed601137521085371d4a", func := "rampart/rampartlaw20.DirPlays", spec := "dirPlays", apart := false }
def DirPlaysSaid : Prop := dirPlaysRow.holds Try.pinned (OpenSpec.ofChange dirPlaysSpec)

/-- ITS FALSE NEIGHBOUR: 'it returns false'. Refute it at one input. -/
def dirPlaysWrong : ChangeSpec := { name := "dirPlays", fn := fun _ => fun
  | [d1, d2, d3, d4, d5] => { results := [.lit (.bool false)], args := [d1, d2, d3, d4, d5] }
  | _ => none }
def DirPlaysWrongFalsely : Prop := dirPlaysRow.holds Try.pinned (OpenSpec.ofChange dirPlaysWrong)

/-- 'rampartlaw20.DirNear': WHATEVER THE INPUT: true; the input reads as it did. -/
def dirNearSpec : ChangeSpec := { name := "dirNear", fn := fun _ => fun
  | [d1, d2, d3, d4] => { results := [.lit (.bool true)], args := [d1, d2, d3, d4] }
  | _ => none }
def dirNearRow : OpenClaim := { program := "ytieolnekccacbaa", sum := "90bc3547661e259c685a4e225829b745091d09e17be0ed601137521085371d4a", func := "rampart/rampartlaw20.DirNear", spec := "dirNear", apart := false }
def DirNearSaid : Prop := dirNearRow.holds Try.pinned (OpenSpec.ofChange dirNearSpec)

/-- ITS FALSE NEIGHBOUR: 'it returns false'. Refute it at one input. -/
def dirNearWrong : ChangeSpec := { name := "dirNear", fn := fun _ => fun
  | [d1, d2, d3, d4] => { results := [.lit (.bool false)], args := [d1, d2, d3, d4] }
  | _ => none }
def DirNearWrongFalsely : Prop := dirNearRow.holds Try.pinned (OpenSpec.ofChange dirNearWrong)

/-- 'rampartlaw20.DirOrders': WHATEVER THE INPUT: true; the input reads as it did. -/
def dirOrdersSpec : ChangeSpec := { name := "dirOrders", fn := fun _ => fun
  | [d1, d2, d3] => { results := [.lit (.bool true)], args := [d1, d2, d3] }
  | _ => none }
def dirOrdersRow : OpenClaim := { program := "ytieolnekccacbaa", sum := "90bc3547661e259c685a4e225829b745091d09e17be0ed601137521085371d4a", func := "rampart/rampartlaw20.DirOrders", spec := "dirOrders", unfollowed := true, recurses := true, apart := false }
def DirOrdersSaid : Prop := dirOrdersRow.holds Try.pinned (OpenSpec.ofChange dirOrdersSpec)

/-- ITS FALSE NEIGHBOUR: 'it returns false'. Refute it at one input. -/
def dirOrdersWrong : ChangeSpec := { name := "dirOrders", fn := fun _ => fun
  | [d1, d2, d3] => { results := [.lit (.bool false)], args := [d1, d2, d3] }
  | _ => none }
def DirOrdersWrongFalsely : Prop := dirOrdersRow.holds Try.pinned (OpenSpec.ofChange dirOrdersWrong)

/- THE SECOND FORM. 'bulk': how many values and letters a reading holds, each counted each time it is reached (what is shared counts as often as it is met; a slice's spare places count too). A statement '..UptoSaid' is the law's where the arguments, and the package variables that the reading takes, are together of bulk at most 1048576: NARROWER than '..Said'. Prove '..Said' where nothing that the law and all that it calls make is longer than what came in: it says more and counts as full. Else prove '..UptoSaid'. A law counts once. -/
mutual
def uptoBulk {H : Type} : DataW H → Nat
  | .lit (.string bytes) => bytes.length + 1
  | .lit _ => 1
  | .nil => 1
  | .ptr d => uptoBulk d + 1
  | .slice elems spare => uptoBulkAll elems + uptoBulkAll spare + 1
  | .agg parts => uptoBulkAll parts + 1
  | .iface _ d => uptoBulk d + 1
  | .map entries => uptoBulkEntries entries + 1
  | .held _ => 1
def uptoBulkAll {H : Type} : List (DataW H) → Nat
  | [] => 0
  | d :: r => uptoBulk d + uptoBulkAll r
def uptoBulkEntries {H : Type} : List (Lit × DataW H) → Nat
  | [] => 0
  | x :: r => uptoBulkEntry x + uptoBulkEntries r
def uptoBulkEntry {H : Type} : Lit × DataW H → Nat
  | (.string bytes, d) => bytes.length + uptoBulk d + 1
  | (_, d) => uptoBulk d + 1
 end
def uptoSmall : (H : Type) → List (DataW H) → Bool := fun _ ds => decide (uptoBulkAll ds ≤ 1048576)
def OpenSpec.upto (s : _root_.Go.ChangeSpec) : _root_.Go.OpenSpec := { _root_.Go.OpenSpec.ofChange s with cond := some uptoSmall }

/-- 'rampartlaw20.DirOlds', WHERE WHAT IT READS IS OF BULK AT MOST 1048576: true; the input reads as it did. -/
def dirOldsUptoRow : OpenClaim := { program := "ytieolnekccacbaa", sum := "90bc3547661e259c685a4e225829b745091d09e17be0ed601137521085371d4a", func := "rampart/rampartlaw20.DirOlds", spec := "dirOlds", apart := false, narrowed := true }
def DirOldsUptoSaid : Prop := dirOldsUptoRow.holds Try.pinned (OpenSpec.upto dirOldsSpec)

/-- 'rampartlaw20.DirBuffers', WHERE WHAT IT READS IS OF BULK AT MOST 1048576: true; the input reads as it did. -/
def dirBuffersUptoRow : OpenClaim := { program := "ytieolnekccacbaa", sum := "90bc3547661e259c685a4e225829b745091d09e17be0ed601137521085371d4a", func := "rampart/rampartlaw20.DirBuffers", spec := "dirBuffers", apart := false, narrowed := true }
def DirBuffersUptoSaid : Prop := dirBuffersUptoRow.holds Try.pinned (OpenSpec.upto dirBuffersSpec)

/-- 'rampartlaw20.DirEnds', WHERE WHAT IT READS IS OF BULK AT MOST 1048576: true; the input reads as it did. -/
def dirEndsUptoRow : OpenClaim := { program := "ytieolnekccacbaa", sum := "90bc3547661e259c685a4e225829b745091d09e17be0ed601137521085371d4a", func := "rampart/rampartlaw20.DirEnds", spec := "dirEnds", apart := false, narrowed := true }
def DirEndsUptoSaid : Prop := dirEndsUptoRow.holds Try.pinned (OpenSpec.upto dirEndsSpec)

/-- 'rampartlaw20.DirPlays', WHERE WHAT IT READS IS OF BULK AT MOST 1048576: true; the input reads as it did. -/
def dirPlaysUptoRow : OpenClaim := { program := "ytieolnekccacbaa", sum := "90bc3547661e259c685a4e225829b745091d09e17be0ed601137521085371d4a", func := "rampart/rampartlaw20.DirPlays", spec := "dirPlays", apart := false, narrowed := true }
def DirPlaysUptoSaid : Prop := dirPlaysUptoRow.holds Try.pinned (OpenSpec.upto dirPlaysSpec)

/-- 'rampartlaw20.DirNear', WHERE WHAT IT READS IS OF BULK AT MOST 1048576: true; the input reads as it did. -/
def dirNearUptoRow : OpenClaim := { program := "ytieolnekccacbaa", sum := "90bc3547661e259c685a4e225829b745091d09e17be0ed601137521085371d4a", func := "rampart/rampartlaw20.DirNear", spec := "dirNear", apart := false, narrowed := true }
def DirNearUptoSaid : Prop := dirNearUptoRow.holds Try.pinned (OpenSpec.upto dirNearSpec)

/-- 'rampartlaw20.DirOrders', WHERE WHAT IT READS IS OF BULK AT MOST 1048576: true; the input reads as it did. -/
def dirOrdersUptoRow : OpenClaim := { program := "ytieolnekccacbaa", sum := "90bc3547661e259c685a4e225829b745091d09e17be0ed601137521085371d4a", func := "rampart/rampartlaw20.DirOrders", spec := "dirOrders", unfollowed := true, recurses := true, apart := false, narrowed := true }
def DirOrdersUptoSaid : Prop := dirOrdersUptoRow.holds Try.pinned (OpenSpec.upto dirOrdersSpec)

end Rows
end Go.Proofs.Ytieolnekccacbaa
