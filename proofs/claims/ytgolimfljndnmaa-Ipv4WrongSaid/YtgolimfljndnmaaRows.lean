/-
  No cell of these rows narrows 'for every input' (looked for: loops, veiled, ifaces, maps, wideKeys, modest, calm, conditions, laid).
  DERIVED. THE GIVEN ROWS OF THIS SEAT. 12 by the template 'for every input the law returns true; each argument reads behind the call as it read before'; 0 by the template 'total and deterministic' (their statements: YtgolimfljndnmaaTotals.lean).
  GIVEN WITH THE SEED: the statements are not yours to turn. If you find one false, say at which input.
  Laid BY PROGRAM, IN A SANDBOX (cutbox-rows.mjs): the forced cells as the released guide's own fill.sh prints them over the translation 61fc3cd593a7a37e… (all of the seat's roots in one cut). By AI agents, Wed Nov 11 2026. No macro, syntax, notation, axiom, sorry.
-/
import Derived.Test.YtgolimfljndnmaaChecked
import GoSem.Claim
import GoSem.ClaimJoined
import GoSem.ClaimMapViews
import Derived.JoinedTies
import Derived.KernelRfl
namespace Go.Proofs.Ytgolimfljndnmaa
/- THE CELL 'sum', in the pinned program and in every row, IS THE sha256 OF THE DUMP (.gsa) THAT YtgolimfljndnmaaProg.lean LOADS. Nothing in Lean hashes anything: it is a label: what it is worth is what the hold of that sum in a sandbox is worth. -/
noncomputable def Try.pinned : Pinned := { name := "ytgolimfljndnmaa", sum := "61fc3cd593a7a37ee31fabc14a256911b59ccef7814de267334c8338a33e6ef2", checked := Try.checked }
namespace Rows
def none {H : Type} : Left H := { results := [], args := [] }

/-- 'rampartlaw03.Ipv4All': WHATEVER THE INPUT: true; the input reads as it did. -/
def ipv4AllSpec : ChangeSpec := { name := "ipv4All", fn := fun _ => fun
  | [d1, d2, d3] => { results := [.lit (.bool true)], args := [d1, d2, d3] }
  | _ => none }
def ipv4AllRow : OpenClaim := { program := "ytgolimfljndnmaa", sum := "61fc3cd593a7a37ee31fabc14a256911b59ccef7814de267334c8338a33e6ef2", func := "rampart/rampartlaw03.Ipv4All", spec := "ipv4All", unfollowed := true, recurses := true, apart := false }
def Ipv4AllSaid : Prop := ipv4AllRow.holds Try.pinned (OpenSpec.ofChange ipv4AllSpec)

/-- ITS FALSE NEIGHBOUR: 'it returns false'. Refute it at one input. -/
def ipv4AllWrong : ChangeSpec := { name := "ipv4All", fn := fun _ => fun
  | [d1, d2, d3] => { results := [.lit (.bool false)], args := [d1, d2, d3] }
  | _ => none }
def Ipv4AllWrongFalsely : Prop := ipv4AllRow.holds Try.pinned (OpenSpec.ofChange ipv4AllWrong)

/-- 'rampartlaw03.Ipv4Back': WHATEVER THE INPUT: true; the input reads as it did. -/
def ipv4BackSpec : ChangeSpec := { name := "ipv4Back", fn := fun _ => fun
  | [d1, d2, d3, d4] => { results := [.lit (.bool true)], args := [d1, d2, d3, d4] }
  | _ => none }
def ipv4BackRow : OpenClaim := { program := "ytgolimfljndnmaa", sum := "61fc3cd593a7a37ee31fabc14a256911b59ccef7814de267334c8338a33e6ef2", func := "rampart/rampartlaw03.Ipv4Back", spec := "ipv4Back", unfollowed := true, recurses := true, apart := false }
def Ipv4BackSaid : Prop := ipv4BackRow.holds Try.pinned (OpenSpec.ofChange ipv4BackSpec)

/-- ITS FALSE NEIGHBOUR: 'it returns false'. Refute it at one input. -/
def ipv4BackWrong : ChangeSpec := { name := "ipv4Back", fn := fun _ => fun
  | [d1, d2, d3, d4] => { results := [.lit (.bool false)], args := [d1, d2, d3, d4] }
  | _ => none }
def Ipv4BackWrongFalsely : Prop := ipv4BackRow.holds Try.pinned (OpenSpec.ofChange ipv4BackWrong)

/-- 'rampartlaw03.Ipv4Edges': WHATEVER THE INPUT: true; the input reads as it did. -/
def ipv4EdgesSpec : ChangeSpec := { name := "ipv4Edges", fn := fun _ => fun
  | [d1, d2] => { results := [.lit (.bool true)], args := [d1, d2] }
  | _ => none }
def ipv4EdgesRow : OpenClaim := { program := "ytgolimfljndnmaa", sum := "61fc3cd593a7a37ee31fabc14a256911b59ccef7814de267334c8338a33e6ef2", func := "rampart/rampartlaw03.Ipv4Edges", spec := "ipv4Edges", unfollowed := true, recurses := true, apart := false }
def Ipv4EdgesSaid : Prop := ipv4EdgesRow.holds Try.pinned (OpenSpec.ofChange ipv4EdgesSpec)

/-- ITS FALSE NEIGHBOUR: 'it returns false'. Refute it at one input. -/
def ipv4EdgesWrong : ChangeSpec := { name := "ipv4Edges", fn := fun _ => fun
  | [d1, d2] => { results := [.lit (.bool false)], args := [d1, d2] }
  | _ => none }
def Ipv4EdgesWrongFalsely : Prop := ipv4EdgesRow.holds Try.pinned (OpenSpec.ofChange ipv4EdgesWrong)

/-- 'rampartlaw03.Ipv4Wrong': WHATEVER THE INPUT: true; the input reads as it did. -/
def ipv4WrongSpec : ChangeSpec := { name := "ipv4Wrong", fn := fun _ => fun
  | [d1, d2] => { results := [.lit (.bool true)], args := [d1, d2] }
  | _ => none }
def ipv4WrongRow : OpenClaim := { program := "ytgolimfljndnmaa", sum := "61fc3cd593a7a37ee31fabc14a256911b59ccef7814de267334c8338a33e6ef2", func := "rampart/rampartlaw03.Ipv4Wrong", spec := "ipv4Wrong", unfollowed := true, recurses := true, apart := false }
def Ipv4WrongSaid : Prop := ipv4WrongRow.holds Try.pinned (OpenSpec.ofChange ipv4WrongSpec)

/-- ITS FALSE NEIGHBOUR: 'it returns false'. Refute it at one input. -/
def ipv4WrongWrong : ChangeSpec := { name := "ipv4Wrong", fn := fun _ => fun
  | [d1, d2] => { results := [.lit (.bool false)], args := [d1, d2] }
  | _ => none }
def Ipv4WrongWrongFalsely : Prop := ipv4WrongRow.holds Try.pinned (OpenSpec.ofChange ipv4WrongWrong)

/-- 'rampartlaw04.TcpAll': WHATEVER THE INPUT: true; the input reads as it did. -/
def tcpAllSpec : ChangeSpec := { name := "tcpAll", fn := fun _ => fun
  | [d1, d2, d3, d4, d5] => { results := [.lit (.bool true)], args := [d1, d2, d3, d4, d5] }
  | _ => none }
def tcpAllRow : OpenClaim := { program := "ytgolimfljndnmaa", sum := "61fc3cd593a7a37ee31fabc14a256911b59ccef7814de267334c8338a33e6ef2", func := "rampart/rampartlaw04.TcpAll", spec := "tcpAll", apart := false }
def TcpAllSaid : Prop := tcpAllRow.holds Try.pinned (OpenSpec.ofChange tcpAllSpec)

/-- ITS FALSE NEIGHBOUR: 'it returns false'. Refute it at one input. -/
def tcpAllWrong : ChangeSpec := { name := "tcpAll", fn := fun _ => fun
  | [d1, d2, d3, d4, d5] => { results := [.lit (.bool false)], args := [d1, d2, d3, d4, d5] }
  | _ => none }
def TcpAllWrongFalsely : Prop := tcpAllRow.holds Try.pinned (OpenSpec.ofChange tcpAllWrong)

/-- 'rampartlaw04.TcpBack': WHATEVER THE INPUT: true; the input reads as it did. -/
def tcpBackSpec : ChangeSpec := { name := "tcpBack", fn := fun _ => fun
  | [d1, d2, d3, d4, d5] => { results := [.lit (.bool true)], args := [d1, d2, d3, d4, d5] }
  | _ => none }
def tcpBackRow : OpenClaim := { program := "ytgolimfljndnmaa", sum := "61fc3cd593a7a37ee31fabc14a256911b59ccef7814de267334c8338a33e6ef2", func := "rampart/rampartlaw04.TcpBack", spec := "tcpBack", apart := false }
def TcpBackSaid : Prop := tcpBackRow.holds Try.pinned (OpenSpec.ofChange tcpBackSpec)

/-- ITS FALSE NEIGHBOUR: 'it returns false'. Refute it at one input. -/
def tcpBackWrong : ChangeSpec := { name := "tcpBack", fn := fun _ => fun
  | [d1, d2, d3, d4, d5] => { results := [.lit (.bool false)], args := [d1, d2, d3, d4, d5] }
  | _ => none }
def TcpBackWrongFalsely : Prop := tcpBackRow.holds Try.pinned (OpenSpec.ofChange tcpBackWrong)

/-- 'rampartlaw04.TcpEdges': WHATEVER THE INPUT: true; the input reads as it did. -/
def tcpEdgesSpec : ChangeSpec := { name := "tcpEdges", fn := fun _ => fun
  | [d1, d2] => { results := [.lit (.bool true)], args := [d1, d2] }
  | _ => none }
def tcpEdgesRow : OpenClaim := { program := "ytgolimfljndnmaa", sum := "61fc3cd593a7a37ee31fabc14a256911b59ccef7814de267334c8338a33e6ef2", func := "rampart/rampartlaw04.TcpEdges", spec := "tcpEdges", apart := false }
def TcpEdgesSaid : Prop := tcpEdgesRow.holds Try.pinned (OpenSpec.ofChange tcpEdgesSpec)

/-- ITS FALSE NEIGHBOUR: 'it returns false'. Refute it at one input. -/
def tcpEdgesWrong : ChangeSpec := { name := "tcpEdges", fn := fun _ => fun
  | [d1, d2] => { results := [.lit (.bool false)], args := [d1, d2] }
  | _ => none }
def TcpEdgesWrongFalsely : Prop := tcpEdgesRow.holds Try.pinned (OpenSpec.ofChange tcpEdgesWrong)

/-- 'rampartlaw04.TcpWrong': WHATEVER THE INPUT: true; the input reads as it did. -/
def tcpWrongSpec : ChangeSpec := { name := "tcpWrong", fn := fun _ => fun
  | [d1, d2] => { results := [.lit (.bool true)], args := [d1, d2] }
  | _ => none }
def tcpWrongRow : OpenClaim := { program := "ytgolimfljndnmaa", sum := "61fc3cd593a7a37ee31fabc14a256911b59ccef7814de267334c8338a33e6ef2", func := "rampart/rampartlaw04.TcpWrong", spec := "tcpWrong", apart := false }
def TcpWrongSaid : Prop := tcpWrongRow.holds Try.pinned (OpenSpec.ofChange tcpWrongSpec)

/-- ITS FALSE NEIGHBOUR: 'it returns false'. Refute it at one input. -/
def tcpWrongWrong : ChangeSpec := { name := "tcpWrong", fn := fun _ => fun
  | [d1, d2] => { results := [.lit (.bool false)], args := [d1, d2] }
  | _ => none }
def TcpWrongWrongFalsely : Prop := tcpWrongRow.holds Try.pinned (OpenSpec.ofChange tcpWrongWrong)

/-- 'rampartlaw05.DgramCut': WHATEVER THE INPUT: true; the input reads as it did. -/
def dgramCutSpec : ChangeSpec := { name := "dgramCut", fn := fun _ => fun
  | [d1, d2, d3] => { results := [.lit (.bool true)], args := [d1, d2, d3] }
  | _ => none }
def dgramCutRow : OpenClaim := { program := "ytgolimfljndnmaa", sum := "61fc3cd593a7a37ee31fabc14a256911b59ccef7814de267334c8338a33e6ef2", func := "rampart/rampartlaw05.DgramCut", spec := "dgramCut", unfollowed := true, recurses := true, apart := false }
def DgramCutSaid : Prop := dgramCutRow.holds Try.pinned (OpenSpec.ofChange dgramCutSpec)

/-- ITS FALSE NEIGHBOUR: 'it returns false'. Refute it at one input. -/
def dgramCutWrong : ChangeSpec := { name := "dgramCut", fn := fun _ => fun
  | [d1, d2, d3] => { results := [.lit (.bool false)], args := [d1, d2, d3] }
  | _ => none }
def DgramCutWrongFalsely : Prop := dgramCutRow.holds Try.pinned (OpenSpec.ofChange dgramCutWrong)

/-- 'rampartlaw05.DgramAll': WHATEVER THE INPUT: true; the input reads as it did. -/
def dgramAllSpec : ChangeSpec := { name := "dgramAll", fn := fun _ => fun
  | [d1, d2, d3, d4, d5] => { results := [.lit (.bool true)], args := [d1, d2, d3, d4, d5] }
  | _ => none }
def dgramAllRow : OpenClaim := { program := "ytgolimfljndnmaa", sum := "61fc3cd593a7a37ee31fabc14a256911b59ccef7814de267334c8338a33e6ef2", func := "rampart/rampartlaw05.DgramAll", spec := "dgramAll", unfollowed := true, recurses := true, apart := false }
def DgramAllSaid : Prop := dgramAllRow.holds Try.pinned (OpenSpec.ofChange dgramAllSpec)

/-- ITS FALSE NEIGHBOUR: 'it returns false'. Refute it at one input. -/
def dgramAllWrong : ChangeSpec := { name := "dgramAll", fn := fun _ => fun
  | [d1, d2, d3, d4, d5] => { results := [.lit (.bool false)], args := [d1, d2, d3, d4, d5] }
  | _ => none }
def DgramAllWrongFalsely : Prop := dgramAllRow.holds Try.pinned (OpenSpec.ofChange dgramAllWrong)

/-- 'rampartlaw05.DgramBack': WHATEVER THE INPUT: true; the input reads as it did. -/
def dgramBackSpec : ChangeSpec := { name := "dgramBack", fn := fun _ => fun
  | [d1, d2, d3, d4, d5] => { results := [.lit (.bool true)], args := [d1, d2, d3, d4, d5] }
  | _ => none }
def dgramBackRow : OpenClaim := { program := "ytgolimfljndnmaa", sum := "61fc3cd593a7a37ee31fabc14a256911b59ccef7814de267334c8338a33e6ef2", func := "rampart/rampartlaw05.DgramBack", spec := "dgramBack", unfollowed := true, recurses := true, apart := false }
def DgramBackSaid : Prop := dgramBackRow.holds Try.pinned (OpenSpec.ofChange dgramBackSpec)

/-- ITS FALSE NEIGHBOUR: 'it returns false'. Refute it at one input. -/
def dgramBackWrong : ChangeSpec := { name := "dgramBack", fn := fun _ => fun
  | [d1, d2, d3, d4, d5] => { results := [.lit (.bool false)], args := [d1, d2, d3, d4, d5] }
  | _ => none }
def DgramBackWrongFalsely : Prop := dgramBackRow.holds Try.pinned (OpenSpec.ofChange dgramBackWrong)

/-- 'rampartlaw05.DgramEdges': WHATEVER THE INPUT: true; the input reads as it did. -/
def dgramEdgesSpec : ChangeSpec := { name := "dgramEdges", fn := fun _ => fun
  | [d1, d2, d3] => { results := [.lit (.bool true)], args := [d1, d2, d3] }
  | _ => none }
def dgramEdgesRow : OpenClaim := { program := "ytgolimfljndnmaa", sum := "61fc3cd593a7a37ee31fabc14a256911b59ccef7814de267334c8338a33e6ef2", func := "rampart/rampartlaw05.DgramEdges", spec := "dgramEdges", unfollowed := true, recurses := true, apart := false }
def DgramEdgesSaid : Prop := dgramEdgesRow.holds Try.pinned (OpenSpec.ofChange dgramEdgesSpec)

/-- ITS FALSE NEIGHBOUR: 'it returns false'. Refute it at one input. -/
def dgramEdgesWrong : ChangeSpec := { name := "dgramEdges", fn := fun _ => fun
  | [d1, d2, d3] => { results := [.lit (.bool false)], args := [d1, d2, d3] }
  | _ => none }
def DgramEdgesWrongFalsely : Prop := dgramEdgesRow.holds Try.pinned (OpenSpec.ofChange dgramEdgesWrong)

/- THE SECOND FORM. 'bulk': how many values and letters a reading holds, each counted each time it is reached (what is shared counts as often as it is met; a slice's spare places count too). A statement '..UptoSaid' is the law's where the arguments, and the package variables that the reading takes, are together of bulk at most 1048576: NARROWER than '..Said'. Prove '..Said' where nothing that the law and all that it calls make is longer than what came in: it says more and counts as full. Else prove '..UptoSaid'. A law counts once. -/
mutual
def uptoBulk {H : Type} : DataW H → Nat
  | .lit (.string bytes) => bytes.length + 1
  | .lit _ => 1
  | .nil => 1
  | .ptr d => uptoBulk d + 1
  | .slice elems spare => uptoBulkAll elems + uptoBulkAll spare + 1
  | .agg parts => uptoBulkAll parts + 1
  | .iface _ d => uptoBulk d + 1
  | .map entries => uptoBulkEntries entries + 1
  | .held _ => 1
def uptoBulkAll {H : Type} : List (DataW H) → Nat
  | [] => 0
  | d :: r => uptoBulk d + uptoBulkAll r
def uptoBulkEntries {H : Type} : List (Lit × DataW H) → Nat
  | [] => 0
  | x :: r => uptoBulkEntry x + uptoBulkEntries r
def uptoBulkEntry {H : Type} : Lit × DataW H → Nat
  | (.string bytes, d) => bytes.length + uptoBulk d + 1
  | (_, d) => uptoBulk d + 1
 end
def uptoSmall : (H : Type) → List (DataW H) → Bool := fun _ ds => decide (uptoBulkAll ds ≤ 1048576)
def OpenSpec.upto (s : _root_.Go.ChangeSpec) : _root_.Go.OpenSpec := { _root_.Go.OpenSpec.ofChange s with cond := some uptoSmall }

/-- 'rampartlaw03.Ipv4All', WHERE WHAT IT READS IS OF BULK AT MOST 1048576: true; the input reads as it did. -/
def ipv4AllUptoRow : OpenClaim := { program := "ytgolimfljndnmaa", sum := "61fc3cd593a7a37ee31fabc14a256911b59ccef7814de267334c8338a33e6ef2", func := "rampart/rampartlaw03.Ipv4All", spec := "ipv4All", unfollowed := true, recurses := true, apart := false, narrowed := true }
def Ipv4AllUptoSaid : Prop := ipv4AllUptoRow.holds Try.pinned (OpenSpec.upto ipv4AllSpec)

/-- 'rampartlaw03.Ipv4Back', WHERE WHAT IT READS IS OF BULK AT MOST 1048576: true; the input reads as it did. -/
def ipv4BackUptoRow : OpenClaim := { program := "ytgolimfljndnmaa", sum := "61fc3cd593a7a37ee31fabc14a256911b59ccef7814de267334c8338a33e6ef2", func := "rampart/rampartlaw03.Ipv4Back", spec := "ipv4Back", unfollowed := true, recurses := true, apart := false, narrowed := true }
def Ipv4BackUptoSaid : Prop := ipv4BackUptoRow.holds Try.pinned (OpenSpec.upto ipv4BackSpec)

/-- 'rampartlaw03.Ipv4Edges', WHERE WHAT IT READS IS OF BULK AT MOST 1048576: true; the input reads as it did. -/
def ipv4EdgesUptoRow : OpenClaim := { program := "ytgolimfljndnmaa", sum := "61fc3cd593a7a37ee31fabc14a256911b59ccef7814de267334c8338a33e6ef2", func := "rampart/rampartlaw03.Ipv4Edges", spec := "ipv4Edges", unfollowed := true, recurses := true, apart := false, narrowed := true }
def Ipv4EdgesUptoSaid : Prop := ipv4EdgesUptoRow.holds Try.pinned (OpenSpec.upto ipv4EdgesSpec)

/-- 'rampartlaw03.Ipv4Wrong', WHERE WHAT IT READS IS OF BULK AT MOST 1048576: true; the input reads as it did. -/
def ipv4WrongUptoRow : OpenClaim := { program := "ytgolimfljndnmaa", sum := "61fc3cd593a7a37ee31fabc14a256911b59ccef7814de267334c8338a33e6ef2", func := "rampart/rampartlaw03.Ipv4Wrong", spec := "ipv4Wrong", unfollowed := true, recurses := true, apart := false, narrowed := true }
def Ipv4WrongUptoSaid : Prop := ipv4WrongUptoRow.holds Try.pinned (OpenSpec.upto ipv4WrongSpec)

/-- 'rampartlaw04.TcpAll', WHERE WHAT IT READS IS OF BULK AT MOST 1048576: true; the input reads as it did. -/
def tcpAllUptoRow : OpenClaim := { program := "ytgolimfljndnmaa", sum := "61fc3cd593a7a37ee31fabc14a256911b59ccef7814de267334c8338a33e6ef2", func := "rampart/rampartlaw04.TcpAll", spec := "tcpAll", apart := false, narrowed := true }
def TcpAllUptoSaid : Prop := tcpAllUptoRow.holds Try.pinned (OpenSpec.upto tcpAllSpec)

/-- 'rampartlaw04.TcpBack', WHERE WHAT IT READS IS OF BULK AT MOST 1048576: true; the input reads as it did. -/
def tcpBackUptoRow : OpenClaim := { program := "ytgolimfljndnmaa", sum := "61fc3cd593a7a37ee31fabc14a256911b59ccef7814de267334c8338a33e6ef2", func := "rampart/rampartlaw04.TcpBack", spec := "tcpBack", apart := false, narrowed := true }
def TcpBackUptoSaid : Prop := tcpBackUptoRow.holds Try.pinned (OpenSpec.upto tcpBackSpec)

/-- 'rampartlaw04.TcpEdges', WHERE WHAT IT READS IS OF BULK AT MOST 1048576: true; the input reads as it did. -/
def tcpEdgesUptoRow : OpenClaim := { program := "ytgolimfljndnmaa", sum := "61fc3cd593a7a37ee31fabc14a256911b59ccef7814de267334c8338a33e6ef2", func := "rampart/rampartlaw04.TcpEdges", spec := "tcpEdges", apart := false, narrowed := true }
def TcpEdgesUptoSaid : Prop := tcpEdgesUptoRow.holds Try.pinned (OpenSpec.upto tcpEdgesSpec)

/-- 'rampartlaw04.TcpWrong', WHERE WHAT IT READS IS OF BULK AT MOST 1048576: true; the input reads as it did. -/
def tcpWrongUptoRow : OpenClaim := { program := "ytgolimfljndnmaa", sum := "61fc3cd593a7a37ee31fabc14a256911b59ccef7814de267334c8338a33e6ef2", func := "rampart/rampartlaw04.TcpWrong", spec := "tcpWrong", apart := false, narrowed := true }
def TcpWrongUptoSaid : Prop := tcpWrongUptoRow.holds Try.pinned (OpenSpec.upto tcpWrongSpec)

/-- 'rampartlaw05.DgramCut', WHERE WHAT IT READS IS OF BULK AT MOST 1048576: true; the input reads as it did. -/
def dgramCutUptoRow : OpenClaim := { program := "ytgolimfljndnmaa", sum := "61fc3cd593a7a37ee31fabc14a256911b59ccef7814de267334c8338a33e6ef2", func := "rampart/rampartlaw05.DgramCut", spec := "dgramCut", unfollowed := true, recurses := true, apart := false, narrowed := true }
def DgramCutUptoSaid : Prop := dgramCutUptoRow.holds Try.pinned (OpenSpec.upto dgramCutSpec)

/-- 'rampartlaw05.DgramAll', WHERE WHAT IT READS IS OF BULK AT MOST 1048576: true; the input reads as it did. -/
def dgramAllUptoRow : OpenClaim := { program := "ytgolimfljndnmaa", sum := "61fc3cd593a7a37ee31fabc14a256911b59ccef7814de267334c8338a33e6ef2", func := "rampart/rampartlaw05.DgramAll", spec := "dgramAll", unfollowed := true, recurses := true, apart := false, narrowed := true }
def DgramAllUptoSaid : Prop := dgramAllUptoRow.holds Try.pinned (OpenSpec.upto dgramAllSpec)

/-- 'rampartlaw05.DgramBack', WHERE WHAT IT READS IS OF BULK AT MOST 1048576: true; the input reads as it did. -/
def dgramBackUptoRow : OpenClaim := { program := "ytgolimfljndnmaa", sum := "61fc3cd593a7a37ee31fabc14a256911b59ccef7814de267334c8338a33e6ef2", func := "rampart/rampartlaw05.DgramBack", spec := "dgramBack", unfollowed := true, recurses := true, apart := false, narrowed := true }
def DgramBackUptoSaid : Prop := dgramBackUptoRow.holds Try.pinned (OpenSpec.upto dgramBackSpec)

/-- 'rampartlaw05.DgramEdges', WHERE WHAT IT READS IS OF BULK AT MOST 1048576: true; the input reads as it did. -/
def dgramEdgesUptoRow : OpenClaim := { program := "ytgolimfljndnmaa", sum := "61fc3cd593a7a37ee31fabc14a256911b59ccef7814de267334c8338a33e6ef2", func := "rampart/rampartlaw05.DgramEdges", spec := "dgramEdges", unfollowed := true, recurses := true, apart := false, narrowed := true }
def DgramEdgesUptoSaid : Prop := dgramEdgesUptoRow.holds Try.pinned (OpenSpec.upto dgramEdgesSpec)

end Rows
end Go.Proofs.Ytgolimfljndnmaa
