/-
  No cell of these rows narrows 'for every input' (looked for: loops, veiled, ifaces, maps, wideKeys, modest, calm, conditions, laid).
  DERIVED. THE GIVEN ROWS OF THIS SEAT. 25 by the template 'for every input the law returns true; each argument reads behind the call as it read before'; 0 by the template 'total and deterministic' (their statements: YtdpgdelimffjpaaTotals.lean).
  GIVEN WITH THE SEED: the statements are not yours to turn. If you find one false, say at which input.
  Laid BY PROGRAM, IN A SANDBOX (cutbox-rows.mjs): the forced cells as the released guide's own fill.sh prints them over the translation 4a0d0e766d403b05… (all of the seat's roots in one cut). By AI agents, Wed Nov 11 2026. No macro, syntax, notation, axiom, sorry.
-/
import Derived.Test.YtdpgdelimffjpaaChecked
import GoSem.Claim
import GoSem.ClaimJoined
import GoSem.ClaimMapViews
import Derived.JoinedTies
import Derived.KernelRfl
namespace Go.Proofs.Ytdpgdelimffjpaa
/- THE CELL 'sum', in the pinned program and in every row, IS THE sha256 OF THE DUMP (.gsa) THAT YtdpgdelimffjpaaProg.lean LOADS. Nothing in Lean hashes anything: it is a label: what it is worth is what the hold of that sum in a sandbox is worth. -/
noncomputable def Try.pinned : Pinned := { name := "ytdpgdelimffjpaa", sum := "4a0d0e766d403b05b083cfa48bce2403db28f7e8defda9709c6ebe0490f43833", checked := Try.checked }
namespace Rows
def none {H : Type} : Left H := { results := [], args := [] }

/-- 'pylonlaw15.IslandConnected': WHATEVER THE INPUT: true; the input reads as it did. -/
def islandConnectedSpec : ChangeSpec := { name := "islandConnected", fn := fun _ => fun
  | [d1, d2] => { results := [.lit (.bool true)], args := [d1, d2] }
  | _ => none }
def islandConnectedRow : OpenClaim := { program := "ytdpgdelimffjpaa", sum := "4a0d0e766d403b05b083cfa48bce2403db28f7e8defda9709c6ebe0490f43833", func := "pylon/pylonlaw15.IslandConnected", spec := "islandConnected", unfollowed := true, recurses := true, apart := false }
def IslandConnectedSaid : Prop := islandConnectedRow.holds Try.pinned (OpenSpec.ofChange islandConnectedSpec)

/-- ITS FALSE NEIGHBOUR: 'it returns false'. Refute it at one input. -/
def islandConnectedWrong : ChangeSpec := { name := "islandConnected", fn := fun _ => fun
  | [d1, d2] => { results := [.lit (.bool false)], args := [d1, d2] }
  | _ => none }
def IslandConnectedWrongFalsely : Prop := islandConnectedRow.holds Try.pinned (OpenSpec.ofChange islandConnectedWrong)

/-- 'pylonlaw15.IslandReverse': WHATEVER THE INPUT: true; the input reads as it did. -/
def islandReverseSpec : ChangeSpec := { name := "islandReverse", fn := fun _ => fun
  | [d1, d2, d3, d4, d5] => { results := [.lit (.bool true)], args := [d1, d2, d3, d4, d5] }
  | _ => none }
def islandReverseRow : OpenClaim := { program := "ytdpgdelimffjpaa", sum := "4a0d0e766d403b05b083cfa48bce2403db28f7e8defda9709c6ebe0490f43833", func := "pylon/pylonlaw15.IslandReverse", spec := "islandReverse", unfollowed := true, recurses := true, apart := false }
def IslandReverseSaid : Prop := islandReverseRow.holds Try.pinned (OpenSpec.ofChange islandReverseSpec)

/-- ITS FALSE NEIGHBOUR: 'it returns false'. Refute it at one input. -/
def islandReverseWrong : ChangeSpec := { name := "islandReverse", fn := fun _ => fun
  | [d1, d2, d3, d4, d5] => { results := [.lit (.bool false)], args := [d1, d2, d3, d4, d5] }
  | _ => none }
def IslandReverseWrongFalsely : Prop := islandReverseRow.holds Try.pinned (OpenSpec.ofChange islandReverseWrong)

/-- 'pylonlaw15.IslandLabelling': WHATEVER THE INPUT: true; the input reads as it did. -/
def islandLabellingSpec : ChangeSpec := { name := "islandLabelling", fn := fun _ => fun
  | [d1, d2, d3] => { results := [.lit (.bool true)], args := [d1, d2, d3] }
  | _ => none }
def islandLabellingRow : OpenClaim := { program := "ytdpgdelimffjpaa", sum := "4a0d0e766d403b05b083cfa48bce2403db28f7e8defda9709c6ebe0490f43833", func := "pylon/pylonlaw15.IslandLabelling", spec := "islandLabelling", unfollowed := true, recurses := true, apart := false }
def IslandLabellingSaid : Prop := islandLabellingRow.holds Try.pinned (OpenSpec.ofChange islandLabellingSpec)

/-- ITS FALSE NEIGHBOUR: 'it returns false'. Refute it at one input. -/
def islandLabellingWrong : ChangeSpec := { name := "islandLabelling", fn := fun _ => fun
  | [d1, d2, d3] => { results := [.lit (.bool false)], args := [d1, d2, d3] }
  | _ => none }
def IslandLabellingWrongFalsely : Prop := islandLabellingRow.holds Try.pinned (OpenSpec.ofChange islandLabellingWrong)

/-- 'pylonlaw15.IslandMatches': WHATEVER THE INPUT: true; the input reads as it did. -/
def islandMatchesSpec : ChangeSpec := { name := "islandMatches", fn := fun _ => fun
  | [d1, d2] => { results := [.lit (.bool true)], args := [d1, d2] }
  | _ => none }
def islandMatchesRow : OpenClaim := { program := "ytdpgdelimffjpaa", sum := "4a0d0e766d403b05b083cfa48bce2403db28f7e8defda9709c6ebe0490f43833", func := "pylon/pylonlaw15.IslandMatches", spec := "islandMatches", unfollowed := true, recurses := true, apart := false }
def IslandMatchesSaid : Prop := islandMatchesRow.holds Try.pinned (OpenSpec.ofChange islandMatchesSpec)

/-- ITS FALSE NEIGHBOUR: 'it returns false'. Refute it at one input. -/
def islandMatchesWrong : ChangeSpec := { name := "islandMatches", fn := fun _ => fun
  | [d1, d2] => { results := [.lit (.bool false)], args := [d1, d2] }
  | _ => none }
def IslandMatchesWrongFalsely : Prop := islandMatchesRow.holds Try.pinned (OpenSpec.ofChange islandMatchesWrong)

/-- 'pylonlaw15.IslandNumbering': WHATEVER THE INPUT: true; the input reads as it did. -/
def islandNumberingSpec : ChangeSpec := { name := "islandNumbering", fn := fun _ => fun
  | [d1, d2] => { results := [.lit (.bool true)], args := [d1, d2] }
  | _ => none }
def islandNumberingRow : OpenClaim := { program := "ytdpgdelimffjpaa", sum := "4a0d0e766d403b05b083cfa48bce2403db28f7e8defda9709c6ebe0490f43833", func := "pylon/pylonlaw15.IslandNumbering", spec := "islandNumbering", unfollowed := true, recurses := true, apart := false }
def IslandNumberingSaid : Prop := islandNumberingRow.holds Try.pinned (OpenSpec.ofChange islandNumberingSpec)

/-- ITS FALSE NEIGHBOUR: 'it returns false'. Refute it at one input. -/
def islandNumberingWrong : ChangeSpec := { name := "islandNumbering", fn := fun _ => fun
  | [d1, d2] => { results := [.lit (.bool false)], args := [d1, d2] }
  | _ => none }
def IslandNumberingWrongFalsely : Prop := islandNumberingRow.holds Try.pinned (OpenSpec.ofChange islandNumberingWrong)

/-- 'pylonlaw15.IslandPredicatesMatch': WHATEVER THE INPUT: true; the input reads as it did. -/
def islandPredicatesMatchSpec : ChangeSpec := { name := "islandPredicatesMatch", fn := fun _ => fun
  | [d1, d2, d3, d4, d5] => { results := [.lit (.bool true)], args := [d1, d2, d3, d4, d5] }
  | _ => none }
def islandPredicatesMatchRow : OpenClaim := { program := "ytdpgdelimffjpaa", sum := "4a0d0e766d403b05b083cfa48bce2403db28f7e8defda9709c6ebe0490f43833", func := "pylon/pylonlaw15.IslandPredicatesMatch", spec := "islandPredicatesMatch", unfollowed := true, recurses := true, apart := false }
def IslandPredicatesMatchSaid : Prop := islandPredicatesMatchRow.holds Try.pinned (OpenSpec.ofChange islandPredicatesMatchSpec)

/-- ITS FALSE NEIGHBOUR: 'it returns false'. Refute it at one input. -/
def islandPredicatesMatchWrong : ChangeSpec := { name := "islandPredicatesMatch", fn := fun _ => fun
  | [d1, d2, d3, d4, d5] => { results := [.lit (.bool false)], args := [d1, d2, d3, d4, d5] }
  | _ => none }
def IslandPredicatesMatchWrongFalsely : Prop := islandPredicatesMatchRow.holds Try.pinned (OpenSpec.ofChange islandPredicatesMatchWrong)

/-- 'pylonlaw15.IslandOutage': WHATEVER THE INPUT: true; the input reads as it did. -/
def islandOutageSpec : ChangeSpec := { name := "islandOutage", fn := fun _ => fun
  | [d1, d2, d3] => { results := [.lit (.bool true)], args := [d1, d2, d3] }
  | _ => none }
def islandOutageRow : OpenClaim := { program := "ytdpgdelimffjpaa", sum := "4a0d0e766d403b05b083cfa48bce2403db28f7e8defda9709c6ebe0490f43833", func := "pylon/pylonlaw15.IslandOutage", spec := "islandOutage", unfollowed := true, recurses := true, apart := false }
def IslandOutageSaid : Prop := islandOutageRow.holds Try.pinned (OpenSpec.ofChange islandOutageSpec)

/-- ITS FALSE NEIGHBOUR: 'it returns false'. Refute it at one input. -/
def islandOutageWrong : ChangeSpec := { name := "islandOutage", fn := fun _ => fun
  | [d1, d2, d3] => { results := [.lit (.bool false)], args := [d1, d2, d3] }
  | _ => none }
def IslandOutageWrongFalsely : Prop := islandOutageRow.holds Try.pinned (OpenSpec.ofChange islandOutageWrong)

/-- 'pylonlaw15.IslandExamples': WHATEVER THE INPUT: true; the input reads as it did. -/
def islandExamplesSpec : ChangeSpec := { name := "islandExamples", fn := fun _ => fun
  | [] => { results := [.lit (.bool true)], args := [] }
  | _ => none }
def islandExamplesRow : OpenClaim := { program := "ytdpgdelimffjpaa", sum := "4a0d0e766d403b05b083cfa48bce2403db28f7e8defda9709c6ebe0490f43833", func := "pylon/pylonlaw15.IslandExamples", spec := "islandExamples", unfollowed := true, recurses := true, apart := false }
def IslandExamplesSaid : Prop := islandExamplesRow.holds Try.pinned (OpenSpec.ofChange islandExamplesSpec)

/-- ITS FALSE NEIGHBOUR: 'it returns false'. Refute it at one input. -/
def islandExamplesWrong : ChangeSpec := { name := "islandExamples", fn := fun _ => fun
  | [] => { results := [.lit (.bool false)], args := [] }
  | _ => none }
def IslandExamplesWrongFalsely : Prop := islandExamplesRow.holds Try.pinned (OpenSpec.ofChange islandExamplesWrong)

/-- 'pylonlaw16.TreeMatches': WHATEVER THE INPUT: true; the input reads as it did. -/
def treeMatchesSpec : ChangeSpec := { name := "treeMatches", fn := fun _ => fun
  | [d1, d2] => { results := [.lit (.bool true)], args := [d1, d2] }
  | _ => none }
def treeMatchesRow : OpenClaim := { program := "ytdpgdelimffjpaa", sum := "4a0d0e766d403b05b083cfa48bce2403db28f7e8defda9709c6ebe0490f43833", func := "pylon/pylonlaw16.TreeMatches", spec := "treeMatches", unfollowed := true, recurses := true, apart := false }
def TreeMatchesSaid : Prop := treeMatchesRow.holds Try.pinned (OpenSpec.ofChange treeMatchesSpec)

/-- ITS FALSE NEIGHBOUR: 'it returns false'. Refute it at one input. -/
def treeMatchesWrong : ChangeSpec := { name := "treeMatches", fn := fun _ => fun
  | [d1, d2] => { results := [.lit (.bool false)], args := [d1, d2] }
  | _ => none }
def TreeMatchesWrongFalsely : Prop := treeMatchesRow.holds Try.pinned (OpenSpec.ofChange treeMatchesWrong)

/-- 'pylonlaw16.TreeBridges': WHATEVER THE INPUT: true; the input reads as it did. -/
def treeBridgesSpec : ChangeSpec := { name := "treeBridges", fn := fun _ => fun
  | [d1, d2] => { results := [.lit (.bool true)], args := [d1, d2] }
  | _ => none }
def treeBridgesRow : OpenClaim := { program := "ytdpgdelimffjpaa", sum := "4a0d0e766d403b05b083cfa48bce2403db28f7e8defda9709c6ebe0490f43833", func := "pylon/pylonlaw16.TreeBridges", spec := "treeBridges", unfollowed := true, recurses := true, apart := false }
def TreeBridgesSaid : Prop := treeBridgesRow.holds Try.pinned (OpenSpec.ofChange treeBridgesSpec)

/-- ITS FALSE NEIGHBOUR: 'it returns false'. Refute it at one input. -/
def treeBridgesWrong : ChangeSpec := { name := "treeBridges", fn := fun _ => fun
  | [d1, d2] => { results := [.lit (.bool false)], args := [d1, d2] }
  | _ => none }
def TreeBridgesWrongFalsely : Prop := treeBridgesRow.holds Try.pinned (OpenSpec.ofChange treeBridgesWrong)

/-- 'pylonlaw16.TreePathMatches': WHATEVER THE INPUT: true; the input reads as it did. -/
def treePathMatchesSpec : ChangeSpec := { name := "treePathMatches", fn := fun _ => fun
  | [d1, d2, d3, d4] => { results := [.lit (.bool true)], args := [d1, d2, d3, d4] }
  | _ => none }
def treePathMatchesRow : OpenClaim := { program := "ytdpgdelimffjpaa", sum := "4a0d0e766d403b05b083cfa48bce2403db28f7e8defda9709c6ebe0490f43833", func := "pylon/pylonlaw16.TreePathMatches", spec := "treePathMatches", unfollowed := true, recurses := true, apart := false }
def TreePathMatchesSaid : Prop := treePathMatchesRow.holds Try.pinned (OpenSpec.ofChange treePathMatchesSpec)

/-- ITS FALSE NEIGHBOUR: 'it returns false'. Refute it at one input. -/
def treePathMatchesWrong : ChangeSpec := { name := "treePathMatches", fn := fun _ => fun
  | [d1, d2, d3, d4] => { results := [.lit (.bool false)], args := [d1, d2, d3, d4] }
  | _ => none }
def TreePathMatchesWrongFalsely : Prop := treePathMatchesRow.holds Try.pinned (OpenSpec.ofChange treePathMatchesWrong)

/-- 'pylonlaw16.TreeExamples': WHATEVER THE INPUT: true; the input reads as it did. -/
def treeExamplesSpec : ChangeSpec := { name := "treeExamples", fn := fun _ => fun
  | [] => { results := [.lit (.bool true)], args := [] }
  | _ => none }
def treeExamplesRow : OpenClaim := { program := "ytdpgdelimffjpaa", sum := "4a0d0e766d403b05b083cfa48bce2403db28f7e8defda9709c6ebe0490f43833", func := "pylon/pylonlaw16.TreeExamples", spec := "treeExamples", unfollowed := true, recurses := true, apart := false }
def TreeExamplesSaid : Prop := treeExamplesRow.holds Try.pinned (OpenSpec.ofChange treeExamplesSpec)

/-- ITS FALSE NEIGHBOUR: 'it returns false'. Refute it at one input. -/
def treeExamplesWrong : ChangeSpec := { name := "treeExamples", fn := fun _ => fun
  | [] => { results := [.lit (.bool false)], args := [] }
  | _ => none }
def TreeExamplesWrongFalsely : Prop := treeExamplesRow.holds Try.pinned (OpenSpec.ofChange treeExamplesWrong)

/-- 'pylonlaw16.TreeGreedy': WHATEVER THE INPUT: true; the input reads as it did. -/
def treeGreedySpec : ChangeSpec := { name := "treeGreedy", fn := fun _ => fun
  | [d1, d2] => { results := [.lit (.bool true)], args := [d1, d2] }
  | _ => none }
def treeGreedyRow : OpenClaim := { program := "ytdpgdelimffjpaa", sum := "4a0d0e766d403b05b083cfa48bce2403db28f7e8defda9709c6ebe0490f43833", func := "pylon/pylonlaw16.TreeGreedy", spec := "treeGreedy", unfollowed := true, recurses := true, apart := false }
def TreeGreedySaid : Prop := treeGreedyRow.holds Try.pinned (OpenSpec.ofChange treeGreedySpec)

/-- ITS FALSE NEIGHBOUR: 'it returns false'. Refute it at one input. -/
def treeGreedyWrong : ChangeSpec := { name := "treeGreedy", fn := fun _ => fun
  | [d1, d2] => { results := [.lit (.bool false)], args := [d1, d2] }
  | _ => none }
def TreeGreedyWrongFalsely : Prop := treeGreedyRow.holds Try.pinned (OpenSpec.ofChange treeGreedyWrong)

/-- 'pylonlaw16.TreeBalance': WHATEVER THE INPUT: true; the input reads as it did. -/
def treeBalanceSpec : ChangeSpec := { name := "treeBalance", fn := fun _ => fun
  | [d1, d2, d3, d4] => { results := [.lit (.bool true)], args := [d1, d2, d3, d4] }
  | _ => none }
def treeBalanceRow : OpenClaim := { program := "ytdpgdelimffjpaa", sum := "4a0d0e766d403b05b083cfa48bce2403db28f7e8defda9709c6ebe0490f43833", func := "pylon/pylonlaw16.TreeBalance", spec := "treeBalance", unfollowed := true, recurses := true, apart := false }
def TreeBalanceSaid : Prop := treeBalanceRow.holds Try.pinned (OpenSpec.ofChange treeBalanceSpec)

/-- ITS FALSE NEIGHBOUR: 'it returns false'. Refute it at one input. -/
def treeBalanceWrong : ChangeSpec := { name := "treeBalance", fn := fun _ => fun
  | [d1, d2, d3, d4] => { results := [.lit (.bool false)], args := [d1, d2, d3, d4] }
  | _ => none }
def TreeBalanceWrongFalsely : Prop := treeBalanceRow.holds Try.pinned (OpenSpec.ofChange treeBalanceWrong)

/-- 'pylonlaw16.TreeCycles': WHATEVER THE INPUT: true; the input reads as it did. -/
def treeCyclesSpec : ChangeSpec := { name := "treeCycles", fn := fun _ => fun
  | [d1, d2] => { results := [.lit (.bool true)], args := [d1, d2] }
  | _ => none }
def treeCyclesRow : OpenClaim := { program := "ytdpgdelimffjpaa", sum := "4a0d0e766d403b05b083cfa48bce2403db28f7e8defda9709c6ebe0490f43833", func := "pylon/pylonlaw16.TreeCycles", spec := "treeCycles", unfollowed := true, recurses := true, apart := false }
def TreeCyclesSaid : Prop := treeCyclesRow.holds Try.pinned (OpenSpec.ofChange treeCyclesSpec)

/-- ITS FALSE NEIGHBOUR: 'it returns false'. Refute it at one input. -/
def treeCyclesWrong : ChangeSpec := { name := "treeCycles", fn := fun _ => fun
  | [d1, d2] => { results := [.lit (.bool false)], args := [d1, d2] }
  | _ => none }
def TreeCyclesWrongFalsely : Prop := treeCyclesRow.holds Try.pinned (OpenSpec.ofChange treeCyclesWrong)

/-- 'pylonlaw16.TreeSpanning': WHATEVER THE INPUT: true; the input reads as it did. -/
def treeSpanningSpec : ChangeSpec := { name := "treeSpanning", fn := fun _ => fun
  | [d1, d2] => { results := [.lit (.bool true)], args := [d1, d2] }
  | _ => none }
def treeSpanningRow : OpenClaim := { program := "ytdpgdelimffjpaa", sum := "4a0d0e766d403b05b083cfa48bce2403db28f7e8defda9709c6ebe0490f43833", func := "pylon/pylonlaw16.TreeSpanning", spec := "treeSpanning", unfollowed := true, recurses := true, apart := false }
def TreeSpanningSaid : Prop := treeSpanningRow.holds Try.pinned (OpenSpec.ofChange treeSpanningSpec)

/-- ITS FALSE NEIGHBOUR: 'it returns false'. Refute it at one input. -/
def treeSpanningWrong : ChangeSpec := { name := "treeSpanning", fn := fun _ => fun
  | [d1, d2] => { results := [.lit (.bool false)], args := [d1, d2] }
  | _ => none }
def TreeSpanningWrongFalsely : Prop := treeSpanningRow.holds Try.pinned (OpenSpec.ofChange treeSpanningWrong)

/-- 'pylonlaw14.NetMatches': WHATEVER THE INPUT: true; the input reads as it did. -/
def netMatchesSpec : ChangeSpec := { name := "netMatches", fn := fun _ => fun
  | [d1, d2, d3] => { results := [.lit (.bool true)], args := [d1, d2, d3] }
  | _ => none }
def netMatchesRow : OpenClaim := { program := "ytdpgdelimffjpaa", sum := "4a0d0e766d403b05b083cfa48bce2403db28f7e8defda9709c6ebe0490f43833", func := "pylon/pylonlaw14.NetMatches", spec := "netMatches", unfollowed := true, recurses := true, apart := false }
def NetMatchesSaid : Prop := netMatchesRow.holds Try.pinned (OpenSpec.ofChange netMatchesSpec)

/-- ITS FALSE NEIGHBOUR: 'it returns false'. Refute it at one input. -/
def netMatchesWrong : ChangeSpec := { name := "netMatches", fn := fun _ => fun
  | [d1, d2, d3] => { results := [.lit (.bool false)], args := [d1, d2, d3] }
  | _ => none }
def NetMatchesWrongFalsely : Prop := netMatchesRow.holds Try.pinned (OpenSpec.ofChange netMatchesWrong)

/-- 'pylonlaw14.NetUnionMatches': WHATEVER THE INPUT: true; the input reads as it did. -/
def netUnionMatchesSpec : ChangeSpec := { name := "netUnionMatches", fn := fun _ => fun
  | [d1, d2] => { results := [.lit (.bool true)], args := [d1, d2] }
  | _ => none }
def netUnionMatchesRow : OpenClaim := { program := "ytdpgdelimffjpaa", sum := "4a0d0e766d403b05b083cfa48bce2403db28f7e8defda9709c6ebe0490f43833", func := "pylon/pylonlaw14.NetUnionMatches", spec := "netUnionMatches", unfollowed := true, recurses := true, apart := false }
def NetUnionMatchesSaid : Prop := netUnionMatchesRow.holds Try.pinned (OpenSpec.ofChange netUnionMatchesSpec)

/-- ITS FALSE NEIGHBOUR: 'it returns false'. Refute it at one input. -/
def netUnionMatchesWrong : ChangeSpec := { name := "netUnionMatches", fn := fun _ => fun
  | [d1, d2] => { results := [.lit (.bool false)], args := [d1, d2] }
  | _ => none }
def NetUnionMatchesWrongFalsely : Prop := netUnionMatchesRow.holds Try.pinned (OpenSpec.ofChange netUnionMatchesWrong)

/-- 'pylonlaw14.NetPartition': WHATEVER THE INPUT: true; the input reads as it did. -/
def netPartitionSpec : ChangeSpec := { name := "netPartition", fn := fun _ => fun
  | [d1, d2] => { results := [.lit (.bool true)], args := [d1, d2] }
  | _ => none }
def netPartitionRow : OpenClaim := { program := "ytdpgdelimffjpaa", sum := "4a0d0e766d403b05b083cfa48bce2403db28f7e8defda9709c6ebe0490f43833", func := "pylon/pylonlaw14.NetPartition", spec := "netPartition", unfollowed := true, recurses := true, apart := false }
def NetPartitionSaid : Prop := netPartitionRow.holds Try.pinned (OpenSpec.ofChange netPartitionSpec)

/-- ITS FALSE NEIGHBOUR: 'it returns false'. Refute it at one input. -/
def netPartitionWrong : ChangeSpec := { name := "netPartition", fn := fun _ => fun
  | [d1, d2] => { results := [.lit (.bool false)], args := [d1, d2] }
  | _ => none }
def NetPartitionWrongFalsely : Prop := netPartitionRow.holds Try.pinned (OpenSpec.ofChange netPartitionWrong)

/-- 'pylonlaw14.NetEndpoints': WHATEVER THE INPUT: true; the input reads as it did. -/
def netEndpointsSpec : ChangeSpec := { name := "netEndpoints", fn := fun _ => fun
  | [d1, d2] => { results := [.lit (.bool true)], args := [d1, d2] }
  | _ => none }
def netEndpointsRow : OpenClaim := { program := "ytdpgdelimffjpaa", sum := "4a0d0e766d403b05b083cfa48bce2403db28f7e8defda9709c6ebe0490f43833", func := "pylon/pylonlaw14.NetEndpoints", spec := "netEndpoints", unfollowed := true, recurses := true, apart := false }
def NetEndpointsSaid : Prop := netEndpointsRow.holds Try.pinned (OpenSpec.ofChange netEndpointsSpec)

/-- ITS FALSE NEIGHBOUR: 'it returns false'. Refute it at one input. -/
def netEndpointsWrong : ChangeSpec := { name := "netEndpoints", fn := fun _ => fun
  | [d1, d2] => { results := [.lit (.bool false)], args := [d1, d2] }
  | _ => none }
def NetEndpointsWrongFalsely : Prop := netEndpointsRow.holds Try.pinned (OpenSpec.ofChange netEndpointsWrong)

/-- 'pylonlaw14.NetUnion': WHATEVER THE INPUT: true; the input reads as it did. -/
def netUnionSpec : ChangeSpec := { name := "netUnion", fn := fun _ => fun
  | [d1, d2, d3] => { results := [.lit (.bool true)], args := [d1, d2, d3] }
  | _ => none }
def netUnionRow : OpenClaim := { program := "ytdpgdelimffjpaa", sum := "4a0d0e766d403b05b083cfa48bce2403db28f7e8defda9709c6ebe0490f43833", func := "pylon/pylonlaw14.NetUnion", spec := "netUnion", unfollowed := true, recurses := true, apart := false }
def NetUnionSaid : Prop := netUnionRow.holds Try.pinned (OpenSpec.ofChange netUnionSpec)

/-- ITS FALSE NEIGHBOUR: 'it returns false'. Refute it at one input. -/
def netUnionWrong : ChangeSpec := { name := "netUnion", fn := fun _ => fun
  | [d1, d2, d3] => { results := [.lit (.bool false)], args := [d1, d2, d3] }
  | _ => none }
def NetUnionWrongFalsely : Prop := netUnionRow.holds Try.pinned (OpenSpec.ofChange netUnionWrong)

/-- 'pylonlaw14.NetExamples': WHATEVER THE INPUT: true; the input reads as it did. -/
def netExamplesSpec : ChangeSpec := { name := "netExamples", fn := fun _ => fun
  | [] => { results := [.lit (.bool true)], args := [] }
  | _ => none }
def netExamplesRow : OpenClaim := { program := "ytdpgdelimffjpaa", sum := "4a0d0e766d403b05b083cfa48bce2403db28f7e8defda9709c6ebe0490f43833", func := "pylon/pylonlaw14.NetExamples", spec := "netExamples", unfollowed := true, recurses := true, apart := false }
def NetExamplesSaid : Prop := netExamplesRow.holds Try.pinned (OpenSpec.ofChange netExamplesSpec)

/-- ITS FALSE NEIGHBOUR: 'it returns false'. Refute it at one input. -/
def netExamplesWrong : ChangeSpec := { name := "netExamples", fn := fun _ => fun
  | [] => { results := [.lit (.bool false)], args := [] }
  | _ => none }
def NetExamplesWrongFalsely : Prop := netExamplesRow.holds Try.pinned (OpenSpec.ofChange netExamplesWrong)

/-- 'pylonlaw14.NetStrip': WHATEVER THE INPUT: true; the input reads as it did. -/
def netStripSpec : ChangeSpec := { name := "netStrip", fn := fun _ => fun
  | [d1, d2, d3] => { results := [.lit (.bool true)], args := [d1, d2, d3] }
  | _ => none }
def netStripRow : OpenClaim := { program := "ytdpgdelimffjpaa", sum := "4a0d0e766d403b05b083cfa48bce2403db28f7e8defda9709c6ebe0490f43833", func := "pylon/pylonlaw14.NetStrip", spec := "netStrip", unfollowed := true, recurses := true, apart := false }
def NetStripSaid : Prop := netStripRow.holds Try.pinned (OpenSpec.ofChange netStripSpec)

/-- ITS FALSE NEIGHBOUR: 'it returns false'. Refute it at one input. -/
def netStripWrong : ChangeSpec := { name := "netStrip", fn := fun _ => fun
  | [d1, d2, d3] => { results := [.lit (.bool false)], args := [d1, d2, d3] }
  | _ => none }
def NetStripWrongFalsely : Prop := netStripRow.holds Try.pinned (OpenSpec.ofChange netStripWrong)

/-- 'pylonlaw14.NetBuildMatches': WHATEVER THE INPUT: true; the input reads as it did. -/
def netBuildMatchesSpec : ChangeSpec := { name := "netBuildMatches", fn := fun _ => fun
  | [d1, d2, d3, d4] => { results := [.lit (.bool true)], args := [d1, d2, d3, d4] }
  | _ => none }
def netBuildMatchesRow : OpenClaim := { program := "ytdpgdelimffjpaa", sum := "4a0d0e766d403b05b083cfa48bce2403db28f7e8defda9709c6ebe0490f43833", func := "pylon/pylonlaw14.NetBuildMatches", spec := "netBuildMatches", unfollowed := true, recurses := true, apart := false }
def NetBuildMatchesSaid : Prop := netBuildMatchesRow.holds Try.pinned (OpenSpec.ofChange netBuildMatchesSpec)

/-- ITS FALSE NEIGHBOUR: 'it returns false'. Refute it at one input. -/
def netBuildMatchesWrong : ChangeSpec := { name := "netBuildMatches", fn := fun _ => fun
  | [d1, d2, d3, d4] => { results := [.lit (.bool false)], args := [d1, d2, d3, d4] }
  | _ => none }
def NetBuildMatchesWrongFalsely : Prop := netBuildMatchesRow.holds Try.pinned (OpenSpec.ofChange netBuildMatchesWrong)

/-- 'pylonlaw14.NetReverse': WHATEVER THE INPUT: true; the input reads as it did. -/
def netReverseSpec : ChangeSpec := { name := "netReverse", fn := fun _ => fun
  | [d1, d2, d3, d4] => { results := [.lit (.bool true)], args := [d1, d2, d3, d4] }
  | _ => none }
def netReverseRow : OpenClaim := { program := "ytdpgdelimffjpaa", sum := "4a0d0e766d403b05b083cfa48bce2403db28f7e8defda9709c6ebe0490f43833", func := "pylon/pylonlaw14.NetReverse", spec := "netReverse", unfollowed := true, recurses := true, apart := false }
def NetReverseSaid : Prop := netReverseRow.holds Try.pinned (OpenSpec.ofChange netReverseSpec)

/-- ITS FALSE NEIGHBOUR: 'it returns false'. Refute it at one input. -/
def netReverseWrong : ChangeSpec := { name := "netReverse", fn := fun _ => fun
  | [d1, d2, d3, d4] => { results := [.lit (.bool false)], args := [d1, d2, d3, d4] }
  | _ => none }
def NetReverseWrongFalsely : Prop := netReverseRow.holds Try.pinned (OpenSpec.ofChange netReverseWrong)

/- THE SECOND FORM. 'bulk': how many values and letters a reading holds, each counted each time it is reached (what is shared counts as often as it is met; a slice's spare places count too). A statement '..UptoSaid' is the law's where the arguments, and the package variables that the reading takes, are together of bulk at most 1048576: NARROWER than '..Said'. Prove '..Said' where nothing that the law and all that it calls make is longer than what came in: it says more and counts as full. Else prove '..UptoSaid'. A law counts once. -/
mutual
def uptoBulk {H : Type} : DataW H → Nat
  | .lit (.string bytes) => bytes.length + 1
  | .lit _ => 1
  | .nil => 1
  | .ptr d => uptoBulk d + 1
  | .slice elems spare => uptoBulkAll elems + uptoBulkAll spare + 1
  | .agg parts => uptoBulkAll parts + 1
  | .iface _ d => uptoBulk d + 1
  | .map entries => uptoBulkEntries entries + 1
  | .held _ => 1
def uptoBulkAll {H : Type} : List (DataW H) → Nat
  | [] => 0
  | d :: r => uptoBulk d + uptoBulkAll r
def uptoBulkEntries {H : Type} : List (Lit × DataW H) → Nat
  | [] => 0
  | x :: r => uptoBulkEntry x + uptoBulkEntries r
def uptoBulkEntry {H : Type} : Lit × DataW H → Nat
  | (.string bytes, d) => bytes.length + uptoBulk d + 1
  | (_, d) => uptoBulk d + 1
 end
def uptoSmall : (H : Type) → List (DataW H) → Bool := fun _ ds => decide (uptoBulkAll ds ≤ 1048576)
def OpenSpec.upto (s : _root_.Go.ChangeSpec) : _root_.Go.OpenSpec := { _root_.Go.OpenSpec.ofChange s with cond := some uptoSmall }

/-- 'pylonlaw15.IslandConnected', WHERE WHAT IT READS IS OF BULK AT MOST 1048576: true; the input reads as it did. -/
def islandConnectedUptoRow : OpenClaim := { program := "ytdpgdelimffjpaa", sum := "4a0d0e766d403b05b083cfa48bce2403db28f7e8defda9709c6ebe0490f43833", func := "pylon/pylonlaw15.IslandConnected", spec := "islandConnected", unfollowed := true, recurses := true, apart := false, narrowed := true }
def IslandConnectedUptoSaid : Prop := islandConnectedUptoRow.holds Try.pinned (OpenSpec.upto islandConnectedSpec)

/-- 'pylonlaw15.IslandReverse', WHERE WHAT IT READS IS OF BULK AT MOST 1048576: true; the input reads as it did. -/
def islandReverseUptoRow : OpenClaim := { program := "ytdpgdelimffjpaa", sum := "4a0d0e766d403b05b083cfa48bce2403db28f7e8defda9709c6ebe0490f43833", func := "pylon/pylonlaw15.IslandReverse", spec := "islandReverse", unfollowed := true, recurses := true, apart := false, narrowed := true }
def IslandReverseUptoSaid : Prop := islandReverseUptoRow.holds Try.pinned (OpenSpec.upto islandReverseSpec)

/-- 'pylonlaw15.IslandLabelling', WHERE WHAT IT READS IS OF BULK AT MOST 1048576: true; the input reads as it did. -/
def islandLabellingUptoRow : OpenClaim := { program := "ytdpgdelimffjpaa", sum := "4a0d0e766d403b05b083cfa48bce2403db28f7e8defda9709c6ebe0490f43833", func := "pylon/pylonlaw15.IslandLabelling", spec := "islandLabelling", unfollowed := true, recurses := true, apart := false, narrowed := true }
def IslandLabellingUptoSaid : Prop := islandLabellingUptoRow.holds Try.pinned (OpenSpec.upto islandLabellingSpec)

/-- 'pylonlaw15.IslandMatches', WHERE WHAT IT READS IS OF BULK AT MOST 1048576: true; the input reads as it did. -/
def islandMatchesUptoRow : OpenClaim := { program := "ytdpgdelimffjpaa", sum := "4a0d0e766d403b05b083cfa48bce2403db28f7e8defda9709c6ebe0490f43833", func := "pylon/pylonlaw15.IslandMatches", spec := "islandMatches", unfollowed := true, recurses := true, apart := false, narrowed := true }
def IslandMatchesUptoSaid : Prop := islandMatchesUptoRow.holds Try.pinned (OpenSpec.upto islandMatchesSpec)

/-- 'pylonlaw15.IslandNumbering', WHERE WHAT IT READS IS OF BULK AT MOST 1048576: true; the input reads as it did. -/
def islandNumberingUptoRow : OpenClaim := { program := "ytdpgdelimffjpaa", sum := "4a0d0e766d403b05b083cfa48bce2403db28f7e8defda9709c6ebe0490f43833", func := "pylon/pylonlaw15.IslandNumbering", spec := "islandNumbering", unfollowed := true, recurses := true, apart := false, narrowed := true }
def IslandNumberingUptoSaid : Prop := islandNumberingUptoRow.holds Try.pinned (OpenSpec.upto islandNumberingSpec)

/-- 'pylonlaw15.IslandPredicatesMatch', WHERE WHAT IT READS IS OF BULK AT MOST 1048576: true; the input reads as it did. -/
def islandPredicatesMatchUptoRow : OpenClaim := { program := "ytdpgdelimffjpaa", sum := "4a0d0e766d403b05b083cfa48bce2403db28f7e8defda9709c6ebe0490f43833", func := "pylon/pylonlaw15.IslandPredicatesMatch", spec := "islandPredicatesMatch", unfollowed := true, recurses := true, apart := false, narrowed := true }
def IslandPredicatesMatchUptoSaid : Prop := islandPredicatesMatchUptoRow.holds Try.pinned (OpenSpec.upto islandPredicatesMatchSpec)

/-- 'pylonlaw15.IslandOutage', WHERE WHAT IT READS IS OF BULK AT MOST 1048576: true; the input reads as it did. -/
def islandOutageUptoRow : OpenClaim := { program := "ytdpgdelimffjpaa", sum := "4a0d0e766d403b05b083cfa48bce2403db28f7e8defda9709c6ebe0490f43833", func := "pylon/pylonlaw15.IslandOutage", spec := "islandOutage", unfollowed := true, recurses := true, apart := false, narrowed := true }
def IslandOutageUptoSaid : Prop := islandOutageUptoRow.holds Try.pinned (OpenSpec.upto islandOutageSpec)

/-- 'pylonlaw15.IslandExamples', WHERE WHAT IT READS IS OF BULK AT MOST 1048576: true; the input reads as it did. -/
def islandExamplesUptoRow : OpenClaim := { program := "ytdpgdelimffjpaa", sum := "4a0d0e766d403b05b083cfa48bce2403db28f7e8defda9709c6ebe0490f43833", func := "pylon/pylonlaw15.IslandExamples", spec := "islandExamples", unfollowed := true, recurses := true, apart := false, narrowed := true }
def IslandExamplesUptoSaid : Prop := islandExamplesUptoRow.holds Try.pinned (OpenSpec.upto islandExamplesSpec)

/-- 'pylonlaw16.TreeMatches', WHERE WHAT IT READS IS OF BULK AT MOST 1048576: true; the input reads as it did. -/
def treeMatchesUptoRow : OpenClaim := { program := "ytdpgdelimffjpaa", sum := "4a0d0e766d403b05b083cfa48bce2403db28f7e8defda9709c6ebe0490f43833", func := "pylon/pylonlaw16.TreeMatches", spec := "treeMatches", unfollowed := true, recurses := true, apart := false, narrowed := true }
def TreeMatchesUptoSaid : Prop := treeMatchesUptoRow.holds Try.pinned (OpenSpec.upto treeMatchesSpec)

/-- 'pylonlaw16.TreeBridges', WHERE WHAT IT READS IS OF BULK AT MOST 1048576: true; the input reads as it did. -/
def treeBridgesUptoRow : OpenClaim := { program := "ytdpgdelimffjpaa", sum := "4a0d0e766d403b05b083cfa48bce2403db28f7e8defda9709c6ebe0490f43833", func := "pylon/pylonlaw16.TreeBridges", spec := "treeBridges", unfollowed := true, recurses := true, apart := false, narrowed := true }
def TreeBridgesUptoSaid : Prop := treeBridgesUptoRow.holds Try.pinned (OpenSpec.upto treeBridgesSpec)

/-- 'pylonlaw16.TreePathMatches', WHERE WHAT IT READS IS OF BULK AT MOST 1048576: true; the input reads as it did. -/
def treePathMatchesUptoRow : OpenClaim := { program := "ytdpgdelimffjpaa", sum := "4a0d0e766d403b05b083cfa48bce2403db28f7e8defda9709c6ebe0490f43833", func := "pylon/pylonlaw16.TreePathMatches", spec := "treePathMatches", unfollowed := true, recurses := true, apart := false, narrowed := true }
def TreePathMatchesUptoSaid : Prop := treePathMatchesUptoRow.holds Try.pinned (OpenSpec.upto treePathMatchesSpec)

/-- 'pylonlaw16.TreeExamples', WHERE WHAT IT READS IS OF BULK AT MOST 1048576: true; the input reads as it did. -/
def treeExamplesUptoRow : OpenClaim := { program := "ytdpgdelimffjpaa", sum := "4a0d0e766d403b05b083cfa48bce2403db28f7e8defda9709c6ebe0490f43833", func := "pylon/pylonlaw16.TreeExamples", spec := "treeExamples", unfollowed := true, recurses := true, apart := false, narrowed := true }
def TreeExamplesUptoSaid : Prop := treeExamplesUptoRow.holds Try.pinned (OpenSpec.upto treeExamplesSpec)

/-- 'pylonlaw16.TreeGreedy', WHERE WHAT IT READS IS OF BULK AT MOST 1048576: true; the input reads as it did. -/
def treeGreedyUptoRow : OpenClaim := { program := "ytdpgdelimffjpaa", sum := "4a0d0e766d403b05b083cfa48bce2403db28f7e8defda9709c6ebe0490f43833", func := "pylon/pylonlaw16.TreeGreedy", spec := "treeGreedy", unfollowed := true, recurses := true, apart := false, narrowed := true }
def TreeGreedyUptoSaid : Prop := treeGreedyUptoRow.holds Try.pinned (OpenSpec.upto treeGreedySpec)

/-- 'pylonlaw16.TreeBalance', WHERE WHAT IT READS IS OF BULK AT MOST 1048576: true; the input reads as it did. -/
def treeBalanceUptoRow : OpenClaim := { program := "ytdpgdelimffjpaa", sum := "4a0d0e766d403b05b083cfa48bce2403db28f7e8defda9709c6ebe0490f43833", func := "pylon/pylonlaw16.TreeBalance", spec := "treeBalance", unfollowed := true, recurses := true, apart := false, narrowed := true }
def TreeBalanceUptoSaid : Prop := treeBalanceUptoRow.holds Try.pinned (OpenSpec.upto treeBalanceSpec)

/-- 'pylonlaw16.TreeCycles', WHERE WHAT IT READS IS OF BULK AT MOST 1048576: true; the input reads as it did. -/
def treeCyclesUptoRow : OpenClaim := { program := "ytdpgdelimffjpaa", sum := "4a0d0e766d403b05b083cfa48bce2403db28f7e8defda9709c6ebe0490f43833", func := "pylon/pylonlaw16.TreeCycles", spec := "treeCycles", unfollowed := true, recurses := true, apart := false, narrowed := true }
def TreeCyclesUptoSaid : Prop := treeCyclesUptoRow.holds Try.pinned (OpenSpec.upto treeCyclesSpec)

/-- 'pylonlaw16.TreeSpanning', WHERE WHAT IT READS IS OF BULK AT MOST 1048576: true; the input reads as it did. -/
def treeSpanningUptoRow : OpenClaim := { program := "ytdpgdelimffjpaa", sum := "4a0d0e766d403b05b083cfa48bce2403db28f7e8defda9709c6ebe0490f43833", func := "pylon/pylonlaw16.TreeSpanning", spec := "treeSpanning", unfollowed := true, recurses := true, apart := false, narrowed := true }
def TreeSpanningUptoSaid : Prop := treeSpanningUptoRow.holds Try.pinned (OpenSpec.upto treeSpanningSpec)

/-- 'pylonlaw14.NetMatches', WHERE WHAT IT READS IS OF BULK AT MOST 1048576: true; the input reads as it did. -/
def netMatchesUptoRow : OpenClaim := { program := "ytdpgdelimffjpaa", sum := "4a0d0e766d403b05b083cfa48bce2403db28f7e8defda9709c6ebe0490f43833", func := "pylon/pylonlaw14.NetMatches", spec := "netMatches", unfollowed := true, recurses := true, apart := false, narrowed := true }
def NetMatchesUptoSaid : Prop := netMatchesUptoRow.holds Try.pinned (OpenSpec.upto netMatchesSpec)

/-- 'pylonlaw14.NetUnionMatches', WHERE WHAT IT READS IS OF BULK AT MOST 1048576: true; the input reads as it did. -/
def netUnionMatchesUptoRow : OpenClaim := { program := "ytdpgdelimffjpaa", sum := "4a0d0e766d403b05b083cfa48bce2403db28f7e8defda9709c6ebe0490f43833", func := "pylon/pylonlaw14.NetUnionMatches", spec := "netUnionMatches", unfollowed := true, recurses := true, apart := false, narrowed := true }
def NetUnionMatchesUptoSaid : Prop := netUnionMatchesUptoRow.holds Try.pinned (OpenSpec.upto netUnionMatchesSpec)

/-- 'pylonlaw14.NetPartition', WHERE WHAT IT READS IS OF BULK AT MOST 1048576: true; the input reads as it did. -/
def netPartitionUptoRow : OpenClaim := { program := "ytdpgdelimffjpaa", sum := "4a0d0e766d403b05b083cfa48bce2403db28f7e8defda9709c6ebe0490f43833", func := "pylon/pylonlaw14.NetPartition", spec := "netPartition", unfollowed := true, recurses := true, apart := false, narrowed := true }
def NetPartitionUptoSaid : Prop := netPartitionUptoRow.holds Try.pinned (OpenSpec.upto netPartitionSpec)

/-- 'pylonlaw14.NetEndpoints', WHERE WHAT IT READS IS OF BULK AT MOST 1048576: true; the input reads as it did. -/
def netEndpointsUptoRow : OpenClaim := { program := "ytdpgdelimffjpaa", sum := "4a0d0e766d403b05b083cfa48bce2403db28f7e8defda9709c6ebe0490f43833", func := "pylon/pylonlaw14.NetEndpoints", spec := "netEndpoints", unfollowed := true, recurses := true, apart := false, narrowed := true }
def NetEndpointsUptoSaid : Prop := netEndpointsUptoRow.holds Try.pinned (OpenSpec.upto netEndpointsSpec)

/-- 'pylonlaw14.NetUnion', WHERE WHAT IT READS IS OF BULK AT MOST 1048576: true; the input reads as it did. -/
def netUnionUptoRow : OpenClaim := { program := "ytdpgdelimffjpaa", sum := "4a0d0e766d403b05b083cfa48bce2403db28f7e8defda9709c6ebe0490f43833", func := "pylon/pylonlaw14.NetUnion", spec := "netUnion", unfollowed := true, recurses := true, apart := false, narrowed := true }
def NetUnionUptoSaid : Prop := netUnionUptoRow.holds Try.pinned (OpenSpec.upto netUnionSpec)

/-- 'pylonlaw14.NetExamples', WHERE WHAT IT READS IS OF BULK AT MOST 1048576: true; the input reads as it did. -/
def netExamplesUptoRow : OpenClaim := { program := "ytdpgdelimffjpaa", sum := "4a0d0e766d403b05b083cfa48bce2403db28f7e8defda9709c6ebe0490f43833", func := "pylon/pylonlaw14.NetExamples", spec := "netExamples", unfollowed := true, recurses := true, apart := false, narrowed := true }
def NetExamplesUptoSaid : Prop := netExamplesUptoRow.holds Try.pinned (OpenSpec.upto netExamplesSpec)

/-- 'pylonlaw14.NetStrip', WHERE WHAT IT READS IS OF BULK AT MOST 1048576: true; the input reads as it did. -/
def netStripUptoRow : OpenClaim := { program := "ytdpgdelimffjpaa", sum := "4a0d0e766d403b05b083cfa48bce2403db28f7e8defda9709c6ebe0490f43833", func := "pylon/pylonlaw14.NetStrip", spec := "netStrip", unfollowed := true, recurses := true, apart := false, narrowed := true }
def NetStripUptoSaid : Prop := netStripUptoRow.holds Try.pinned (OpenSpec.upto netStripSpec)

/-- 'pylonlaw14.NetBuildMatches', WHERE WHAT IT READS IS OF BULK AT MOST 1048576: true; the input reads as it did. -/
def netBuildMatchesUptoRow : OpenClaim := { program := "ytdpgdelimffjpaa", sum := "4a0d0e766d403b05b083cfa48bce2403db28f7e8defda9709c6ebe0490f43833", func := "pylon/pylonlaw14.NetBuildMatches", spec := "netBuildMatches", unfollowed := true, recurses := true, apart := false, narrowed := true }
def NetBuildMatchesUptoSaid : Prop := netBuildMatchesUptoRow.holds Try.pinned (OpenSpec.upto netBuildMatchesSpec)

/-- 'pylonlaw14.NetReverse', WHERE WHAT IT READS IS OF BULK AT MOST 1048576: true; the input reads as it did. -/
def netReverseUptoRow : OpenClaim := { program := "ytdpgdelimffjpaa", sum := "4a0d0e766d403b05b083cfa48bce2403db28f7e8defda9709c6ebe0490f43833", func := "pylon/pylonlaw14.NetReverse", spec := "netReverse", unfollowed := true, recurses := true, apart := false, narrowed := true }
def NetReverseUptoSaid : Prop := netReverseUptoRow.holds Try.pinned (OpenSpec.upto netReverseSpec)

end Rows
end Go.Proofs.Ytdpgdelimffjpaa
