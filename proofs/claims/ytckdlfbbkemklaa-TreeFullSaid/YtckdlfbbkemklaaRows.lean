/-
  No cell of these rows narrows 'for every input' (looked for: loops, veiled, ifaces, maps, wideKeys, modest, calm, conditions, laid).
  DERIVED. THE GIVEN ROWS OF THIS SEAT. 8 by the template 'for every input the law returns true; each argument reads behind the call as it read before'; 0 by the template 'total and deterministic' (their statements: YtckdlfbbkemklaaTotals.lean).
  GIVEN WITH THE SEED: the statements are not yours to turn. If you find one false, say at which input.
  Laid BY PROGRAM, IN A SANDBOX (cutbox-rows.mjs): the forced cells as the released guide's own fill.sh prints them over the translation 410a41b8838ec0ab… (all of the seat's roots in one cut). By AI agents, Wed Nov 11 2026. No macro, syntax, notation, axiom, sorry.
-/
import Derived.Test.YtckdlfbbkemklaaChecked
import GoSem.Claim
import GoSem.ClaimJoined
import GoSem.ClaimMapViews
import Derived.JoinedTies
import Derived.KernelRfl
namespace Go.Proofs.Ytckdlfbbkemklaa
/- THE CELL 'sum', in the pinned program and in every row, IS THE sha256 OF THE DUMP (.gsa) THAT YtckdlfbbkemklaaProg.lean LOADS. Nothing in Lean hashes anything: it is a label: what it is worth is what the hold of that sum in a sandbox is worth. -/
noncomputable def Try.pinned : Pinned := { name := "ytckdlfbbkemklaa", sum := "410a41b8838ec0abf80102de575c8e2a115c85e62fc612f7df702c347828aa0a", checked := Try.checked }
namespace Rows
def none {H : Type} : Left H := { results := [], args := [] }

/-- 'ricklaw12.NodeJoins': WHATEVER THE INPUT: true; the input reads as it did. -/
def nodeJoinsSpec : ChangeSpec := { name := "nodeJoins", fn := fun _ => fun
  | [d1, d2] => { results := [.lit (.bool true)], args := [d1, d2] }
  | _ => none }
def nodeJoinsRow : OpenClaim := { program := "ytckdlfbbkemklaa", sum := "410a41b8838ec0abf80102de575c8e2a115c85e62fc612f7df702c347828aa0a", func := "rick/ricklaw12.NodeJoins", spec := "nodeJoins", recurses := true, apart := false }
def NodeJoinsSaid : Prop := nodeJoinsRow.holds Try.pinned (OpenSpec.ofChange nodeJoinsSpec)

/-- ITS FALSE NEIGHBOUR: 'it returns false'. Refute it at one input. -/
def nodeJoinsWrong : ChangeSpec := { name := "nodeJoins", fn := fun _ => fun
  | [d1, d2] => { results := [.lit (.bool false)], args := [d1, d2] }
  | _ => none }
def NodeJoinsWrongFalsely : Prop := nodeJoinsRow.holds Try.pinned (OpenSpec.ofChange nodeJoinsWrong)

/-- 'ricklaw15.SuperPuts': WHATEVER THE INPUT: true; the input reads as it did. -/
def superPutsSpec : ChangeSpec := { name := "superPuts", fn := fun _ => fun
  | [d1, d2] => { results := [.lit (.bool true)], args := [d1, d2] }
  | _ => none }
def superPutsRow : OpenClaim := { program := "ytckdlfbbkemklaa", sum := "410a41b8838ec0abf80102de575c8e2a115c85e62fc612f7df702c347828aa0a", func := "rick/ricklaw15.SuperPuts", spec := "superPuts", unfollowed := true, recurses := true, apart := false }
def SuperPutsSaid : Prop := superPutsRow.holds Try.pinned (OpenSpec.ofChange superPutsSpec)

/-- ITS FALSE NEIGHBOUR: 'it returns false'. Refute it at one input. -/
def superPutsWrong : ChangeSpec := { name := "superPuts", fn := fun _ => fun
  | [d1, d2] => { results := [.lit (.bool false)], args := [d1, d2] }
  | _ => none }
def SuperPutsWrongFalsely : Prop := superPutsRow.holds Try.pinned (OpenSpec.ofChange superPutsWrong)

/-- 'ricklaw15.SuperTurns': WHATEVER THE INPUT: true; the input reads as it did. -/
def superTurnsSpec : ChangeSpec := { name := "superTurns", fn := fun _ => fun
  | [d1, d2] => { results := [.lit (.bool true)], args := [d1, d2] }
  | _ => none }
def superTurnsRow : OpenClaim := { program := "ytckdlfbbkemklaa", sum := "410a41b8838ec0abf80102de575c8e2a115c85e62fc612f7df702c347828aa0a", func := "rick/ricklaw15.SuperTurns", spec := "superTurns", unfollowed := true, recurses := true, apart := false }
def SuperTurnsSaid : Prop := superTurnsRow.holds Try.pinned (OpenSpec.ofChange superTurnsSpec)

/-- ITS FALSE NEIGHBOUR: 'it returns false'. Refute it at one input. -/
def superTurnsWrong : ChangeSpec := { name := "superTurns", fn := fun _ => fun
  | [d1, d2] => { results := [.lit (.bool false)], args := [d1, d2] }
  | _ => none }
def SuperTurnsWrongFalsely : Prop := superTurnsRow.holds Try.pinned (OpenSpec.ofChange superTurnsWrong)

/-- 'ricklaw15.SuperTears': WHATEVER THE INPUT: true; the input reads as it did. -/
def superTearsSpec : ChangeSpec := { name := "superTears", fn := fun _ => fun
  | [d1, d2, d3] => { results := [.lit (.bool true)], args := [d1, d2, d3] }
  | _ => none }
def superTearsRow : OpenClaim := { program := "ytckdlfbbkemklaa", sum := "410a41b8838ec0abf80102de575c8e2a115c85e62fc612f7df702c347828aa0a", func := "rick/ricklaw15.SuperTears", spec := "superTears", unfollowed := true, recurses := true, apart := false }
def SuperTearsSaid : Prop := superTearsRow.holds Try.pinned (OpenSpec.ofChange superTearsSpec)

/-- ITS FALSE NEIGHBOUR: 'it returns false'. Refute it at one input. -/
def superTearsWrong : ChangeSpec := { name := "superTears", fn := fun _ => fun
  | [d1, d2, d3] => { results := [.lit (.bool false)], args := [d1, d2, d3] }
  | _ => none }
def SuperTearsWrongFalsely : Prop := superTearsRow.holds Try.pinned (OpenSpec.ofChange superTearsWrong)

/-- 'ricklaw14.WalkTwice': WHATEVER THE INPUT: true; the input reads as it did. -/
def walkTwiceSpec : ChangeSpec := { name := "walkTwice", fn := fun _ => fun
  | [d1, d2, d3] => { results := [.lit (.bool true)], args := [d1, d2, d3] }
  | _ => none }
def walkTwiceRow : OpenClaim := { program := "ytckdlfbbkemklaa", sum := "410a41b8838ec0abf80102de575c8e2a115c85e62fc612f7df702c347828aa0a", func := "rick/ricklaw14.WalkTwice", spec := "walkTwice", unfollowed := true, recurses := true, apart := false }
def WalkTwiceSaid : Prop := walkTwiceRow.holds Try.pinned (OpenSpec.ofChange walkTwiceSpec)

/-- ITS FALSE NEIGHBOUR: 'it returns false'. Refute it at one input. -/
def walkTwiceWrong : ChangeSpec := { name := "walkTwice", fn := fun _ => fun
  | [d1, d2, d3] => { results := [.lit (.bool false)], args := [d1, d2, d3] }
  | _ => none }
def WalkTwiceWrongFalsely : Prop := walkTwiceRow.holds Try.pinned (OpenSpec.ofChange walkTwiceWrong)

/-- 'ricklaw14.WalkEntries': WHATEVER THE INPUT: true; the input reads as it did. -/
def walkEntriesSpec : ChangeSpec := { name := "walkEntries", fn := fun _ => fun
  | [d1, d2, d3] => { results := [.lit (.bool true)], args := [d1, d2, d3] }
  | _ => none }
def walkEntriesRow : OpenClaim := { program := "ytckdlfbbkemklaa", sum := "410a41b8838ec0abf80102de575c8e2a115c85e62fc612f7df702c347828aa0a", func := "rick/ricklaw14.WalkEntries", spec := "walkEntries", unfollowed := true, recurses := true, apart := false }
def WalkEntriesSaid : Prop := walkEntriesRow.holds Try.pinned (OpenSpec.ofChange walkEntriesSpec)

/-- ITS FALSE NEIGHBOUR: 'it returns false'. Refute it at one input. -/
def walkEntriesWrong : ChangeSpec := { name := "walkEntries", fn := fun _ => fun
  | [d1, d2, d3] => { results := [.lit (.bool false)], args := [d1, d2, d3] }
  | _ => none }
def WalkEntriesWrongFalsely : Prop := walkEntriesRow.holds Try.pinned (OpenSpec.ofChange walkEntriesWrong)

/-- 'ricklaw14.WalkSpans': WHATEVER THE INPUT: true; the input reads as it did. -/
def walkSpansSpec : ChangeSpec := { name := "walkSpans", fn := fun _ => fun
  | [d1, d2, d3] => { results := [.lit (.bool true)], args := [d1, d2, d3] }
  | _ => none }
def walkSpansRow : OpenClaim := { program := "ytckdlfbbkemklaa", sum := "410a41b8838ec0abf80102de575c8e2a115c85e62fc612f7df702c347828aa0a", func := "rick/ricklaw14.WalkSpans", spec := "walkSpans", unfollowed := true, recurses := true, apart := false }
def WalkSpansSaid : Prop := walkSpansRow.holds Try.pinned (OpenSpec.ofChange walkSpansSpec)

/-- ITS FALSE NEIGHBOUR: 'it returns false'. Refute it at one input. -/
def walkSpansWrong : ChangeSpec := { name := "walkSpans", fn := fun _ => fun
  | [d1, d2, d3] => { results := [.lit (.bool false)], args := [d1, d2, d3] }
  | _ => none }
def WalkSpansWrongFalsely : Prop := walkSpansRow.holds Try.pinned (OpenSpec.ofChange walkSpansWrong)

/-- 'ricklaw13.TreeFull': WHATEVER THE INPUT: true; the input reads as it did. -/
def treeFullSpec : ChangeSpec := { name := "treeFull", fn := fun _ => fun
  | [d] => { results := [.lit (.bool true)], args := [d] }
  | _ => none }
def treeFullRow : OpenClaim := { program := "ytckdlfbbkemklaa", sum := "410a41b8838ec0abf80102de575c8e2a115c85e62fc612f7df702c347828aa0a", func := "rick/ricklaw13.TreeFull", spec := "treeFull", inPlace := ["slices.overlaps[rick/node.Entry]", "slices.overlaps[rick/node.Key]", "slices.overlaps[int]"], unfollowed := true, recurses := true, apart := false }
def TreeFullSaid : Prop := treeFullRow.holds Try.pinned (OpenSpec.ofChange treeFullSpec)

/-- ITS FALSE NEIGHBOUR: 'it returns false'. Refute it at one input. -/
def treeFullWrong : ChangeSpec := { name := "treeFull", fn := fun _ => fun
  | [d] => { results := [.lit (.bool false)], args := [d] }
  | _ => none }
def TreeFullWrongFalsely : Prop := treeFullRow.holds Try.pinned (OpenSpec.ofChange treeFullWrong)

/- THE SECOND FORM. 'bulk': how many values and letters a reading holds, each counted each time it is reached (what is shared counts as often as it is met; a slice's spare places count too). A statement '..UptoSaid' is the law's where the arguments, and the package variables that the reading takes, are together of bulk at most 1048576: NARROWER than '..Said'. Prove '..Said' where nothing that the law and all that it calls make is longer than what came in: it says more and counts as full. Else prove '..UptoSaid'. A law counts once. -/
mutual
def uptoBulk {H : Type} : DataW H → Nat
  | .lit (.string bytes) => bytes.length + 1
  | .lit _ => 1
  | .nil => 1
  | .ptr d => uptoBulk d + 1
  | .slice elems spare => uptoBulkAll elems + uptoBulkAll spare + 1
  | .agg parts => uptoBulkAll parts + 1
  | .iface _ d => uptoBulk d + 1
  | .map entries => uptoBulkEntries entries + 1
  | .held _ => 1
def uptoBulkAll {H : Type} : List (DataW H) → Nat
  | [] => 0
  | d :: r => uptoBulk d + uptoBulkAll r
def uptoBulkEntries {H : Type} : List (Lit × DataW H) → Nat
  | [] => 0
  | x :: r => uptoBulkEntry x + uptoBulkEntries r
def uptoBulkEntry {H : Type} : Lit × DataW H → Nat
  | (.string bytes, d) => bytes.length + uptoBulk d + 1
  | (_, d) => uptoBulk d + 1
 end
def uptoSmall : (H : Type) → List (DataW H) → Bool := fun _ ds => decide (uptoBulkAll ds ≤ 1048576)
def OpenSpec.upto (s : _root_.Go.ChangeSpec) : _root_.Go.OpenSpec := { _root_.Go.OpenSpec.ofChange s with cond := some uptoSmall }

/-- 'ricklaw12.NodeJoins', WHERE WHAT IT READS IS OF BULK AT MOST 1048576: true; the input reads as it did. -/
def nodeJoinsUptoRow : OpenClaim := { program := "ytckdlfbbkemklaa", sum := "410a41b8838ec0abf80102de575c8e2a115c85e62fc612f7df702c347828aa0a", func := "rick/ricklaw12.NodeJoins", spec := "nodeJoins", recurses := true, apart := false, narrowed := true }
def NodeJoinsUptoSaid : Prop := nodeJoinsUptoRow.holds Try.pinned (OpenSpec.upto nodeJoinsSpec)

/-- 'ricklaw15.SuperPuts', WHERE WHAT IT READS IS OF BULK AT MOST 1048576: true; the input reads as it did. -/
def superPutsUptoRow : OpenClaim := { program := "ytckdlfbbkemklaa", sum := "410a41b8838ec0abf80102de575c8e2a115c85e62fc612f7df702c347828aa0a", func := "rick/ricklaw15.SuperPuts", spec := "superPuts", unfollowed := true, recurses := true, apart := false, narrowed := true }
def SuperPutsUptoSaid : Prop := superPutsUptoRow.holds Try.pinned (OpenSpec.upto superPutsSpec)

/-- 'ricklaw15.SuperTurns', WHERE WHAT IT READS IS OF BULK AT MOST 1048576: true; the input reads as it did. -/
def superTurnsUptoRow : OpenClaim := { program := "ytckdlfbbkemklaa", sum := "410a41b8838ec0abf80102de575c8e2a115c85e62fc612f7df702c347828aa0a", func := "rick/ricklaw15.SuperTurns", spec := "superTurns", unfollowed := true, recurses := true, apart := false, narrowed := true }
def SuperTurnsUptoSaid : Prop := superTurnsUptoRow.holds Try.pinned (OpenSpec.upto superTurnsSpec)

/-- 'ricklaw15.SuperTears', WHERE WHAT IT READS IS OF BULK AT MOST 1048576: true; the input reads as it did. -/
def superTearsUptoRow : OpenClaim := { program := "ytckdlfbbkemklaa", sum := "410a41b8838ec0abf80102de575c8e2a115c85e62fc612f7df702c347828aa0a", func := "rick/ricklaw15.SuperTears", spec := "superTears", unfollowed := true, recurses := true, apart := false, narrowed := true }
def SuperTearsUptoSaid : Prop := superTearsUptoRow.holds Try.pinned (OpenSpec.upto superTearsSpec)

/-- 'ricklaw14.WalkTwice', WHERE WHAT IT READS IS OF BULK AT MOST 1048576: true; the input reads as it did. -/
def walkTwiceUptoRow : OpenClaim := { program := "ytckdlfbbkemklaa", sum := "410a41b8838ec0abf80102de575c8e2a115c85e62fc612f7df702c347828aa0a", func := "rick/ricklaw14.WalkTwice", spec := "walkTwice", unfollowed := true, recurses := true, apart := false, narrowed := true }
def WalkTwiceUptoSaid : Prop := walkTwiceUptoRow.holds Try.pinned (OpenSpec.upto walkTwiceSpec)

/-- 'ricklaw14.WalkEntries', WHERE WHAT IT READS IS OF BULK AT MOST 1048576: true; the input reads as it did. -/
def walkEntriesUptoRow : OpenClaim := { program := "ytckdlfbbkemklaa", sum := "410a41b8838ec0abf80102de575c8e2a115c85e62fc612f7df702c347828aa0a", func := "rick/ricklaw14.WalkEntries", spec := "walkEntries", unfollowed := true, recurses := true, apart := false, narrowed := true }
def WalkEntriesUptoSaid : Prop := walkEntriesUptoRow.holds Try.pinned (OpenSpec.upto walkEntriesSpec)

/-- 'ricklaw14.WalkSpans', WHERE WHAT IT READS IS OF BULK AT MOST 1048576: true; the input reads as it did. -/
def walkSpansUptoRow : OpenClaim := { program := "ytckdlfbbkemklaa", sum := "410a41b8838ec0abf80102de575c8e2a115c85e62fc612f7df702c347828aa0a", func := "rick/ricklaw14.WalkSpans", spec := "walkSpans", unfollowed := true, recurses := true, apart := false, narrowed := true }
def WalkSpansUptoSaid : Prop := walkSpansUptoRow.holds Try.pinned (OpenSpec.upto walkSpansSpec)

/-- 'ricklaw13.TreeFull', WHERE WHAT IT READS IS OF BULK AT MOST 1048576: true; the input reads as it did. -/
def treeFullUptoRow : OpenClaim := { program := "ytckdlfbbkemklaa", sum := "410a41b8838ec0abf80102de575c8e2a115c85e62fc612f7df702c347828aa0a", func := "rick/ricklaw13.TreeFull", spec := "treeFull", inPlace := ["slices.overlaps[rick/node.Entry]", "slices.overlaps[rick/node.Key]", "slices.overlaps[int]"], unfollowed := true, recurses := true, apart := false, narrowed := true }
def TreeFullUptoSaid : Prop := treeFullUptoRow.holds Try.pinned (OpenSpec.upto treeFullSpec)

end Rows
end Go.Proofs.Ytckdlfbbkemklaa
