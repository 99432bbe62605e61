/-
  No cell of these rows narrows 'for every input' (looked for: loops, veiled, ifaces, maps, wideKeys, modest, calm, conditions, laid).
  DERIVED. THE GIVEN ROWS OF THIS SEAT. 8 by the template 'for every input the law returns true; each argument reads behind the call as it read before'; 0 by the template 'total and deterministic' (their statements: YtmomlimhjnfadaaTotals.lean).
  GIVEN WITH THE SEED: the statements are not yours to turn. If you find one false, say at which input.
  Laid BY PROGRAM, IN A SANDBOX (cutbox-rows.mjs): the forced cells as the released guide's own fill.sh prints them over the translation 41128ef8cd80d708… (all of the seat's roots in one cut). By AI agents, Wed Nov 11 2026. No macro, syntax, notation, axiom, sorry.
-/
import Derived.Test.YtmomlimhjnfadaaChecked
import GoSem.Claim
import GoSem.ClaimJoined
import GoSem.ClaimMapViews
import Derived.JoinedTies
import Derived.KernelRfl
namespace Go.Proofs.Ytmomlimhjnfadaa
/- THE CELL 'sum', in the pinned program and in every row, IS THE sha256 OF THE DUMP (.gsa) THAT YtmomlimhjnfadaaProg.lean LOADS. Nothing in Lean hashes anything: it is a label: what it is worth is what the hold of that sum in a sandbox is worth. -/
noncomputable def Try.pinned : Pinned := { name := "ytmomlimhjnfadaa", sum := "41128ef8cd80d708a3157c151210bfb8940beb068db9a58dd2dbf1581ee24e05", checked := Try.checked }
namespace Rows
def none {H : Type} : Left H := { results := [], args := [] }

/-- 'ricklaw01.DiskActs': WHATEVER THE INPUT: true; the input reads as it did. -/
def diskActsSpec : ChangeSpec := { name := "diskActs", fn := fun _ => fun
  | [d1, d2] => { results := [.lit (.bool true)], args := [d1, d2] }
  | _ => none }
def diskActsRow : OpenClaim := { program := "ytmomlimhjnfadaa", sum := "41128ef8cd80d708a3157c151210bfb8940beb068db9a58dd2dbf1581ee24e05", func := "rick/ricklaw01.DiskActs", spec := "diskActs", apart := false }
def DiskActsSaid : Prop := diskActsRow.holds Try.pinned (OpenSpec.ofChange diskActsSpec)

/-- ITS FALSE NEIGHBOUR: 'it returns false'. Refute it at one input. -/
def diskActsWrong : ChangeSpec := { name := "diskActs", fn := fun _ => fun
  | [d1, d2] => { results := [.lit (.bool false)], args := [d1, d2] }
  | _ => none }
def DiskActsWrongFalsely : Prop := diskActsRow.holds Try.pinned (OpenSpec.ofChange diskActsWrong)

/-- 'ricklaw12.NodeGets': WHATEVER THE INPUT: true; the input reads as it did. -/
def nodeGetsSpec : ChangeSpec := { name := "nodeGets", fn := fun _ => fun
  | [d1, d2, d3] => { results := [.lit (.bool true)], args := [d1, d2, d3] }
  | _ => none }
def nodeGetsRow : OpenClaim := { program := "ytmomlimhjnfadaa", sum := "41128ef8cd80d708a3157c151210bfb8940beb068db9a58dd2dbf1581ee24e05", func := "rick/ricklaw12.NodeGets", spec := "nodeGets", apart := false }
def NodeGetsSaid : Prop := nodeGetsRow.holds Try.pinned (OpenSpec.ofChange nodeGetsSpec)

/-- ITS FALSE NEIGHBOUR: 'it returns false'. Refute it at one input. -/
def nodeGetsWrong : ChangeSpec := { name := "nodeGets", fn := fun _ => fun
  | [d1, d2, d3] => { results := [.lit (.bool false)], args := [d1, d2, d3] }
  | _ => none }
def NodeGetsWrongFalsely : Prop := nodeGetsRow.holds Try.pinned (OpenSpec.ofChange nodeGetsWrong)

/-- 'ricklaw12.NodePages': WHATEVER THE INPUT: true; the input reads as it did. -/
def nodePagesSpec : ChangeSpec := { name := "nodePages", fn := fun _ => fun
  | [d] => { results := [.lit (.bool true)], args := [d] }
  | _ => none }
def nodePagesRow : OpenClaim := { program := "ytmomlimhjnfadaa", sum := "41128ef8cd80d708a3157c151210bfb8940beb068db9a58dd2dbf1581ee24e05", func := "rick/ricklaw12.NodePages", spec := "nodePages", apart := false }
def NodePagesSaid : Prop := nodePagesRow.holds Try.pinned (OpenSpec.ofChange nodePagesSpec)

/-- ITS FALSE NEIGHBOUR: 'it returns false'. Refute it at one input. -/
def nodePagesWrong : ChangeSpec := { name := "nodePages", fn := fun _ => fun
  | [d] => { results := [.lit (.bool false)], args := [d] }
  | _ => none }
def NodePagesWrongFalsely : Prop := nodePagesRow.holds Try.pinned (OpenSpec.ofChange nodePagesWrong)

/-- 'ricklaw12.NodeLess': WHATEVER THE INPUT: true; the input reads as it did. -/
def nodeLessSpec : ChangeSpec := { name := "nodeLess", fn := fun _ => fun
  | [d1, d2, d3] => { results := [.lit (.bool true)], args := [d1, d2, d3] }
  | _ => none }
def nodeLessRow : OpenClaim := { program := "ytmomlimhjnfadaa", sum := "41128ef8cd80d708a3157c151210bfb8940beb068db9a58dd2dbf1581ee24e05", func := "rick/ricklaw12.NodeLess", spec := "nodeLess", apart := false }
def NodeLessSaid : Prop := nodeLessRow.holds Try.pinned (OpenSpec.ofChange nodeLessSpec)

/-- ITS FALSE NEIGHBOUR: 'it returns false'. Refute it at one input. -/
def nodeLessWrong : ChangeSpec := { name := "nodeLess", fn := fun _ => fun
  | [d1, d2, d3] => { results := [.lit (.bool false)], args := [d1, d2, d3] }
  | _ => none }
def NodeLessWrongFalsely : Prop := nodeLessRow.holds Try.pinned (OpenSpec.ofChange nodeLessWrong)

/-- 'ricklaw12.NodePuts': WHATEVER THE INPUT: true; the input reads as it did. -/
def nodePutsSpec : ChangeSpec := { name := "nodePuts", fn := fun _ => fun
  | [d] => { results := [.lit (.bool true)], args := [d] }
  | _ => none }
def nodePutsRow : OpenClaim := { program := "ytmomlimhjnfadaa", sum := "41128ef8cd80d708a3157c151210bfb8940beb068db9a58dd2dbf1581ee24e05", func := "rick/ricklaw12.NodePuts", spec := "nodePuts", apart := false }
def NodePutsSaid : Prop := nodePutsRow.holds Try.pinned (OpenSpec.ofChange nodePutsSpec)

/-- ITS FALSE NEIGHBOUR: 'it returns false'. Refute it at one input. -/
def nodePutsWrong : ChangeSpec := { name := "nodePuts", fn := fun _ => fun
  | [d] => { results := [.lit (.bool false)], args := [d] }
  | _ => none }
def NodePutsWrongFalsely : Prop := nodePutsRow.holds Try.pinned (OpenSpec.ofChange nodePutsWrong)

/-- 'ricklaw03.PageMoves': WHATEVER THE INPUT: true; the input reads as it did. -/
def pageMovesSpec : ChangeSpec := { name := "pageMoves", fn := fun _ => fun
  | [d1, d2] => { results := [.lit (.bool true)], args := [d1, d2] }
  | _ => none }
def pageMovesRow : OpenClaim := { program := "ytmomlimhjnfadaa", sum := "41128ef8cd80d708a3157c151210bfb8940beb068db9a58dd2dbf1581ee24e05", func := "rick/ricklaw03.PageMoves", spec := "pageMoves", unfollowed := true, recurses := true, apart := false }
def PageMovesSaid : Prop := pageMovesRow.holds Try.pinned (OpenSpec.ofChange pageMovesSpec)

/-- ITS FALSE NEIGHBOUR: 'it returns false'. Refute it at one input. -/
def pageMovesWrong : ChangeSpec := { name := "pageMoves", fn := fun _ => fun
  | [d1, d2] => { results := [.lit (.bool false)], args := [d1, d2] }
  | _ => none }
def PageMovesWrongFalsely : Prop := pageMovesRow.holds Try.pinned (OpenSpec.ofChange pageMovesWrong)

/-- 'ricklaw12.NodeJoins': WHATEVER THE INPUT: true; the input reads as it did. -/
def nodeJoinsSpec : ChangeSpec := { name := "nodeJoins", fn := fun _ => fun
  | [d1, d2] => { results := [.lit (.bool true)], args := [d1, d2] }
  | _ => none }
def nodeJoinsRow : OpenClaim := { program := "ytmomlimhjnfadaa", sum := "41128ef8cd80d708a3157c151210bfb8940beb068db9a58dd2dbf1581ee24e05", func := "rick/ricklaw12.NodeJoins", spec := "nodeJoins", recurses := true, apart := false }
def NodeJoinsSaid : Prop := nodeJoinsRow.holds Try.pinned (OpenSpec.ofChange nodeJoinsSpec)

/-- ITS FALSE NEIGHBOUR: 'it returns false'. Refute it at one input. -/
def nodeJoinsWrong : ChangeSpec := { name := "nodeJoins", fn := fun _ => fun
  | [d1, d2] => { results := [.lit (.bool false)], args := [d1, d2] }
  | _ => none }
def NodeJoinsWrongFalsely : Prop := nodeJoinsRow.holds Try.pinned (OpenSpec.ofChange nodeJoinsWrong)

/-- 'ricklaw03.PageDisks': WHATEVER THE INPUT: true; the input reads as it did. -/
def pageDisksSpec : ChangeSpec := { name := "pageDisks", fn := fun _ => fun
  | [d1, d2, d3] => { results := [.lit (.bool true)], args := [d1, d2, d3] }
  | _ => none }
def pageDisksRow : OpenClaim := { program := "ytmomlimhjnfadaa", sum := "41128ef8cd80d708a3157c151210bfb8940beb068db9a58dd2dbf1581ee24e05", func := "rick/ricklaw03.PageDisks", spec := "pageDisks", unfollowed := true, recurses := true, apart := false }
def PageDisksSaid : Prop := pageDisksRow.holds Try.pinned (OpenSpec.ofChange pageDisksSpec)

/-- ITS FALSE NEIGHBOUR: 'it returns false'. Refute it at one input. -/
def pageDisksWrong : ChangeSpec := { name := "pageDisks", fn := fun _ => fun
  | [d1, d2, d3] => { results := [.lit (.bool false)], args := [d1, d2, d3] }
  | _ => none }
def PageDisksWrongFalsely : Prop := pageDisksRow.holds Try.pinned (OpenSpec.ofChange pageDisksWrong)

/- THE SECOND FORM. 'bulk': how many values and letters a reading holds, each counted each time it is reached (what is shared counts as often as it is met; a slice's spare places count too). A statement '..UptoSaid' is the law's where the arguments, and the package variables that the reading takes, are together of bulk at most 1048576: NARROWER than '..Said'. Prove '..Said' where nothing that the law and all that it calls make is longer than what came in: it says more and counts as full. Else prove '..UptoSaid'. A law counts once. -/
mutual
def uptoBulk {H : Type} : DataW H → Nat
  | .lit (.string bytes) => bytes.length + 1
  | .lit _ => 1
  | .nil => 1
  | .ptr d => uptoBulk d + 1
  | .slice elems spare => uptoBulkAll elems + uptoBulkAll spare + 1
  | .agg parts => uptoBulkAll parts + 1
  | .iface _ d => uptoBulk d + 1
  | .map entries => uptoBulkEntries entries + 1
  | .held _ => 1
def uptoBulkAll {H : Type} : List (DataW H) → Nat
  | [] => 0
  | d :: r => uptoBulk d + uptoBulkAll r
def uptoBulkEntries {H : Type} : List (Lit × DataW H) → Nat
  | [] => 0
  | x :: r => uptoBulkEntry x + uptoBulkEntries r
def uptoBulkEntry {H : Type} : Lit × DataW H → Nat
  | (.string bytes, d) => bytes.length + uptoBulk d + 1
  | (_, d) => uptoBulk d + 1
 end
def uptoSmall : (H : Type) → List (DataW H) → Bool := fun _ ds => decide (uptoBulkAll ds ≤ 1048576)
def OpenSpec.upto (s : _root_.Go.ChangeSpec) : _root_.Go.OpenSpec := { _root_.Go.OpenSpec.ofChange s with cond := some uptoSmall }

/-- 'ricklaw01.DiskActs', WHERE WHAT IT READS IS OF BULK AT MOST 1048576: true; the input reads as it did. -/
def diskActsUptoRow : OpenClaim := { program := "ytmomlimhjnfadaa", sum := "41128ef8cd80d708a3157c151210bfb8940beb068db9a58dd2dbf1581ee24e05", func := "rick/ricklaw01.DiskActs", spec := "diskActs", apart := false, narrowed := true }
def DiskActsUptoSaid : Prop := diskActsUptoRow.holds Try.pinned (OpenSpec.upto diskActsSpec)

/-- 'ricklaw12.NodeGets', WHERE WHAT IT READS IS OF BULK AT MOST 1048576: true; the input reads as it did. -/
def nodeGetsUptoRow : OpenClaim := { program := "ytmomlimhjnfadaa", sum := "41128ef8cd80d708a3157c151210bfb8940beb068db9a58dd2dbf1581ee24e05", func := "rick/ricklaw12.NodeGets", spec := "nodeGets", apart := false, narrowed := true }
def NodeGetsUptoSaid : Prop := nodeGetsUptoRow.holds Try.pinned (OpenSpec.upto nodeGetsSpec)

/-- 'ricklaw12.NodePages', WHERE WHAT IT READS IS OF BULK AT MOST 1048576: true; the input reads as it did. -/
def nodePagesUptoRow : OpenClaim := { program := "ytmomlimhjnfadaa", sum := "41128ef8cd80d708a3157c151210bfb8940beb068db9a58dd2dbf1581ee24e05", func := "rick/ricklaw12.NodePages", spec := "nodePages", apart := false, narrowed := true }
def NodePagesUptoSaid : Prop := nodePagesUptoRow.holds Try.pinned (OpenSpec.upto nodePagesSpec)

/-- 'ricklaw12.NodeLess', WHERE WHAT IT READS IS OF BULK AT MOST 1048576: true; the input reads as it did. -/
def nodeLessUptoRow : OpenClaim := { program := "ytmomlimhjnfadaa", sum := "41128ef8cd80d708a3157c151210bfb8940beb068db9a58dd2dbf1581ee24e05", func := "rick/ricklaw12.NodeLess", spec := "nodeLess", apart := false, narrowed := true }
def NodeLessUptoSaid : Prop := nodeLessUptoRow.holds Try.pinned (OpenSpec.upto nodeLessSpec)

/-- 'ricklaw12.NodePuts', WHERE WHAT IT READS IS OF BULK AT MOST 1048576: true; the input reads as it did. -/
def nodePutsUptoRow : OpenClaim := { program := "ytmomlimhjnfadaa", sum := "41128ef8cd80d708a3157c151210bfb8940beb068db9a58dd2dbf1581ee24e05", func := "rick/ricklaw12.NodePuts", spec := "nodePuts", apart := false, narrowed := true }
def NodePutsUptoSaid : Prop := nodePutsUptoRow.holds Try.pinned (OpenSpec.upto nodePutsSpec)

/-- 'ricklaw03.PageMoves', WHERE WHAT IT READS IS OF BULK AT MOST 1048576: true; the input reads as it did. -/
def pageMovesUptoRow : OpenClaim := { program := "ytmomlimhjnfadaa", sum := "41128ef8cd80d708a3157c151210bfb8940beb068db9a58dd2dbf1581ee24e05", func := "rick/ricklaw03.PageMoves", spec := "pageMoves", unfollowed := true, recurses := true, apart := false, narrowed := true }
def PageMovesUptoSaid : Prop := pageMovesUptoRow.holds Try.pinned (OpenSpec.upto pageMovesSpec)

/-- 'ricklaw12.NodeJoins', WHERE WHAT IT READS IS OF BULK AT MOST 1048576: true; the input reads as it did. -/
def nodeJoinsUptoRow : OpenClaim := { program := "ytmomlimhjnfadaa", sum := "41128ef8cd80d708a3157c151210bfb8940beb068db9a58dd2dbf1581ee24e05", func := "rick/ricklaw12.NodeJoins", spec := "nodeJoins", recurses := true, apart := false, narrowed := true }
def NodeJoinsUptoSaid : Prop := nodeJoinsUptoRow.holds Try.pinned (OpenSpec.upto nodeJoinsSpec)

/-- 'ricklaw03.PageDisks', WHERE WHAT IT READS IS OF BULK AT MOST 1048576: true; the input reads as it did. -/
def pageDisksUptoRow : OpenClaim := { program := "ytmomlimhjnfadaa", sum := "41128ef8cd80d708a3157c151210bfb8940beb068db9a58dd2dbf1581ee24e05", func := "rick/ricklaw03.PageDisks", spec := "pageDisks", unfollowed := true, recurses := true, apart := false, narrowed := true }
def PageDisksUptoSaid : Prop := pageDisksUptoRow.holds Try.pinned (OpenSpec.upto pageDisksSpec)

end Rows
end Go.Proofs.Ytmomlimhjnfadaa
