/-
  No cell of these rows narrows 'for every input' (looked for: loops, veiled, ifaces, maps, wideKeys, modest, calm, conditions, laid).
  DERIVED. THE GIVEN ROWS OF THIS SEAT. 7 by the template 'for every input the law returns true; each argument reads behind the call as it read before'; 0 by the template 'total and deterministic' (their statements: YtcglabmlhljkmaaGreatTotals.lean).
  GIVEN WITH THE SEED: the statements are not yours to turn. If you find one false, say at which input.
  Laid BY PROGRAM, IN A SANDBOX (cutbox-rows.mjs): the forced cells as the released guide's own fill.sh prints them over the translation 65cd4bbd6c7132cf… (all of the seat's roots in one cut). By AI agents, Wed Nov 11 2026. No macro, syntax, notation, axiom, sorry.
-/
import Derived.Test.YtcglabmlhljkmaaGreatChecked
import GoSem.Claim
import GoSem.ClaimJoined
import GoSem.ClaimMapViews
import Derived.JoinedTies
import Derived.KernelRfl
namespace Go.Proofs.YtcglabmlhljkmaaGreat
/- THE CELL 'sum', in the pinned program and in every row, IS THE sha256 OF THE DUMP (.gsa) THAT YtcglabmlhljkmaaGreatProg.lean LOADS. Nothing in Lean hashes anything: it is a label: what it is worth is what the hold of that sum in a sandbox is worth. -/
noncomputable def Tryz.pinned : Pinned := { name := "ytcglabmlhljkmaagreat", sum := "65cd4bbd6c7132cf81f9a5fddb64800dbc351d42d6505eb2304080bbc074991d", checked := Tryz.checked }
namespace Rows
def none {H : Type} : Left H := { results := [], args := [] }

/-- 'ricklaw13.TreeLoads': WHATEVER THE INPUT: true; the input reads as it did. -/
def treeLoadsSpec : ChangeSpec := { name := "treeLoads", fn := fun _ => fun
  | [d1, d2, d3] => { results := [.lit (.bool true)], args := [d1, d2, d3] }
  | _ => none }
def treeLoadsRow : OpenClaim := { program := "ytcglabmlhljkmaagreat", sum := "65cd4bbd6c7132cf81f9a5fddb64800dbc351d42d6505eb2304080bbc074991d", func := "rick/ricklaw13.TreeLoads", spec := "treeLoads", inPlace := ["slices.overlaps[rick/node.Entry]", "slices.overlaps[rick/node.Key]", "slices.overlaps[int]"], unfollowed := true, recurses := true, apart := false }
def TreeLoadsSaid : Prop := treeLoadsRow.holds Tryz.pinned (OpenSpec.ofChange treeLoadsSpec)

/-- ITS FALSE NEIGHBOUR: 'it returns false'. Refute it at one input. -/
def treeLoadsWrong : ChangeSpec := { name := "treeLoads", fn := fun _ => fun
  | [d1, d2, d3] => { results := [.lit (.bool false)], args := [d1, d2, d3] }
  | _ => none }
def TreeLoadsWrongFalsely : Prop := treeLoadsRow.holds Tryz.pinned (OpenSpec.ofChange treeLoadsWrong)

/-- 'ricklaw13.TreeMaps': WHATEVER THE INPUT: true; the input reads as it did. -/
def treeMapsSpec : ChangeSpec := { name := "treeMaps", fn := fun _ => fun
  | [d1, d2] => { results := [.lit (.bool true)], args := [d1, d2] }
  | _ => none }
def treeMapsRow : OpenClaim := { program := "ytcglabmlhljkmaagreat", sum := "65cd4bbd6c7132cf81f9a5fddb64800dbc351d42d6505eb2304080bbc074991d", func := "rick/ricklaw13.TreeMaps", spec := "treeMaps", inPlace := ["slices.overlaps[rick/node.Entry]", "slices.overlaps[rick/node.Key]", "slices.overlaps[int]"], unfollowed := true, recurses := true, apart := false }
def TreeMapsSaid : Prop := treeMapsRow.holds Tryz.pinned (OpenSpec.ofChange treeMapsSpec)

/-- ITS FALSE NEIGHBOUR: 'it returns false'. Refute it at one input. -/
def treeMapsWrong : ChangeSpec := { name := "treeMaps", fn := fun _ => fun
  | [d1, d2] => { results := [.lit (.bool false)], args := [d1, d2] }
  | _ => none }
def TreeMapsWrongFalsely : Prop := treeMapsRow.holds Tryz.pinned (OpenSpec.ofChange treeMapsWrong)

/-- 'ricklaw16.TxnGens': WHATEVER THE INPUT: true; the input reads as it did. -/
def txnGensSpec : ChangeSpec := { name := "txnGens", fn := fun _ => fun
  | [d] => { results := [.lit (.bool true)], args := [d] }
  | _ => none }
def txnGensRow : OpenClaim := { program := "ytcglabmlhljkmaagreat", sum := "65cd4bbd6c7132cf81f9a5fddb64800dbc351d42d6505eb2304080bbc074991d", func := "rick/ricklaw16.TxnGens", spec := "txnGens", inPlace := ["slices.overlaps[rick/node.Entry]", "slices.overlaps[rick/node.Key]", "slices.overlaps[int]"], unfollowed := true, recurses := true, apart := false }
def TxnGensSaid : Prop := txnGensRow.holds Tryz.pinned (OpenSpec.ofChange txnGensSpec)

/-- ITS FALSE NEIGHBOUR: 'it returns false'. Refute it at one input. -/
def txnGensWrong : ChangeSpec := { name := "txnGens", fn := fun _ => fun
  | [d] => { results := [.lit (.bool false)], args := [d] }
  | _ => none }
def TxnGensWrongFalsely : Prop := txnGensRow.holds Tryz.pinned (OpenSpec.ofChange txnGensWrong)

/-- 'ricklaw16.TxnFull': WHATEVER THE INPUT: true; the input reads as it did. -/
def txnFullSpec : ChangeSpec := { name := "txnFull", fn := fun _ => fun
  | [d1, d2] => { results := [.lit (.bool true)], args := [d1, d2] }
  | _ => none }
def txnFullRow : OpenClaim := { program := "ytcglabmlhljkmaagreat", sum := "65cd4bbd6c7132cf81f9a5fddb64800dbc351d42d6505eb2304080bbc074991d", func := "rick/ricklaw16.TxnFull", spec := "txnFull", inPlace := ["slices.overlaps[rick/node.Entry]", "slices.overlaps[rick/node.Key]", "slices.overlaps[int]"], unfollowed := true, recurses := true, apart := false }
def TxnFullSaid : Prop := txnFullRow.holds Tryz.pinned (OpenSpec.ofChange txnFullSpec)

/-- ITS FALSE NEIGHBOUR: 'it returns false'. Refute it at one input. -/
def txnFullWrong : ChangeSpec := { name := "txnFull", fn := fun _ => fun
  | [d1, d2] => { results := [.lit (.bool false)], args := [d1, d2] }
  | _ => none }
def TxnFullWrongFalsely : Prop := txnFullRow.holds Tryz.pinned (OpenSpec.ofChange txnFullWrong)

/-- 'ricklaw16.TxnRooms': WHATEVER THE INPUT: true; the input reads as it did. -/
def txnRoomsSpec : ChangeSpec := { name := "txnRooms", fn := fun _ => fun
  | [d1, d2] => { results := [.lit (.bool true)], args := [d1, d2] }
  | _ => none }
def txnRoomsRow : OpenClaim := { program := "ytcglabmlhljkmaagreat", sum := "65cd4bbd6c7132cf81f9a5fddb64800dbc351d42d6505eb2304080bbc074991d", func := "rick/ricklaw16.TxnRooms", spec := "txnRooms", inPlace := ["slices.overlaps[rick/node.Entry]", "slices.overlaps[rick/node.Key]", "slices.overlaps[int]"], unfollowed := true, recurses := true, apart := false }
def TxnRoomsSaid : Prop := txnRoomsRow.holds Tryz.pinned (OpenSpec.ofChange txnRoomsSpec)

/-- ITS FALSE NEIGHBOUR: 'it returns false'. Refute it at one input. -/
def txnRoomsWrong : ChangeSpec := { name := "txnRooms", fn := fun _ => fun
  | [d1, d2] => { results := [.lit (.bool false)], args := [d1, d2] }
  | _ => none }
def TxnRoomsWrongFalsely : Prop := txnRoomsRow.holds Tryz.pinned (OpenSpec.ofChange txnRoomsWrong)

/-- 'ricklaw16.TxnAborts': WHATEVER THE INPUT: true; the input reads as it did. -/
def txnAbortsSpec : ChangeSpec := { name := "txnAborts", fn := fun _ => fun
  | [d1, d2] => { results := [.lit (.bool true)], args := [d1, d2] }
  | _ => none }
def txnAbortsRow : OpenClaim := { program := "ytcglabmlhljkmaagreat", sum := "65cd4bbd6c7132cf81f9a5fddb64800dbc351d42d6505eb2304080bbc074991d", func := "rick/ricklaw16.TxnAborts", spec := "txnAborts", inPlace := ["slices.overlaps[rick/node.Entry]", "slices.overlaps[rick/node.Key]", "slices.overlaps[int]"], unfollowed := true, recurses := true, apart := false }
def TxnAbortsSaid : Prop := txnAbortsRow.holds Tryz.pinned (OpenSpec.ofChange txnAbortsSpec)

/-- ITS FALSE NEIGHBOUR: 'it returns false'. Refute it at one input. -/
def txnAbortsWrong : ChangeSpec := { name := "txnAborts", fn := fun _ => fun
  | [d1, d2] => { results := [.lit (.bool false)], args := [d1, d2] }
  | _ => none }
def TxnAbortsWrongFalsely : Prop := txnAbortsRow.holds Tryz.pinned (OpenSpec.ofChange txnAbortsWrong)

/-- 'ricklaw16.TxnActs': WHATEVER THE INPUT: true; the input reads as it did. -/
def txnActsSpec : ChangeSpec := { name := "txnActs", fn := fun _ => fun
  | [d1, d2] => { results := [.lit (.bool true)], args := [d1, d2] }
  | _ => none }
def txnActsRow : OpenClaim := { program := "ytcglabmlhljkmaagreat", sum := "65cd4bbd6c7132cf81f9a5fddb64800dbc351d42d6505eb2304080bbc074991d", func := "rick/ricklaw16.TxnActs", spec := "txnActs", inPlace := ["slices.overlaps[rick/node.Entry]", "slices.overlaps[rick/node.Key]", "slices.overlaps[int]"], unfollowed := true, recurses := true, apart := false }
def TxnActsSaid : Prop := txnActsRow.holds Tryz.pinned (OpenSpec.ofChange txnActsSpec)

/-- ITS FALSE NEIGHBOUR: 'it returns false'. Refute it at one input. -/
def txnActsWrong : ChangeSpec := { name := "txnActs", fn := fun _ => fun
  | [d1, d2] => { results := [.lit (.bool false)], args := [d1, d2] }
  | _ => none }
def TxnActsWrongFalsely : Prop := txnActsRow.holds Tryz.pinned (OpenSpec.ofChange txnActsWrong)

/- THE SECOND FORM. 'bulk': how many values and letters a reading holds, each counted each time it is reached (what is shared counts as often as it is met; a slice's spare places count too). A statement '..UptoSaid' is the law's where the arguments, and the package variables that the reading takes, are together of bulk at most 1048576: NARROWER than '..Said'. Prove '..Said' where nothing that the law and all that it calls make is longer than what came in: it says more and counts as full. Else prove '..UptoSaid'. A law counts once. -/
mutual
def uptoBulk {H : Type} : DataW H → Nat
  | .lit (.string bytes) => bytes.length + 1
  | .lit _ => 1
  | .nil => 1
  | .ptr d => uptoBulk d + 1
  | .slice elems spare => uptoBulkAll elems + uptoBulkAll spare + 1
  | .agg parts => uptoBulkAll parts + 1
  | .iface _ d => uptoBulk d + 1
  | .map entries => uptoBulkEntries entries + 1
  | .held _ => 1
def uptoBulkAll {H : Type} : List (DataW H) → Nat
  | [] => 0
  | d :: r => uptoBulk d + uptoBulkAll r
def uptoBulkEntries {H : Type} : List (Lit × DataW H) → Nat
  | [] => 0
  | x :: r => uptoBulkEntry x + uptoBulkEntries r
def uptoBulkEntry {H : Type} : Lit × DataW H → Nat
  | (.string bytes, d) => bytes.length + uptoBulk d + 1
  | (_, d) => uptoBulk d + 1
 end
def uptoSmall : (H : Type) → List (DataW H) → Bool := fun _ ds => decide (uptoBulkAll ds ≤ 1048576)
def OpenSpec.upto (s : _root_.Go.ChangeSpec) : _root_.Go.OpenSpec := { _root_.Go.OpenSpec.ofChange s with cond := some uptoSmall }

/-- 'ricklaw13.TreeLoads', WHERE WHAT IT READS IS OF BULK AT MOST 1048576: true; the input reads as it did. -/
def treeLoadsUptoRow : OpenClaim := { program := "ytcglabmlhljkmaagreat", sum := "65cd4bbd6c7132cf81f9a5fddb64800dbc351d42d6505eb2304080bbc074991d", func := "rick/ricklaw13.TreeLoads", spec := "treeLoads", inPlace := ["slices.overlaps[rick/node.Entry]", "slices.overlaps[rick/node.Key]", "slices.overlaps[int]"], unfollowed := true, recurses := true, apart := false, narrowed := true }
def TreeLoadsUptoSaid : Prop := treeLoadsUptoRow.holds Tryz.pinned (OpenSpec.upto treeLoadsSpec)

/-- 'ricklaw13.TreeMaps', WHERE WHAT IT READS IS OF BULK AT MOST 1048576: true; the input reads as it did. -/
def treeMapsUptoRow : OpenClaim := { program := "ytcglabmlhljkmaagreat", sum := "65cd4bbd6c7132cf81f9a5fddb64800dbc351d42d6505eb2304080bbc074991d", func := "rick/ricklaw13.TreeMaps", spec := "treeMaps", inPlace := ["slices.overlaps[rick/node.Entry]", "slices.overlaps[rick/node.Key]", "slices.overlaps[int]"], unfollowed := true, recurses := true, apart := false, narrowed := true }
def TreeMapsUptoSaid : Prop := treeMapsUptoRow.holds Tryz.pinned (OpenSpec.upto treeMapsSpec)

/-- 'ricklaw16.TxnGens', WHERE WHAT IT READS IS OF BULK AT MOST 1048576: true; the input reads as it did. -/
def txnGensUptoRow : OpenClaim := { program := "ytcglabmlhljkmaagreat", sum := "65cd4bbd6c7132cf81f9a5fddb64800dbc351d42d6505eb2304080bbc074991d", func := "rick/ricklaw16.TxnGens", spec := "txnGens", inPlace := ["slices.overlaps[rick/node.Entry]", "slices.overlaps[rick/node.Key]", "slices.overlaps[int]"], unfollowed := true, recurses := true, apart := false, narrowed := true }
def TxnGensUptoSaid : Prop := txnGensUptoRow.holds Tryz.pinned (OpenSpec.upto txnGensSpec)

/-- 'ricklaw16.TxnFull', WHERE WHAT IT READS IS OF BULK AT MOST 1048576: true; the input reads as it did. -/
def txnFullUptoRow : OpenClaim := { program := "ytcglabmlhljkmaagreat", sum := "65cd4bbd6c7132cf81f9a5fddb64800dbc351d42d6505eb2304080bbc074991d", func := "rick/ricklaw16.TxnFull", spec := "txnFull", inPlace := ["slices.overlaps[rick/node.Entry]", "slices.overlaps[rick/node.Key]", "slices.overlaps[int]"], unfollowed := true, recurses := true, apart := false, narrowed := true }
def TxnFullUptoSaid : Prop := txnFullUptoRow.holds Tryz.pinned (OpenSpec.upto txnFullSpec)

/-- 'ricklaw16.TxnRooms', WHERE WHAT IT READS IS OF BULK AT MOST 1048576: true; the input reads as it did. -/
def txnRoomsUptoRow : OpenClaim := { program := "ytcglabmlhljkmaagreat", sum := "65cd4bbd6c7132cf81f9a5fddb64800dbc351d42d6505eb2304080bbc074991d", func := "rick/ricklaw16.TxnRooms", spec := "txnRooms", inPlace := ["slices.overlaps[rick/node.Entry]", "slices.overlaps[rick/node.Key]", "slices.overlaps[int]"], unfollowed := true, recurses := true, apart := false, narrowed := true }
def TxnRoomsUptoSaid : Prop := txnRoomsUptoRow.holds Tryz.pinned (OpenSpec.upto txnRoomsSpec)

/-- 'ricklaw16.TxnAborts', WHERE WHAT IT READS IS OF BULK AT MOST 1048576: true; the input reads as it did. -/
def txnAbortsUptoRow : OpenClaim := { program := "ytcglabmlhljkmaagreat", sum := "65cd4bbd6c7132cf81f9a5fddb64800dbc351d42d6505eb2304080bbc074991d", func := "rick/ricklaw16.TxnAborts", spec := "txnAborts", inPlace := ["slices.overlaps[rick/node.Entry]", "slices.overlaps[rick/node.Key]", "slices.overlaps[int]"], unfollowed := true, recurses := true, apart := false, narrowed := true }
def TxnAbortsUptoSaid : Prop := txnAbortsUptoRow.holds Tryz.pinned (OpenSpec.upto txnAbortsSpec)

/-- 'ricklaw16.TxnActs', WHERE WHAT IT READS IS OF BULK AT MOST 1048576: true; the input reads as it did. -/
def txnActsUptoRow : OpenClaim := { program := "ytcglabmlhljkmaagreat", sum := "65cd4bbd6c7132cf81f9a5fddb64800dbc351d42d6505eb2304080bbc074991d", func := "rick/ricklaw16.TxnActs", spec := "txnActs", inPlace := ["slices.overlaps[rick/node.Entry]", "slices.overlaps[rick/node.Key]", "slices.overlaps[int]"], unfollowed := true, recurses := true, apart := false, narrowed := true }
def TxnActsUptoSaid : Prop := txnActsUptoRow.holds Tryz.pinned (OpenSpec.upto txnActsSpec)

end Rows
end Go.Proofs.YtcglabmlhljkmaaGreat
