/-
  No cell of these rows narrows 'for every input' (looked for: loops, veiled, ifaces, maps, wideKeys, modest, calm, conditions, laid).
  DERIVED. THE GIVEN ROWS OF THIS SEAT. 12 by the template 'for every input the law returns true; each argument reads behind the call as it read before'; 0 by the template 'total and deterministic' (their statements: YtnekhjiigijpjaaTotals.lean).
  GIVEN WITH THE SEED: the statements are not yours to turn. If you find one false, say at which input.
  Laid BY PROGRAM, IN A SANDBOX (cutbox-rows.mjs): the forced cells as the released guide's own fill.sh prints them over the translation c01ae1fe01f53545… (all of the seat's roots in one cut). By AI agents, Wed Nov 11 2026. No macro, syntax, notation, axiom, sorry.
-/
import Derived.Test.YtnekhjiigijpjaaChecked
import GoSem.Claim
import GoSem.ClaimJoined
import GoSem.ClaimMapViews
import Derived.JoinedTies
import Derived.KernelRfl
namespace Go.Proofs.Ytnekhjiigijpjaa
/- THE CELL 'sum', in the pinned program and in every row, IS THE sha256 OF THE DUMP (.gsa) THAT YtnekhjiigijpjaaProg.lean LOADS. Nothing in Lean hashes anything: it is a label: what it is worth is what the hold of that sum in a sandbox is worth. -/
noncomputable def Try.pinned : Pinned := { name := "ytnekhjiigijpjaa", sum := "c01ae1fe01f5354513ad40a20fc2cc8a99a0e80e4237f0accf07c1d2b168b60d", checked := Try.checked }
namespace Rows
def none {H : Type} : Left H := { results := [], args := [] }

/-- 'ricklaw02.CrcSums': WHATEVER THE INPUT: true; the input reads as it did. -/
def crcSumsSpec : ChangeSpec := { name := "crcSums", fn := fun _ => fun
  | [d1, d2] => { results := [.lit (.bool true)], args := [d1, d2] }
  | _ => none }
def crcSumsRow : OpenClaim := { program := "ytnekhjiigijpjaa", sum := "c01ae1fe01f5354513ad40a20fc2cc8a99a0e80e4237f0accf07c1d2b168b60d", func := "rick/ricklaw02.CrcSums", spec := "crcSums", apart := false }
def CrcSumsSaid : Prop := crcSumsRow.holds Try.pinned (OpenSpec.ofChange crcSumsSpec)

/-- ITS FALSE NEIGHBOUR: 'it returns false'. Refute it at one input. -/
def crcSumsWrong : ChangeSpec := { name := "crcSums", fn := fun _ => fun
  | [d1, d2] => { results := [.lit (.bool false)], args := [d1, d2] }
  | _ => none }
def CrcSumsWrongFalsely : Prop := crcSumsRow.holds Try.pinned (OpenSpec.ofChange crcSumsWrong)

/-- 'ricklaw02.CrcBursts': WHATEVER THE INPUT: true; the input reads as it did. -/
def crcBurstsSpec : ChangeSpec := { name := "crcBursts", fn := fun _ => fun
  | [d1, d2, d3] => { results := [.lit (.bool true)], args := [d1, d2, d3] }
  | _ => none }
def crcBurstsRow : OpenClaim := { program := "ytnekhjiigijpjaa", sum := "c01ae1fe01f5354513ad40a20fc2cc8a99a0e80e4237f0accf07c1d2b168b60d", func := "rick/ricklaw02.CrcBursts", spec := "crcBursts", apart := false }
def CrcBurstsSaid : Prop := crcBurstsRow.holds Try.pinned (OpenSpec.ofChange crcBurstsSpec)

/-- ITS FALSE NEIGHBOUR: 'it returns false'. Refute it at one input. -/
def crcBurstsWrong : ChangeSpec := { name := "crcBursts", fn := fun _ => fun
  | [d1, d2, d3] => { results := [.lit (.bool false)], args := [d1, d2, d3] }
  | _ => none }
def CrcBurstsWrongFalsely : Prop := crcBurstsRow.holds Try.pinned (OpenSpec.ofChange crcBurstsWrong)

/-- 'ricklaw02.CrcTables': WHATEVER THE INPUT: true; the input reads as it did. -/
def crcTablesSpec : ChangeSpec := { name := "crcTables", fn := fun _ => fun
  | [d] => { results := [.lit (.bool true)], args := [d] }
  | _ => none }
def crcTablesRow : OpenClaim := { program := "ytnekhjiigijpjaa", sum := "c01ae1fe01f5354513ad40a20fc2cc8a99a0e80e4237f0accf07c1d2b168b60d", func := "rick/ricklaw02.CrcTables", spec := "crcTables", apart := false }
def CrcTablesSaid : Prop := crcTablesRow.holds Try.pinned (OpenSpec.ofChange crcTablesSpec)

/-- ITS FALSE NEIGHBOUR: 'it returns false'. Refute it at one input. -/
def crcTablesWrong : ChangeSpec := { name := "crcTables", fn := fun _ => fun
  | [d] => { results := [.lit (.bool false)], args := [d] }
  | _ => none }
def CrcTablesWrongFalsely : Prop := crcTablesRow.holds Try.pinned (OpenSpec.ofChange crcTablesWrong)

/-- 'ricklaw02.CrcThree': WHATEVER THE INPUT: true; the input reads as it did. -/
def crcThreeSpec : ChangeSpec := { name := "crcThree", fn := fun _ => fun
  | [d1, d2, d3] => { results := [.lit (.bool true)], args := [d1, d2, d3] }
  | _ => none }
def crcThreeRow : OpenClaim := { program := "ytnekhjiigijpjaa", sum := "c01ae1fe01f5354513ad40a20fc2cc8a99a0e80e4237f0accf07c1d2b168b60d", func := "rick/ricklaw02.CrcThree", spec := "crcThree", apart := false }
def CrcThreeSaid : Prop := crcThreeRow.holds Try.pinned (OpenSpec.ofChange crcThreeSpec)

/-- ITS FALSE NEIGHBOUR: 'it returns false'. Refute it at one input. -/
def crcThreeWrong : ChangeSpec := { name := "crcThree", fn := fun _ => fun
  | [d1, d2, d3] => { results := [.lit (.bool false)], args := [d1, d2, d3] }
  | _ => none }
def CrcThreeWrongFalsely : Prop := crcThreeRow.holds Try.pinned (OpenSpec.ofChange crcThreeWrong)

/-- 'ricklaw11.BitmapTurns': WHATEVER THE INPUT: true; the input reads as it did. -/
def bitmapTurnsSpec : ChangeSpec := { name := "bitmapTurns", fn := fun _ => fun
  | [d1, d2] => { results := [.lit (.bool true)], args := [d1, d2] }
  | _ => none }
def bitmapTurnsRow : OpenClaim := { program := "ytnekhjiigijpjaa", sum := "c01ae1fe01f5354513ad40a20fc2cc8a99a0e80e4237f0accf07c1d2b168b60d", func := "rick/ricklaw11.BitmapTurns", spec := "bitmapTurns", apart := false }
def BitmapTurnsSaid : Prop := bitmapTurnsRow.holds Try.pinned (OpenSpec.ofChange bitmapTurnsSpec)

/-- ITS FALSE NEIGHBOUR: 'it returns false'. Refute it at one input. -/
def bitmapTurnsWrong : ChangeSpec := { name := "bitmapTurns", fn := fun _ => fun
  | [d1, d2] => { results := [.lit (.bool false)], args := [d1, d2] }
  | _ => none }
def BitmapTurnsWrongFalsely : Prop := bitmapTurnsRow.holds Try.pinned (OpenSpec.ofChange bitmapTurnsWrong)

/-- 'ricklaw03.PagePuts': WHATEVER THE INPUT: true; the input reads as it did. -/
def pagePutsSpec : ChangeSpec := { name := "pagePuts", fn := fun _ => fun
  | [d] => { results := [.lit (.bool true)], args := [d] }
  | _ => none }
def pagePutsRow : OpenClaim := { program := "ytnekhjiigijpjaa", sum := "c01ae1fe01f5354513ad40a20fc2cc8a99a0e80e4237f0accf07c1d2b168b60d", func := "rick/ricklaw03.PagePuts", spec := "pagePuts", apart := false }
def PagePutsSaid : Prop := pagePutsRow.holds Try.pinned (OpenSpec.ofChange pagePutsSpec)

/-- ITS FALSE NEIGHBOUR: 'it returns false'. Refute it at one input. -/
def pagePutsWrong : ChangeSpec := { name := "pagePuts", fn := fun _ => fun
  | [d] => { results := [.lit (.bool false)], args := [d] }
  | _ => none }
def PagePutsWrongFalsely : Prop := pagePutsRow.holds Try.pinned (OpenSpec.ofChange pagePutsWrong)

/-- 'ricklaw03.PageGets': WHATEVER THE INPUT: true; the input reads as it did. -/
def pageGetsSpec : ChangeSpec := { name := "pageGets", fn := fun _ => fun
  | [d1, d2, d3] => { results := [.lit (.bool true)], args := [d1, d2, d3] }
  | _ => none }
def pageGetsRow : OpenClaim := { program := "ytnekhjiigijpjaa", sum := "c01ae1fe01f5354513ad40a20fc2cc8a99a0e80e4237f0accf07c1d2b168b60d", func := "rick/ricklaw03.PageGets", spec := "pageGets", apart := false }
def PageGetsSaid : Prop := pageGetsRow.holds Try.pinned (OpenSpec.ofChange pageGetsSpec)

/-- ITS FALSE NEIGHBOUR: 'it returns false'. Refute it at one input. -/
def pageGetsWrong : ChangeSpec := { name := "pageGets", fn := fun _ => fun
  | [d1, d2, d3] => { results := [.lit (.bool false)], args := [d1, d2, d3] }
  | _ => none }
def PageGetsWrongFalsely : Prop := pageGetsRow.holds Try.pinned (OpenSpec.ofChange pageGetsWrong)

/-- 'ricklaw11.BitmapRaw': WHATEVER THE INPUT: true; the input reads as it did. -/
def bitmapRawSpec : ChangeSpec := { name := "bitmapRaw", fn := fun _ => fun
  | [d1, d2, d3] => { results := [.lit (.bool true)], args := [d1, d2, d3] }
  | _ => none }
def bitmapRawRow : OpenClaim := { program := "ytnekhjiigijpjaa", sum := "c01ae1fe01f5354513ad40a20fc2cc8a99a0e80e4237f0accf07c1d2b168b60d", func := "rick/ricklaw11.BitmapRaw", spec := "bitmapRaw", apart := false }
def BitmapRawSaid : Prop := bitmapRawRow.holds Try.pinned (OpenSpec.ofChange bitmapRawSpec)

/-- ITS FALSE NEIGHBOUR: 'it returns false'. Refute it at one input. -/
def bitmapRawWrong : ChangeSpec := { name := "bitmapRaw", fn := fun _ => fun
  | [d1, d2, d3] => { results := [.lit (.bool false)], args := [d1, d2, d3] }
  | _ => none }
def BitmapRawWrongFalsely : Prop := bitmapRawRow.holds Try.pinned (OpenSpec.ofChange bitmapRawWrong)

/-- 'ricklaw01.DiskWaits': WHATEVER THE INPUT: true; the input reads as it did. -/
def diskWaitsSpec : ChangeSpec := { name := "diskWaits", fn := fun _ => fun
  | [d1, d2] => { results := [.lit (.bool true)], args := [d1, d2] }
  | _ => none }
def diskWaitsRow : OpenClaim := { program := "ytnekhjiigijpjaa", sum := "c01ae1fe01f5354513ad40a20fc2cc8a99a0e80e4237f0accf07c1d2b168b60d", func := "rick/ricklaw01.DiskWaits", spec := "diskWaits", apart := false }
def DiskWaitsSaid : Prop := diskWaitsRow.holds Try.pinned (OpenSpec.ofChange diskWaitsSpec)

/-- ITS FALSE NEIGHBOUR: 'it returns false'. Refute it at one input. -/
def diskWaitsWrong : ChangeSpec := { name := "diskWaits", fn := fun _ => fun
  | [d1, d2] => { results := [.lit (.bool false)], args := [d1, d2] }
  | _ => none }
def DiskWaitsWrongFalsely : Prop := diskWaitsRow.holds Try.pinned (OpenSpec.ofChange diskWaitsWrong)

/-- 'ricklaw01.DiskLoads': WHATEVER THE INPUT: true; the input reads as it did. -/
def diskLoadsSpec : ChangeSpec := { name := "diskLoads", fn := fun _ => fun
  | [d1, d2] => { results := [.lit (.bool true)], args := [d1, d2] }
  | _ => none }
def diskLoadsRow : OpenClaim := { program := "ytnekhjiigijpjaa", sum := "c01ae1fe01f5354513ad40a20fc2cc8a99a0e80e4237f0accf07c1d2b168b60d", func := "rick/ricklaw01.DiskLoads", spec := "diskLoads", apart := false }
def DiskLoadsSaid : Prop := diskLoadsRow.holds Try.pinned (OpenSpec.ofChange diskLoadsSpec)

/-- ITS FALSE NEIGHBOUR: 'it returns false'. Refute it at one input. -/
def diskLoadsWrong : ChangeSpec := { name := "diskLoads", fn := fun _ => fun
  | [d1, d2] => { results := [.lit (.bool false)], args := [d1, d2] }
  | _ => none }
def DiskLoadsWrongFalsely : Prop := diskLoadsRow.holds Try.pinned (OpenSpec.ofChange diskLoadsWrong)

/-- 'ricklaw11.BitmapActs': WHATEVER THE INPUT: true; the input reads as it did. -/
def bitmapActsSpec : ChangeSpec := { name := "bitmapActs", fn := fun _ => fun
  | [d1, d2] => { results := [.lit (.bool true)], args := [d1, d2] }
  | _ => none }
def bitmapActsRow : OpenClaim := { program := "ytnekhjiigijpjaa", sum := "c01ae1fe01f5354513ad40a20fc2cc8a99a0e80e4237f0accf07c1d2b168b60d", func := "rick/ricklaw11.BitmapActs", spec := "bitmapActs", apart := false }
def BitmapActsSaid : Prop := bitmapActsRow.holds Try.pinned (OpenSpec.ofChange bitmapActsSpec)

/-- ITS FALSE NEIGHBOUR: 'it returns false'. Refute it at one input. -/
def bitmapActsWrong : ChangeSpec := { name := "bitmapActs", fn := fun _ => fun
  | [d1, d2] => { results := [.lit (.bool false)], args := [d1, d2] }
  | _ => none }
def BitmapActsWrongFalsely : Prop := bitmapActsRow.holds Try.pinned (OpenSpec.ofChange bitmapActsWrong)

/-- 'ricklaw01.DiskFails': WHATEVER THE INPUT: true; the input reads as it did. -/
def diskFailsSpec : ChangeSpec := { name := "diskFails", fn := fun _ => fun
  | [d1, d2] => { results := [.lit (.bool true)], args := [d1, d2] }
  | _ => none }
def diskFailsRow : OpenClaim := { program := "ytnekhjiigijpjaa", sum := "c01ae1fe01f5354513ad40a20fc2cc8a99a0e80e4237f0accf07c1d2b168b60d", func := "rick/ricklaw01.DiskFails", spec := "diskFails", apart := false }
def DiskFailsSaid : Prop := diskFailsRow.holds Try.pinned (OpenSpec.ofChange diskFailsSpec)

/-- ITS FALSE NEIGHBOUR: 'it returns false'. Refute it at one input. -/
def diskFailsWrong : ChangeSpec := { name := "diskFails", fn := fun _ => fun
  | [d1, d2] => { results := [.lit (.bool false)], args := [d1, d2] }
  | _ => none }
def DiskFailsWrongFalsely : Prop := diskFailsRow.holds Try.pinned (OpenSpec.ofChange diskFailsWrong)

/- THE SECOND FORM. 'bulk': how many values and letters a reading holds, each counted each time it is reached (what is shared counts as often as it is met; a slice's spare places count too). A statement '..UptoSaid' is the law's where the arguments, and the package variables that the reading takes, are together of bulk at most 1048576: NARROWER than '..Said'. Prove '..Said' where nothing that the law and all that it calls make is longer than what came in: it says more and counts as full. Else prove '..UptoSaid'. A law counts once. -/
mutual
def uptoBulk {H : Type} : DataW H → Nat
  | .lit (.string bytes) => bytes.length + 1
  | .lit _ => 1
  | .nil => 1
  | .ptr d => uptoBulk d + 1
  | .slice elems spare => uptoBulkAll elems + uptoBulkAll spare + 1
  | .agg parts => uptoBulkAll parts + 1
  | .iface _ d => uptoBulk d + 1
  | .map entries => uptoBulkEntries entries + 1
  | .held _ => 1
def uptoBulkAll {H : Type} : List (DataW H) → Nat
  | [] => 0
  | d :: r => uptoBulk d + uptoBulkAll r
def uptoBulkEntries {H : Type} : List (Lit × DataW H) → Nat
  | [] => 0
  | x :: r => uptoBulkEntry x + uptoBulkEntries r
def uptoBulkEntry {H : Type} : Lit × DataW H → Nat
  | (.string bytes, d) => bytes.length + uptoBulk d + 1
  | (_, d) => uptoBulk d + 1
 end
def uptoSmall : (H : Type) → List (DataW H) → Bool := fun _ ds => decide (uptoBulkAll ds ≤ 1048576)
def OpenSpec.upto (s : _root_.Go.ChangeSpec) : _root_.Go.OpenSpec := { _root_.Go.OpenSpec.ofChange s with cond := some uptoSmall }

/-- 'ricklaw02.CrcSums', WHERE WHAT IT READS IS OF BULK AT MOST 1048576: true; the input reads as it did. -/
def crcSumsUptoRow : OpenClaim := { program := "ytnekhjiigijpjaa", sum := "c01ae1fe01f5354513ad40a20fc2cc8a99a0e80e4237f0accf07c1d2b168b60d", func := "rick/ricklaw02.CrcSums", spec := "crcSums", apart := false, narrowed := true }
def CrcSumsUptoSaid : Prop := crcSumsUptoRow.holds Try.pinned (OpenSpec.upto crcSumsSpec)

/-- 'ricklaw02.CrcBursts', WHERE WHAT IT READS IS OF BULK AT MOST 1048576: true; the input reads as it did. -/
def crcBurstsUptoRow : OpenClaim := { program := "ytnekhjiigijpjaa", sum := "c01ae1fe01f5354513ad40a20fc2cc8a99a0e80e4237f0accf07c1d2b168b60d", func := "rick/ricklaw02.CrcBursts", spec := "crcBursts", apart := false, narrowed := true }
def CrcBurstsUptoSaid : Prop := crcBurstsUptoRow.holds Try.pinned (OpenSpec.upto crcBurstsSpec)

/-- 'ricklaw02.CrcTables', WHERE WHAT IT READS IS OF BULK AT MOST 1048576: true; the input reads as it did. -/
def crcTablesUptoRow : OpenClaim := { program := "ytnekhjiigijpjaa", sum := "c01ae1fe01f5354513ad40a20fc2cc8a99a0e80e4237f0accf07c1d2b168b60d", func := "rick/ricklaw02.CrcTables", spec := "crcTables", apart := false, narrowed := true }
def CrcTablesUptoSaid : Prop := crcTablesUptoRow.holds Try.pinned (OpenSpec.upto crcTablesSpec)

/-- 'ricklaw02.CrcThree', WHERE WHAT IT READS IS OF BULK AT MOST 1048576: true; the input reads as it did. -/
def crcThreeUptoRow : OpenClaim := { program := "ytnekhjiigijpjaa", sum := "c01ae1fe01f5354513ad40a20fc2cc8a99a0e80e4237f0accf07c1d2b168b60d", func := "rick/ricklaw02.CrcThree", spec := "crcThree", apart := false, narrowed := true }
def CrcThreeUptoSaid : Prop := crcThreeUptoRow.holds Try.pinned (OpenSpec.upto crcThreeSpec)

/-- 'ricklaw11.BitmapTurns', WHERE WHAT IT READS IS OF BULK AT MOST 1048576: true; the input reads as it did. -/
def bitmapTurnsUptoRow : OpenClaim := { program := "ytnekhjiigijpjaa", sum := "c01ae1fe01f5354513ad40a20fc2cc8a99a0e80e4237f0accf07c1d2b168b60d", func := "rick/ricklaw11.BitmapTurns", spec := "bitmapTurns", apart := false, narrowed := true }
def BitmapTurnsUptoSaid : Prop := bitmapTurnsUptoRow.holds Try.pinned (OpenSpec.upto bitmapTurnsSpec)

/-- 'ricklaw03.PagePuts', WHERE WHAT IT READS IS OF BULK AT MOST 1048576: true; the input reads as it did. -/
def pagePutsUptoRow : OpenClaim := { program := "ytnekhjiigijpjaa", sum := "c01ae1fe01f5354513ad40a20fc2cc8a99a0e80e4237f0accf07c1d2b168b60d", func := "rick/ricklaw03.PagePuts", spec := "pagePuts", apart := false, narrowed := true }
def PagePutsUptoSaid : Prop := pagePutsUptoRow.holds Try.pinned (OpenSpec.upto pagePutsSpec)

/-- 'ricklaw03.PageGets', WHERE WHAT IT READS IS OF BULK AT MOST 1048576: true; the input reads as it did. -/
def pageGetsUptoRow : OpenClaim := { program := "ytnekhjiigijpjaa", sum := "c01ae1fe01f5354513ad40a20fc2cc8a99a0e80e4237f0accf07c1d2b168b60d", func := "rick/ricklaw03.PageGets", spec := "pageGets", apart := false, narrowed := true }
def PageGetsUptoSaid : Prop := pageGetsUptoRow.holds Try.pinned (OpenSpec.upto pageGetsSpec)

/-- 'ricklaw11.BitmapRaw', WHERE WHAT IT READS IS OF BULK AT MOST 1048576: true; the input reads as it did. -/
def bitmapRawUptoRow : OpenClaim := { program := "ytnekhjiigijpjaa", sum := "c01ae1fe01f5354513ad40a20fc2cc8a99a0e80e4237f0accf07c1d2b168b60d", func := "rick/ricklaw11.BitmapRaw", spec := "bitmapRaw", apart := false, narrowed := true }
def BitmapRawUptoSaid : Prop := bitmapRawUptoRow.holds Try.pinned (OpenSpec.upto bitmapRawSpec)

/-- 'ricklaw01.DiskWaits', WHERE WHAT IT READS IS OF BULK AT MOST 1048576: true; the input reads as it did. -/
def diskWaitsUptoRow : OpenClaim := { program := "ytnekhjiigijpjaa", sum := "c01ae1fe01f5354513ad40a20fc2cc8a99a0e80e4237f0accf07c1d2b168b60d", func := "rick/ricklaw01.DiskWaits", spec := "diskWaits", apart := false, narrowed := true }
def DiskWaitsUptoSaid : Prop := diskWaitsUptoRow.holds Try.pinned (OpenSpec.upto diskWaitsSpec)

/-- 'ricklaw01.DiskLoads', WHERE WHAT IT READS IS OF BULK AT MOST 1048576: true; the input reads as it did. -/
def diskLoadsUptoRow : OpenClaim := { program := "ytnekhjiigijpjaa", sum := "c01ae1fe01f5354513ad40a20fc2cc8a99a0e80e4237f0accf07c1d2b168b60d", func := "rick/ricklaw01.DiskLoads", spec := "diskLoads", apart := false, narrowed := true }
def DiskLoadsUptoSaid : Prop := diskLoadsUptoRow.holds Try.pinned (OpenSpec.upto diskLoadsSpec)

/-- 'ricklaw11.BitmapActs', WHERE WHAT IT READS IS OF BULK AT MOST 1048576: true; the input reads as it did. -/
def bitmapActsUptoRow : OpenClaim := { program := "ytnekhjiigijpjaa", sum := "c01ae1fe01f5354513ad40a20fc2cc8a99a0e80e4237f0accf07c1d2b168b60d", func := "rick/ricklaw11.BitmapActs", spec := "bitmapActs", apart := false, narrowed := true }
def BitmapActsUptoSaid : Prop := bitmapActsUptoRow.holds Try.pinned (OpenSpec.upto bitmapActsSpec)

/-- 'ricklaw01.DiskFails', WHERE WHAT IT READS IS OF BULK AT MOST 1048576: true; the input reads as it did. -/
def diskFailsUptoRow : OpenClaim := { program := "ytnekhjiigijpjaa", sum := "c01ae1fe01f5354513ad40a20fc2cc8a99a0e80e4237f0accf07c1d2b168b60d", func := "rick/ricklaw01.DiskFails", spec := "diskFails", apart := false, narrowed := true }
def DiskFailsUptoSaid : Prop := diskFailsUptoRow.holds Try.pinned (OpenSpec.upto diskFailsSpec)

end Rows
end Go.Proofs.Ytnekhjiigijpjaa
