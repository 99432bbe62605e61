/- Take, as the reference does it. -/
import Derived.Test.YtnekhjiigijpjaaBmFree
namespace Go.Gv
def refSeek (m o : BM) (n : Nat) : Nat → Nat → Option Nat
  | 0, _ => none
  | f + 1, a => if decide ((n : Int) ≤ m.p) && sideM m o a n then some a else refSeek m o n f (a + 1)
def refTake (m o : BM) (n : Int) : BM × Int × Nat :=
  if !alikeM m o || decide (n < 1) then (zeroM, 0, 1)
  else match refSeek m o n.toNat (m.p.toNat - 2) 2 with
    | some a => (⟨m.p, setFrom m.u true a n.toNat⟩, (a : Int), 0)
    | none => (zeroM, 0, 5)
theorem side_in {m o : BM} {a n : Nat} (h : sideM m o a n = true) (hn : 0 < n) : ((a + n : Nat) : Int) ≤ m.p := by
  have := List.all_eq_true.1 h (n - 1) (List.mem_range.2 (by omega))
  simp only [Bool.and_eq_true, decide_eq_true_eq] at this
  omega
end Go.Gv
