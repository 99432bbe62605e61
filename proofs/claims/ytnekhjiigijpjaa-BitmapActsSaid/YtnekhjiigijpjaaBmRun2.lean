/- Run, as the reference does it. -/
import Derived.Test.YtnekhjiigijpjaaBmTake2
namespace Go.Gv
def growM (m o : BM) (a : Nat) : Nat → Nat → Nat
  | 0, b => b
  | f + 1, b => if sideM m o a (b + 1) then growM m o a f (b + 1) else b
def refBest (m o : BM) : Nat → Nat
  | 0 => 0
  | a + 1 => growM m o a (m.p.toNat - refBest m o a) (refBest m o a)
def refRun (m o : BM) : Nat := if alikeM m o then refBest m o m.p.toNat else 0
theorem growM_le (m o : BM) (a : Nat) : ∀ f b, growM m o a f b ≤ b + f
  | 0, b => Nat.le_refl _
  | f + 1, b => by
    rw [growM]; split
    · have := growM_le m o a f (b + 1); omega
    · omega
theorem refBest_le (m o : BM) : ∀ a, refBest m o a ≤ m.p.toNat
  | 0 => Nat.zero_le _
  | a + 1 => by
    have := refBest_le m o a
    have := growM_le m o a (m.p.toNat - refBest m o a) (refBest m o a)
    rw [refBest]; omega
theorem growM_stop {m o : BM} {a b : Nat} (f : Nat) (h : sideM m o a (b + 1) = false) : growM m o a f b = b := by
  cases f with
  | zero => rfl
  | succ f => rw [growM, h, if_neg (by simp)]
end Go.Gv
