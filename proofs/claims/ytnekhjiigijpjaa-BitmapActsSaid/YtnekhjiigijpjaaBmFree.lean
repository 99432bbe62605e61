/- Free side by side, as the reference asks. -/
import Derived.Test.YtnekhjiigijpjaaBmPut2
namespace Go.Gv
def sideM (m o : BM) (a n : Nat) : Bool := (List.range n).all fun j => decide (((a + j : Nat) : Int) < m.p) && !bothAt m o (a + j)
theorem side_no {m o : BM} {a n j : Nat} (hj : j < n) (h : (decide (((a + j : Nat) : Int) < m.p) && !bothAt m o (a + j)) = false) : sideM m o a n = false := by
  cases hh : sideM m o a n
  · rfl
  · rw [List.all_eq_true.1 hh j (List.mem_range.2 hj)] at h; cases h
theorem side_yes {m o : BM} {a n : Nat} (h : ∀ j, j < n → (decide (((a + j : Nat) : Int) < m.p) && !bothAt m o (a + j)) = true) : sideM m o a n = true := List.all_eq_true.2 (fun j hj => h j (List.mem_range.1 hj))
end Go.Gv
