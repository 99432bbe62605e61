/- Whether a map may be, as the reference asks. -/
import Derived.Test.YtnekhjiigijpjaaBmPut
namespace Go.Gv
set_option linter.unusedSimpArgs false
set_option linter.unusedVariables false

theorem right_false_use {m : BM} {i : Nat} (h : i < 2) (hu : useAt m.u i = false) : rightM m = false := by
  rw [rightM, fit_none (i := i) (by omega) (by unfold fitAt; rw [decide_eq_true h, hu]; rfl), Bool.and_false]
theorem right_false_far {m : BM} {i : Nat} (h : m.p ≤ (i : Int)) (hi : i < 512) (hu : useAt m.u i = true) : rightM m = false := by
  rw [rightM, fit_none (i := i) hi (by unfold fitAt; rw [decide_eq_true h, hu]; simp), Bool.and_false]
theorem right_true {m : BM} (h1 : 8 ≤ m.p) (h2 : m.p ≤ 512) (h3 : useAt m.u 0 = true) (h4 : useAt m.u 1 = true) (h5 : ∀ i, m.p.toNat ≤ i → i < 512 → useAt m.u i = false) : rightM m = true := by
  rw [rightM, decide_eq_true h1, decide_eq_true h2, fit_all (fun j hj => ?_)]
  · rfl
  · unfold fitAt
    by_cases a : j < 2
    · have : useAt m.u j = true := by
        have : j = 0 ∨ j = 1 := by omega
        rcases this with rfl | rfl
        · exact h3
        · exact h4
      rw [this, decide_eq_false (show ¬ m.p ≤ (j : Int) by omega)]; simp
    · rw [decide_eq_false a]
      by_cases b : m.p ≤ (j : Int)
      · rw [h5 j (by omega) hj]; simp
      · rw [decide_eq_false b]; simp
end Go.Gv
