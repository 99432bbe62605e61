/- Maps of pages: plain laws. -/
import Derived.Test.YtnekhjiigijpjaaBmPlain
namespace Go.Gv

theorem freeTo_le (m : BM) : ∀ k, freeTo m k ≤ k
  | 0 => Nat.le_refl _
  | k + 1 => by
    have := freeTo_le m k
    rw [freeTo]; split <;> omega
theorem runTo_le (m o : BM) : ∀ k, runTo m o k ≤ k
  | 0 => Nat.le_refl _
  | k + 1 => by
    have := runTo_le m o k
    rw [runTo]; split <;> omega
theorem bestTo_le (m o : BM) : ∀ k, bestTo m o k ≤ k
  | 0 => Nat.le_refl _
  | k + 1 => by
    have := bestTo_le m o k
    have := runTo_le m o (k + 1)
    rw [bestTo]; omega
theorem rightM_spec {m : BM} (h : rightM m = true) : 8 ≤ m.p ∧ m.p ≤ 512 ∧ ∀ j, j < 512 → fitAt m j = true := by
  simp only [rightM, Bool.and_eq_true, decide_eq_true_eq] at h
  exact ⟨h.1.1, h.1.2, fun j hj => List.all_eq_true.1 h.2 j (List.mem_range.2 hj)⟩
theorem alikeM_spec {m o : BM} (h : alikeM m o = true) : rightM m = true ∧ rightM o = true ∧ m.p = o.p := by
  simp only [alikeM, Bool.and_eq_true, decide_eq_true_eq] at h
  exact ⟨h.1.1, h.1.2, h.2⟩
theorem useAt_set (u : List Bool) (i j : Nat) (b : Bool) (hi : i < u.length) : useAt (u.set i b) j = if j = i then b else useAt u j := by
  unfold useAt
  rw [List.getD_eq_getElem?_getD, List.getElem?_set]
  by_cases h : i = j
  · subst h; simp [hi]
  · rw [if_neg h, if_neg (Ne.symm h), ← List.getD_eq_getElem?_getD]
theorem useAt_setFrom (u : List Bool) (b : Bool) (a j : Nat) : ∀ k, a + k ≤ u.length → useAt (setFrom u b a k) j = if a ≤ j ∧ j < a + k then b else useAt u j
  | 0, _ => by rw [setFrom, if_neg (by omega)]
  | k + 1, h => by
    rw [setFrom, useAt_set _ _ _ _ (by rw [setFrom_length]; omega), useAt_setFrom u b a j k (by omega)]
    by_cases h1 : j = a + k
    · rw [if_pos h1, if_pos (by omega)]
    · rw [if_neg h1]
      by_cases h2 : a ≤ j ∧ j < a + k
      · rw [if_pos h2, if_pos (by omega)]
      · rw [if_neg h2, if_neg (by omega)]
theorem newM_length (p : Int) : (newM p).u.length = 512 := by
  show ([true, true] ++ List.replicate 510 false).length = 512
  rw [List.length_append, List.length_replicate]; rfl
theorem zeroM_length : zeroM.u.length = 512 := List.length_replicate
theorem takeM_length (m o : BM) (n : Int) (h : m.u.length = 512) : (takeM m o n).1.u.length = 512 := by
  unfold takeM
  split
  · exact zeroM_length
  · split
    · simp only [setFrom_length]; exact h
    · exact zeroM_length
theorem giveM_length (m : BM) (a n : Int) (h : m.u.length = 512) : (giveM m a n).1.u.length = 512 := by
  unfold giveM
  split
  · exact zeroM_length
  · split
    · simp only [setFrom_length]; exact h
    · exact zeroM_length
theorem take6 : takeM (newM 8) (newM 8) 6 = (⟨8, setFrom (newM 8).u true 2 6⟩, 2, 0) := by
  have h1 : alikeM (newM 8) (newM 8) = true := by decide +kernel
  have h2 : seek (newM 8) (newM 8) 6 (newM 8).p.toNat 0 = some 2 := by decide +kernel
  rw [takeM, h1, h2]; rfl
theorem take1 : takeM ⟨8, setFrom (newM 8).u true 2 6⟩ ⟨8, setFrom (newM 8).u true 2 6⟩ 1 = (zeroM, 0, 5) := by
  have h1 : alikeM ⟨8, setFrom (newM 8).u true 2 6⟩ ⟨8, setFrom (newM 8).u true 2 6⟩ = true := by decide +kernel
  have h2 : seek ⟨8, setFrom (newM 8).u true 2 6⟩ ⟨8, setFrom (newM 8).u true 2 6⟩ 1 (8 : Int).toNat 0 = none := by decide +kernel
  rw [takeM, h1, h2]; rfl

theorem free8 : freeM (newM 8) = 6 := by decide +kernel
theorem freeT : freeM ⟨8, setFrom (newM 8).u true 2 6⟩ = 0 := by decide +kernel
theorem run8 : runM (newM 8) (newM 8) = 6 := by decide +kernel
end Go.Gv
