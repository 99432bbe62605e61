/- What is taken and given back leaves maps that may be. -/
import Derived.Test.YtnekhjiigijpjaaBmSame2
namespace Go.Gv
set_option linter.unusedSimpArgs false
set_option linter.unusedVariables false

theorem seek_in (m o : BM) (n : Nat) : ∀ f k t, seek m o (n : Int) f k = some t → t + n ≤ k + f
  | 0, _, _, h => by simp [seek] at h
  | f + 1, k, t, h => by
    rw [seek] at h
    split at h
    · rename_i e
      have hle := runTo_le m o (k + 1)
      simp at h
      omega
    · have := seek_in m o n f (k + 1) t h; omega
theorem right_used {m : BM} (h : rightM m = true) (j : Nat) (hj : j < 2) : useAt m.u j = true := by
  cases hu : useAt m.u j
  · rw [right_false_use hj hu] at h; cases h
  · rfl
theorem right_far {m : BM} (h : rightM m = true) (j : Nat) (h1 : m.p.toNat ≤ j) (h2 : j < 512) : useAt m.u j = false := by
  have hr := rightM_spec h
  cases hu : useAt m.u j
  · rfl
  · rw [right_false_far (m := m) (i := j) (by omega) h2 hu] at h; cases h
theorem set_right {m : BM} (hm : m.u.length = 512) (h : rightM m = true) (b : Bool) (a n : Nat) (ha : b = true ∨ 2 ≤ a) (hn : a + n ≤ m.p.toNat) : rightM ⟨m.p, setFrom m.u b a n⟩ = true := by
  have hr := rightM_spec h
  have hs : ∀ j, useAt (setFrom m.u b a n) j = if a ≤ j ∧ j < a + n then b else useAt m.u j := fun j => useAt_setFrom _ _ _ _ _ (by omega)
  refine right_true hr.1 hr.2.1 ?_ ?_ (fun i h1 h2 => ?_)
  · show useAt (setFrom m.u b a n) 0 = true
    rw [hs]; split
    · rcases ha with e | e
      · exact e
      · omega
    · exact right_used h 0 (by omega)
  · show useAt (setFrom m.u b a n) 1 = true
    rw [hs]; split
    · rcases ha with e | e
      · exact e
      · omega
    · exact right_used h 1 (by omega)
  · show useAt (setFrom m.u b a n) i = false
    have h1' : m.p.toNat ≤ i := h1
    rw [hs, if_neg (by omega)]
    exact right_far h i h1' h2
theorem take_keep {m o : BM} {n : Int} (hm : m.u.length = 512) (h : (takeM m o n).2.2 = 0) : rightM (takeM m o n).1 = true ∧ (takeM m o n).1.p = m.p := by
  unfold takeM at *
  split at h
  · cases h
  · rename_i hc
    rw [if_neg hc]
    simp only [Bool.or_eq_true, Bool.not_eq_true', decide_eq_true_eq, not_or, Bool.not_eq_false] at hc
    have hal := alikeM_spec hc.1
    have hr := rightM_spec hal.1
    cases hs : seek m o n m.p.toNat 0 with
    | none => simp [hs] at h
    | some t =>
      obtain ⟨N, hN⟩ : ∃ N : Nat, (N : Int) = n := ⟨n.toNat, by omega⟩
      subst hN
      have hin := seek_in m o N _ _ _ hs
      exact ⟨set_right hm hal.1 true t _ (.inl rfl) (by simpa using hin), rfl⟩
theorem give_keep {m : BM} {a n : Int} (hm : m.u.length = 512) (h : (giveM m a n).2 = 0) : rightM (giveM m a n).1 = true ∧ (giveM m a n).1.p = m.p := by
  unfold giveM at *
  split at h
  · cases h
  · rename_i hc
    rw [if_neg hc]
    simp only [Bool.or_eq_true, Bool.not_eq_true', decide_eq_true_eq, not_or, Bool.not_eq_false] at hc
    split at h
    · rename_i hu
      rw [if_pos hu]
      exact ⟨set_right hm hc.1.1.1.1 false _ _ (.inr (by omega)) (by omega), rfl⟩
    · cases h
/-- the law's own count -/
theorem free_count {m : BM} (h : rightM m = true) : ∀ K, m.p.toNat ≤ K → freeTo m K = freeTo m m.p.toNat
  | 0, hK => by rw [Nat.le_zero.1 hK]
  | K + 1, hK => by
    have hr := rightM_spec h
    by_cases e : m.p.toNat = K + 1
    · rw [e]
    · rw [freeTo, free_count h K (by omega), decide_eq_false (by omega), Bool.false_and, if_neg (by simp), Nat.add_zero]
end Go.Gv
