/- The reference's Take is the other one. -/
import Derived.Test.YtnekhjiigijpjaaBmRun2
namespace Go.Gv
set_option linter.unusedSimpArgs false
set_option linter.unusedVariables false

theorem run_free (m o : BM) : ∀ k j, j < runTo m o k → bothAt m o (k - 1 - j) = false
  | 0, j, h => by simp [runTo] at h
  | k + 1, j, h => by
    rw [runTo] at h
    cases hb : bothAt m o k with
    | true => rw [hb, if_pos rfl] at h; omega
    | false =>
      rw [hb, if_neg (by simp)] at h
      cases j with
      | zero => exact hb
      | succ j =>
        have := run_free m o k j (by omega)
        rw [show k + 1 - 1 - (j + 1) = k - 1 - j by omega]; exact this
theorem run_ge (m o : BM) : ∀ k n, n ≤ k → (∀ j, j < n → bothAt m o (k - 1 - j) = false) → n ≤ runTo m o k
  | 0, n, h, _ => by omega
  | k + 1, 0, _, _ => Nat.zero_le _
  | k + 1, n + 1, h, hf => by
    have h0 : bothAt m o k = false := hf 0 (by omega)
    have := run_ge m o k n (by omega) (fun j hj => by have := hf (j + 1) (by omega); rwa [show k + 1 - 1 - (j + 1) = k - 1 - j by omega] at this)
    rw [runTo, h0, if_neg (by simp)]; omega
theorem run_cross (m o : BM) (n : Nat) (hn : 0 < n) : ∀ K, n ≤ runTo m o K → ∃ i, i < K ∧ runTo m o (i + 1) = n
  | 0, h => by simp [runTo] at h; omega
  | K + 1, h => by
    by_cases e : runTo m o (K + 1) = n
    · exact ⟨K, by omega, e⟩
    · have : n ≤ runTo m o K := by
        rw [runTo] at h e
        split at h
        · omega
        · rename_i hb; rw [if_neg hb] at e; omega
      obtain ⟨i, h1, h2⟩ := run_cross m o n hn K this
      exact ⟨i, by omega, h2⟩
theorem side_run {m o : BM} {a n : Nat} (h : sideM m o a n = true) : n ≤ runTo m o (a + n) :=
  run_ge m o (a + n) n (by omega) (fun j hj => by
    have := List.all_eq_true.1 h (n - 1 - j) (List.mem_range.2 (by omega))
    simp only [Bool.and_eq_true, Bool.not_eq_true'] at this
    rw [show a + n - 1 - j = a + (n - 1 - j) by omega]; exact this.2)
theorem run_side {m o : BM} {k n : Nat} (hn : n ≤ k) (hk : (k : Int) ≤ m.p) (h : n ≤ runTo m o k) : sideM m o (k - n) n = true :=
  side_yes (fun j hj => by
    have := run_free m o k (n - 1 - j) (by omega)
    rw [show k - n + j = k - 1 - (n - 1 - j) by omega, this, decide_eq_true (by omega)]; rfl)

theorem seek_at (m o : BM) (n : Nat) (t : Nat) (ht : runTo m o (t + 1) = n) (hb : ∀ i, i < t → runTo m o (i + 1) ≠ n) : ∀ f k, k ≤ t → t < k + f → seek m o (n : Int) f k = some (t + 1 - n)
  | 0, _, _, h => by omega
  | f + 1, k, h1, h2 => by
    by_cases e : k = t
    · subst e
      rw [seek, ht, if_pos rfl]; rfl
    · have := hb k (by omega)
      rw [seek, if_neg (by omega)]
      exact seek_at m o n t ht hb f (k + 1) (by omega) (by omega)
theorem seek_not (m o : BM) (n : Nat) : ∀ f k, (∀ i, i < k + f → runTo m o (i + 1) ≠ n) → seek m o (n : Int) f k = none
  | 0, _, _ => rfl
  | f + 1, k, h => by
    have := h k (by omega)
    rw [seek, if_neg (by omega)]
    exact seek_not m o n f (k + 1) (fun i hi => h i (by omega))
theorem rseek_at (m o : BM) (n a : Nat) (hn : (n : Int) ≤ m.p) (ha : sideM m o a n = true) (hb : ∀ i, i < a → sideM m o i n = false) : ∀ f k, k ≤ a → a < k + f → refSeek m o n f k = some a
  | 0, _, _, h => by omega
  | f + 1, k, h1, h2 => by
    by_cases e : k = a
    · subst e
      rw [refSeek, ha, decide_eq_true hn, Bool.and_self, if_pos rfl]
    · rw [refSeek, hb k (by omega), Bool.and_false, if_neg (by simp)]
      exact rseek_at m o n a hn ha hb f (k + 1) (by omega) (by omega)
theorem rseek_not (m o : BM) (n : Nat) (h : ∀ i, sideM m o i n = false) : ∀ f k, refSeek m o n f k = none
  | 0, _ => rfl
  | f + 1, k => by
    rw [refSeek, h k, Bool.and_false, if_neg (by simp)]
    exact rseek_not m o n h f (k + 1)
theorem least {p : Nat → Prop} [DecidablePred p] : ∀ n, (∃ t, t < n ∧ p t ∧ ∀ i, i < t → ¬ p i) ∨ ∀ i, i < n → ¬ p i
  | 0 => .inr (fun i hi => by omega)
  | n + 1 => by
    rcases least (p := p) n with ⟨t, h1, h2, h3⟩ | h
    · exact .inl ⟨t, by omega, h2, h3⟩
    · by_cases hp : p n
      · exact .inl ⟨n, by omega, hp, h⟩
      · exact .inr (fun i hi => if e : i = n then e ▸ hp else h i (by omega))
theorem refTake_eq (m o : BM) (n : Int) : refTake m o n = takeM m o n := by
  unfold refTake takeM
  cases hal : alikeM m o with
  | false => rfl
  | true =>
    by_cases hn : n < 1
    · rw [decide_eq_true hn]; rfl
    · rw [decide_eq_false hn]
      simp only [Bool.not_true, Bool.or_self, Bool.false_eq_true, if_false]
      have hs := alikeM_spec hal
      have hr := rightM_spec hs.1
      obtain ⟨N, hN⟩ : ∃ N : Nat, (N : Int) = n := ⟨n.toNat, by omega⟩
      have hNt : n.toNat = N := by omega
      have hN1 : 0 < N := by omega
      have used : ∀ j, j < 2 → bothAt m o j = true := fun j hj => by
        have := hr.2.2 j (by omega)
        unfold fitAt at this
        rw [decide_eq_true hj] at this
        cases hu : useAt m.u j
        · rw [hu] at this; simp at this
        · rw [bothAt, hu]; rfl
      have hseek : refSeek m o n.toNat (m.p.toNat - 2) 2 = seek m o n m.p.toNat 0 := by
        rw [hNt, ← hN]
        rcases least (p := fun i => runTo m o (i + 1) = N) m.p.toNat with ⟨t, h1, h2, h3⟩ | h
        · have hle := runTo_le m o (t + 1)
          have hside := run_side (m := m) (o := o) (k := t + 1) (n := N) (by omega) (by omega) (by omega)
          have ha2 : 2 ≤ t + 1 - N := by
            rcases Nat.lt_or_ge (t + 1 - N) 2 with hlt | hge
            · have hf := run_free m o (t + 1) (N - 1) (by omega)
              rw [show t + 1 - 1 - (N - 1) = t + 1 - N by omega, used _ hlt] at hf
              cases hf
            · exact hge
          rw [seek_at m o N t h2 h3 _ 0 (Nat.zero_le _) (by omega)]
          refine rseek_at m o N (t + 1 - N) (by omega) hside (fun i hi => ?_) _ 2 ha2 (by omega)
          cases hq : sideM m o i N
          · rfl
          · obtain ⟨q, q1, q2⟩ := run_cross m o N hN1 _ (side_run hq)
            exact absurd q2 (h3 q (by omega))
        · rw [seek_not m o N _ 0 (fun i hi => h i (by omega))]
          refine rseek_not m o N (fun i => ?_) _ 2
          cases hq : sideM m o i N
          · rfl
          · have hin := side_in hq hN1
            obtain ⟨q, q1, q2⟩ := run_cross m o N hN1 _ (side_run hq)
            exact absurd q2 (h q (by omega))
      rw [hseek]
      cases seek m o n m.p.toNat 0 <;> rfl
end Go.Gv
