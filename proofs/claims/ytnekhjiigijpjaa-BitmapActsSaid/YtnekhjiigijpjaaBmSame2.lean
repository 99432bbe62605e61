/- The reference's Run is the other one. -/
import Derived.Test.YtnekhjiigijpjaaBmSame
namespace Go.Gv
set_option linter.unusedSimpArgs false
set_option linter.unusedVariables false

theorem side_less {m o : BM} {a n k : Nat} (h : sideM m o a n = true) (hk : k ≤ n) : sideM m o a k = true :=
  side_yes (fun j hj => List.all_eq_true.1 h j (List.mem_range.2 (by omega)))
theorem grow_up (m o : BM) (a : Nat) : ∀ f b, b ≤ growM m o a f b
  | 0, b => Nat.le_refl _
  | f + 1, b => by
    rw [growM]; split
    · have := grow_up m o a f (b + 1); omega
    · exact Nat.le_refl _
theorem grow_side (m o : BM) (a : Nat) : ∀ f b, growM m o a f b = b ∨ sideM m o a (growM m o a f b) = true
  | 0, b => .inl rfl
  | f + 1, b => by
    rw [growM]; split
    · rename_i h
      rcases grow_side m o a f (b + 1) with e | e
      · rw [e]; exact .inr h
      · exact .inr e
    · exact .inl rfl
theorem grow_ge {m o : BM} {a r : Nat} (h : sideM m o a r = true) : ∀ f b, r ≤ b + f → r ≤ growM m o a f b
  | 0, b, hf => by rw [growM]; omega
  | f + 1, b, hf => by
    by_cases hb : r ≤ b
    · exact Nat.le_trans hb (grow_up m o a (f + 1) b)
    · rw [growM, side_less h (by omega), if_pos rfl]
      exact grow_ge h f (b + 1) (by omega)
theorem best_up (m o : BM) : ∀ a b, a ≤ b → refBest m o a ≤ refBest m o b
  | a, 0, h => by rw [Nat.le_zero.1 h]; exact Nat.le_refl _
  | a, b + 1, h => by
    by_cases e : a = b + 1
    · rw [e]; exact Nat.le_refl _
    · exact Nat.le_trans (best_up m o a b (by omega)) (by rw [refBest]; exact grow_up ..)
theorem best_ge (m o : BM) : ∀ K k, k ≤ K → runTo m o k ≤ bestTo m o K
  | 0, k, h => by rw [Nat.le_zero.1 h]; exact Nat.le_refl _
  | K + 1, k, h => by
    rw [bestTo]
    by_cases e : k = K + 1
    · rw [e]; omega
    · have := best_ge m o K k (by omega); omega
theorem best_le {m o : BM} {B : Nat} : ∀ K, (∀ k, k ≤ K → runTo m o k ≤ B) → bestTo m o K ≤ B
  | 0, _ => Nat.zero_le _
  | K + 1, h => by
    have h1 := best_le (m := m) (o := o) (B := B) K (fun k hk => h k (by omega))
    have h2 := h (K + 1) (Nat.le_refl _)
    rw [bestTo]; omega
theorem refBest_best {m o : BM} : ∀ a, refBest m o a ≤ bestTo m o m.p.toNat
  | 0 => Nat.zero_le _
  | a + 1 => by
    have ih := refBest_best (m := m) (o := o) a
    rw [refBest]
    rcases grow_side m o a (m.p.toNat - refBest m o a) (refBest m o a) with e | e
    · rw [e]; exact ih
    · generalize growM m o a (m.p.toNat - refBest m o a) (refBest m o a) = g at e
      rcases Nat.eq_zero_or_pos g with h0 | hg
      · omega
      · have h1 := side_in e hg
        exact Nat.le_trans (side_run e) (best_ge m o _ _ (by omega))
theorem refRun_eq (m o : BM) : refRun m o = runM m o := by
  unfold refRun runM
  cases hal : alikeM m o with
  | false => rfl
  | true =>
    simp only [if_true]
    have hr := rightM_spec (alikeM_spec hal).1
    refine Nat.le_antisymm (refBest_best _) (best_le _ (fun k hk => ?_))
    rcases Nat.eq_zero_or_pos (runTo m o k) with h0 | hpos
    · omega
    · have hle := runTo_le m o k
      have hs := run_side (m := m) (o := o) (k := k) (n := runTo m o k) hle (by omega) (Nat.le_refl _)
      have h1 : runTo m o k ≤ refBest m o (k - runTo m o k + 1) := by
        have hb := refBest_le m o (k - runTo m o k)
        rw [refBest]
        exact grow_ge hs _ _ (by omega)
      exact Nat.le_trans h1 (best_up m o _ _ (by omega))
end Go.Gv
