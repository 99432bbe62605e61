/- bitmap, one page at a time: plain laws. -/
import Derived.Test.YtnekhjiigijpjaaBmPlain2
namespace Go.Gv
set_option linter.unusedSimpArgs false
set_option linter.unusedVariables false

theorem useAt_new (k : Int) (j : Nat) : useAt (newM k).u j = decide (j < 2) := by
  unfold useAt
  show ([true, true] ++ List.replicate 510 false).getD j false = _
  rw [List.getD_eq_getElem?_getD, List.getElem?_append]
  split
  · rename_i h
    have : j = 0 ∨ j = 1 := by simp at h; omega
    rcases this with rfl | rfl <;> rfl
  · rename_i h
    simp at h
    rw [decide_eq_false (show ¬ j < 2 by omega), List.getElem?_replicate]
    split <;> rfl
theorem newM_p (k : Nat) (h : 8 ≤ k ∧ k ≤ 512) : (newM (k : Int)).p = (k : Int) := by
  show min (max (k : Int) 8) 512 = _
  omega
theorem free_new (k : Nat) (h : 8 ≤ k ∧ k ≤ 512) : ∀ K, freeTo (newM (k : Int)) K = min K k - 2
  | 0 => by simp [freeTo]
  | K + 1 => by
    rw [freeTo, free_new k h K, newM_p k h, useAt_new]
    by_cases h1 : K < k
    · by_cases h2 : K < 2
      · rw [decide_eq_true h2, if_neg (by simp)]; omega
      · rw [decide_eq_false h2, decide_eq_true (show (K : Int) < k by omega), if_pos (by simp)]; omega
    · rw [decide_eq_false (show ¬ (K : Int) < k by omega), if_neg (by simp)]; omega
theorem freeTo_far (p : Int) (u : List Bool) (j : Nat) (b : Bool) (hj : j < u.length) : ∀ K, K ≤ j → freeTo ⟨p, u.set j b⟩ K = freeTo ⟨p, u⟩ K
  | 0, _ => rfl
  | K + 1, h => by
    rw [freeTo, freeTo, freeTo_far p u j b hj K (by omega)]
    simp only [useAt_set u j K b hj, if_neg (show ¬ K = j by omega)]
theorem freeTo_take (p : Int) (u : List Bool) (j : Nat) (hj : j < u.length) (hp : (j : Int) < p) (hu : useAt u j = false) : ∀ K, j < K → freeTo ⟨p, u.set j true⟩ K + 1 = freeTo ⟨p, u⟩ K
  | 0, h => by omega
  | K + 1, h => by
    rw [freeTo, freeTo]
    by_cases e : K = j
    · subst e
      rw [freeTo_far p u K true hj K (Nat.le_refl _)]
      simp only [useAt_set u K K true hj, if_true, hu, decide_eq_true hp]
      simp
    · have ih := freeTo_take p u j hj hp hu K (by omega)
      simp only [useAt_set u j K true hj, if_neg e]
      omega
theorem freeTo_give (p : Int) (u : List Bool) (j : Nat) (hj : j < u.length) (hp : (j : Int) < p) (hu : useAt u j = true) : ∀ K, j < K → freeTo ⟨p, u.set j false⟩ K = freeTo ⟨p, u⟩ K + 1
  | 0, h => by omega
  | K + 1, h => by
    rw [freeTo, freeTo]
    by_cases e : K = j
    · subst e
      rw [freeTo_far p u K false hj K (Nat.le_refl _)]
      simp only [useAt_set u K K false hj, if_true, hu, decide_eq_true hp]
      simp
    · have ih := freeTo_give p u j hj hp hu K (by omega)
      simp only [useAt_set u j K false hj, if_neg e]
      omega

structure Inv (k : Nat) (m : BM) (had : List Nat) : Prop where
  len : m.u.length = 512
  p : m.p = (k : Int)
  use : ∀ j, useAt m.u j = true ↔ (j < 2 ∨ j ∈ had)
  rng : ∀ a ∈ had, 2 ≤ a ∧ a < k
  nodup : had.Nodup
  free : freeM m + 2 + had.length = k

theorem Inv.new (k : Nat) (h : 8 ≤ k ∧ k ≤ 512) : Inv k (newM k) [] :=
  ⟨newM_length _, newM_p k h, fun j => by rw [useAt_new]; simp, fun a ha => by simp at ha, List.nodup_nil, by
    show freeTo _ 512 + 2 + 0 = k
    rw [free_new k h]; omega⟩

theorem right_of {m : BM} (k : Nat) (h : 8 ≤ k ∧ k ≤ 512) (hp : m.p = (k : Int)) (h0 : ∀ j, j < 2 → useAt m.u j = true) (h1 : ∀ j, k ≤ j → useAt m.u j = false) : rightM m = true := by
  have hf : (List.range 512).all (fitAt m) = true := fit_all (fun j _ => by
    unfold fitAt
    rw [hp]
    by_cases h2 : j < 2
    · rw [decide_eq_true h2, h0 j h2, decide_eq_false (show ¬ ((k : Int) ≤ (j : Int)) by omega)]; rfl
    · by_cases h3 : k ≤ j
      · rw [decide_eq_false h2, h1 j h3]; simp
      · rw [decide_eq_false h2, decide_eq_false (show ¬ ((k : Int) ≤ (j : Int)) by omega)]; simp)
  rw [rightM, hf, hp, decide_eq_true (show (8 : Int) ≤ k by omega), decide_eq_true (show (k : Int) ≤ 512 by omega)]; rfl
theorem Inv.right {k : Nat} {m : BM} {had : List Nat} (i : Inv k m had) (h : 8 ≤ k ∧ k ≤ 512) : rightM m = true :=
  right_of k h i.p (fun j hj => (i.use j).2 (.inl hj)) (fun j hj => by
    cases hu : useAt m.u j
    · rfl
    · rcases (i.use j).1 hu with h2 | h2
      · omega
      · have := i.rng j h2; omega)
theorem new_right (k : Nat) (h : 8 ≤ k ∧ k ≤ 512) : rightM (newM k) = true := (Inv.new k h).right h

theorem Inv.give {k : Nat} {m : BM} {A B : List Nat} {x : Nat} (i : Inv k m (A ++ x :: B)) (h : 8 ≤ k ∧ k ≤ 512) :
    giveM m x 1 = (⟨m.p, m.u.set x false⟩, 0) ∧ Inv k ⟨m.p, m.u.set x false⟩ (A ++ B) := by
  have hx := i.rng x (by simp)
  have hxl : x < m.u.length := by rw [i.len]; omega
  have hux : useAt m.u x = true := (i.use x).2 (.inr (by simp))
  have hnd := i.nodup
  rw [List.nodup_append] at hnd
  obtain ⟨n1, n2, n3⟩ := hnd
  rw [List.nodup_cons] at n2
  constructor
  · have h1 : (!rightM m) = false := by rw [i.right h]; rfl
    have h6 : allUsed m (x : Int).toNat (1 : Int).toNat = true := List.all_eq_true.2 (fun j hj => by
      have : j = 0 := by simp at hj; omega
      subst this; simpa using hux)
    have hp := i.p
    rw [giveM, h1, h6, decide_eq_false (show ¬ (1 : Int) < 0 by omega), decide_eq_false (show ¬ (x : Int) < 2 by omega), decide_eq_false (show ¬ m.p < (x : Int) by omega), decide_eq_false (show ¬ m.p - (x : Int) < 1 by omega)]
    rfl
  · refine ⟨by simp [i.len], i.p, fun j => ?_, fun a ha => i.rng a (by simp at ha ⊢; rcases ha with h | h <;> simp [h]), ?_, ?_⟩
    · simp only [useAt_set _ _ _ _ hxl]
      by_cases e : j = x
      · subst e
        rw [if_pos rfl]
        constructor
        · intro h; cases h
        · rintro (h | h)
          · omega
          · simp at h
            rcases h with h | h
            · exact absurd rfl (n3 j h j (by simp))
            · exact absurd h n2.1
      · rw [if_neg e, i.use]
        simp [e]
    · rw [List.nodup_append]
      exact ⟨n1, n2.2, fun a ha b hb => n3 a ha b (by simp [hb])⟩
    · have := freeTo_give m.p m.u x hxl (by rw [i.p]; omega) hux 512 (by omega)
      have hf := i.free
      simp only [List.length_append, List.length_cons] at hf ⊢
      show freeTo _ 512 + 2 + _ = k
      rw [this]
      have : freeM m = freeTo ⟨m.p, m.u⟩ 512 := rfl
      omega

theorem both_new {k : Nat} {m : BM} {had : List Nat} (i : Inv k m had) (p : Nat) : bothAt m (newM k) p = useAt m.u p := by
  rw [bothAt, useAt_new]
  by_cases h : p < 2
  · rw [(i.use p).2 (.inl h)]; rfl
  · rw [decide_eq_false h, Bool.or_false]
theorem run_all (m o : BM) : ∀ i, (∀ p, p < i → bothAt m o p = true) → runTo m o i = 0
  | 0, _ => rfl
  | i + 1, h => by rw [runTo, h i (by omega), if_pos rfl]
theorem seek_none (m o : BM) : ∀ f i, (∀ p, p < i + f → bothAt m o p = true) → seek m o 1 f i = none
  | 0, _, _ => rfl
  | f + 1, i, h => by
    rw [seek, run_all m o (i + 1) (fun p hp => h p (by omega)), if_neg (by omega)]
    exact seek_none m o f (i + 1) (fun p hp => h p (by omega))
theorem seek_some (m o : BM) (t : Nat) (ht : bothAt m o t = false) (hb : ∀ p, p < t → bothAt m o p = true) : ∀ f i, i ≤ t → t < i + f → seek m o 1 f i = some t
  | 0, _, _, h => by omega
  | f + 1, i, h1, h2 => by
    by_cases e : i = t
    · subst e
      have hr : runTo m o (i + 1) = 1 := by rw [runTo, ht, if_neg (by simp), run_all m o i hb]
      rw [seek, hr, if_pos (show ((1 : Nat) : Int) = 1 from rfl)]
      rfl
    · rw [seek, run_all m o (i + 1) (fun p hp => hb p (by omega)), if_neg (by omega)]
      exact seek_some m o t ht hb f (i + 1) (by omega) (by omega)
theorem Inv.alike {k : Nat} {m : BM} {had : List Nat} (i : Inv k m had) (h : 8 ≤ k ∧ k ≤ 512) : alikeM m (newM k) = true := by
  rw [alikeM, i.right h, new_right k h, i.p, newM_p k h]; simp
theorem Inv.full {k : Nat} {m : BM} {had : List Nat} (i : Inv k m had) (h : 8 ≤ k ∧ k ≤ 512) (hu : ∀ p, 2 ≤ p → p < k → useAt m.u p = true) : takeM m (newM k) 1 = (zeroM, 0, 5) := by
  have hs : seek m (newM k) 1 m.p.toNat 0 = none := seek_none _ _ _ _ (fun p hp => by
    rw [both_new i]
    by_cases h2 : p < 2
    · exact (i.use p).2 (.inl h2)
    · exact hu p (by omega) (by have := i.p; omega))
  have h1 : (!alikeM m (newM k)) = false := by rw [i.alike h]; rfl
  rw [takeM, h1, hs]; rfl
theorem Inv.take {k : Nat} {m : BM} {had : List Nat} (i : Inv k m had) (h : 8 ≤ k ∧ k ≤ 512) (t : Nat) (ht : 2 ≤ t ∧ t < k) (hf : useAt m.u t = false) (hu : ∀ p, 2 ≤ p → p < t → useAt m.u p = true) :
    takeM m (newM k) 1 = (⟨m.p, m.u.set t true⟩, (t : Int), 0) ∧ Inv k ⟨m.p, m.u.set t true⟩ (had ++ [t]) := by
  have htl : t < m.u.length := by rw [i.len]; omega
  have hp := i.p
  constructor
  · have hs : seek m (newM k) 1 m.p.toNat 0 = some t := seek_some _ _ t (by rw [both_new i]; exact hf) (fun p hp => by
      rw [both_new i]
      by_cases h2 : p < 2
      · exact (i.use p).2 (.inl h2)
      · exact hu p (by omega) hp) _ _ (Nat.zero_le _) (by omega)
    have h1 : (!alikeM m (newM k)) = false := by rw [i.alike h]; rfl
    rw [takeM, h1, hs]; rfl
  · have hnot : t ∉ had := fun hm => by
      have := (i.use t).2 (.inr hm)
      rw [this] at hf; cases hf
    refine ⟨by simp [i.len], i.p, fun j => ?_, fun a ha => ?_, ?_, ?_⟩
    · simp only [useAt_set _ _ _ _ htl]
      by_cases e : j = t
      · subst e; simp
      · rw [if_neg e, i.use]; simp [e]
    · simp at ha
      rcases ha with ha | rfl
      · exact i.rng a ha
      · exact ht
    · rw [List.nodup_append]
      exact ⟨i.nodup, by simp, fun a ha b hb => by simp at hb; subst hb; intro e; subst e; exact hnot ha⟩
    · have := freeTo_take m.p m.u t htl (by rw [i.p]; omega) hf 512 (by omega)
      have hfr := i.free
      simp only [List.length_append, List.length_cons, List.length_nil]
      show freeTo _ 512 + 2 + _ = k
      have : freeM m = freeTo ⟨m.p, m.u⟩ 512 := rfl
      omega

/-- the first free page, sought from the top -/
def downTo (u : List Bool) (k : Nat) : Nat → Int
  | 0 => -1
  | j + 1 => if useAt u (k - 1 - j) then downTo u k j else ((k - 1 - j : Nat) : Int)
theorem downTo_spec (u : List Bool) (k : Nat) : ∀ j, j ≤ k → (downTo u k j = -1 ∧ ∀ p, k - j ≤ p → p < k → useAt u p = true) ∨ (∃ t : Nat, downTo u k j = (t : Int) ∧ k - j ≤ t ∧ t < k ∧ useAt u t = false ∧ ∀ p, k - j ≤ p → p < t → useAt u p = true)
  | 0, _ => .inl ⟨rfl, fun p h1 h2 => by omega⟩
  | j + 1, h => by
    have ih := downTo_spec u k j (by omega)
    rw [downTo]
    cases hu : useAt u (k - 1 - j) with
    | true =>
      simp only [if_true]
      rcases ih with ⟨h1, h2⟩ | ⟨t, h1, h2, h3, h4, h5⟩
      · exact .inl ⟨h1, fun p q1 q2 => if e : p = k - 1 - j then e ▸ hu else h2 p (by omega) q2⟩
      · exact .inr ⟨t, h1, by omega, h3, h4, fun p q1 q2 => if e : p = k - 1 - j then e ▸ hu else h5 p (by omega) q2⟩
    | false => exact .inr ⟨k - 1 - j, by simp, by omega, by omega, hu, fun p q1 q2 => by omega⟩
end Go.Gv
