/- A map's bytes, got again. -/
import Derived.Test.YtnekhjiigijpjaaBmGet
import Derived.Test.YtnekhjiigijpjaaCrcBurstPlain
namespace Go.Gv
set_option linter.unusedSimpArgs false
set_option linter.unusedVariables false

theorem bit8_all : ∀ n : Fin 256, ∀ j : Fin 8, bit8 (UInt8.ofNat n.1) j.1 = (UInt8.ofNat n.1).toBitVec.getLsbD j.1 := by decide +kernel
theorem bit8_eq (x : UInt8) (j : Nat) (hj : j < 8) : bit8 x j = x.toBitVec.getLsbD j := by
  have := bit8_all ⟨x.toNat, x.toNat_lt⟩ ⟨j, hj⟩
  simpa using this
theorem orBit_get (l : List UInt8) (i q : Nat) (hi : 2 + i / 8 < l.length) : ((orBit l i).getD (2 + q / 8) 0).toBitVec.getLsbD (q % 8) = ((l.getD (2 + q / 8) 0).toBitVec.getLsbD (q % 8) || decide (q = i)) := by
  unfold orBit
  rw [List.getD_eq_getElem?_getD, List.getElem?_set]
  by_cases h : i / 8 = q / 8
  · rw [if_pos (by omega), if_pos (by omega), Option.getD_some, UInt8.toBitVec_or, BitVec.getLsbD_or, one_shl _ _ (by omega), h]
    congr 1
    apply decide_eq_decide.2
    omega
  · rw [if_neg (by omega), ← List.getD_eq_getElem?_getD, decide_eq_false (show ¬ q = i by intro e; exact h (by rw [e])), Bool.or_false]
theorem putTo_get {m : BM} (hr : rightM m = true) (q : Nat) : ∀ k, k ≤ 512 → ((putTo m k).getD (2 + q / 8) 0).toBitVec.getLsbD (q % 8) = (decide (q < k) && useAt m.u q)
  | 0, _ => by
    have e : (headB m.p.toNat).getD (2 + q / 8) 0 = 0 := by
      rw [headB, List.getD_eq_getElem?_getD, List.getElem?_append_right (by simp), List.getElem?_replicate]
      split <;> rfl
    rw [putTo, e, decide_eq_false (by omega), Bool.false_and]
    simp
  | k + 1, hk => by
    have ih := putTo_get hr q k (by omega)
    rw [putTo]
    by_cases e : q = k
    · subst e
      rw [decide_eq_false (by omega), Bool.false_and] at ih
      rw [decide_eq_true (by omega), Bool.true_and]
      cases hu : useAt m.u q with
      | true =>
        have := used_lt hr (by omega) hu
        rw [if_pos rfl, orBit_get _ _ _ (by rw [putTo_length]; omega), ih]; simp
      | false => rw [if_neg (by simp), ih]
    · have d : decide (q < k + 1) = decide (q < k) := decide_eq_decide.2 (by omega)
      rw [d, ← ih]
      cases hu : useAt m.u k with
      | true =>
        have := used_lt hr (by omega) hu
        rw [if_pos rfl, orBit_get _ _ _ (by rw [putTo_length]; omega), decide_eq_false e, Bool.or_false]
      | false => rw [if_neg (by simp)]
theorem putTo_head (m : BM) (j : Nat) (hj : j < 2) : ∀ k, (putTo m k).getD j 0 = (headB m.p.toNat).getD j 0
  | 0 => rfl
  | k + 1 => by
    rw [putTo]; split
    · rw [orBit, List.getD_eq_getElem?_getD, List.getElem?_set, if_neg (by omega), ← List.getD_eq_getElem?_getD]
      exact putTo_head m j hj k
    · exact putTo_head m j hj k
theorem got_back {m : BM} (hm : m.u.length = 512) (hr : rightM m = true) : getM (putM m) = (m, 0) := by
  have hs := rightM_spec hr
  have hpm : putM m = putTo m 512 := by rw [putM, if_pos hr]
  have hl : (putM m).length = 2 + (m.p.toNat + 7) / 8 := by rw [hpm, putTo_length]
  have hp : pagesOf (putM m) = m.p.toNat := by
    rw [pagesOf, hpm, putTo_head m 0 (by omega), putTo_head m 1 (by omega)]
    show (UInt8.ofNat (m.p.toNat / 256)).toNat * 256 + (UInt8.ofNat m.p.toNat).toNat = _
    simp; omega
  have hg : gotM (putM m) = m := by
    have hu : gotTo (putM m) 512 = m.u := by
      apply List.ext_getElem?
      intro i
      by_cases hi : i < 512
      · rw [gotTo, Nat.sub_self, List.replicate_zero, List.append_nil, List.getElem?_map, List.getElem?_range hi, Option.map_some]
        have e1 : m.u[i]? = some (useAt m.u i) := by simp [useAt, hm, hi]
        rw [e1]
        congr 1
        rw [gotAt, hp]
        by_cases h1 : i < m.p.toNat
        · rw [decide_eq_true h1, decide_eq_true (by omega), Bool.and_self, if_pos rfl, bit8_eq _ _ (by omega), hpm, putTo_get hr i 512 (Nat.le_refl _), decide_eq_true hi, Bool.true_and]
        · rw [decide_eq_false h1, Bool.false_and, if_neg (by simp)]
          cases hq : useAt m.u i
          · rfl
          · have := used_lt hr hi hq; omega
      · rw [List.getElem?_eq_none (by rw [gotTo_length _ _ (Nat.le_refl _)]; omega), List.getElem?_eq_none (by omega)]
    rw [gotM, hu, hp, show ((m.p.toNat : Nat) : Int) = m.p by omega]
  rw [getM, if_neg (by omega), if_pos (by rw [hg]; exact ⟨hr, rfl⟩), hg]
end Go.Gv
