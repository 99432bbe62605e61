import Derived.Test.YtckdlfbbkemklaaZNdWalk5
section
/- node: parts of lists that are held flat, in plain terms. -/
namespace Go.Proofs.Ytckdlfbbkemklaa
open Go Go.RowKit Go.Gv
set_option linter.unusedVariables false
set_option linter.unusedSimpArgs false

theorem flat_drop {α : Type} {f : α → List Value} {m : Nat} (hf : ∀ x, (f x).length = m) : ∀ (l : List α) (i : Nat), (l.flatMap f).drop (i * m) = (l.drop i).flatMap f
  | [], i => by simp
  | x :: l, 0 => by simp
  | x :: l, i + 1 => by
    have h := hf x
    rw [List.flatMap_cons, List.drop_succ_cons, ← flat_drop hf l i, Nat.add_mul, Nat.one_mul, Nat.add_comm, ← List.drop_drop, List.drop_left' h]
theorem flat_take {α : Type} {f : α → List Value} {m : Nat} (hf : ∀ x, (f x).length = m) : ∀ (l : List α) (i : Nat), (l.flatMap f).take (i * m) = (l.take i).flatMap f
  | [], i => by simp
  | x :: l, 0 => by simp
  | x :: l, i + 1 => by
    have h := hf x
    rw [List.flatMap_cons, List.take_succ_cons, List.flatMap_cons, ← flat_take hf l i, Nat.add_mul, Nat.one_mul, Nat.add_comm, List.take_append, h, List.take_of_length_le (by omega)]
    congr 2; omega
theorem flat_cut {α : Type} {f : α → List Value} {m : Nat} (hf : ∀ x, (f x).length = m) (l : List α) (lo hi : Nat) : ((l.flatMap f).drop (lo * m)).take ((hi - lo) * m) = ((l.drop lo).take (hi - lo)).flatMap f := by
  rw [flat_drop hf, flat_take hf]
theorem flat_len {α : Type} {f : α → List Value} {m : Nat} (hf : ∀ x, (f x).length = m) : ∀ l : List α, (l.flatMap f).length = l.length * m
  | [] => by simp
  | x :: l => by rw [List.flatMap_cons, List.length_append, hf x, flat_len hf l, List.length_cons, Nat.add_mul, Nat.one_mul, Nat.add_comm]
theorem flat_one {α : Type} {f : α → List Value} (hf : ∀ x, ∀ y ∈ f x, y.oneCell' = true) (l : List α) : ∀ y ∈ l.flatMap f, y.oneCell' = true := by
  intro y hy
  obtain ⟨x, _, hx⟩ := List.mem_flatMap.1 hy
  exact hf x y hx
theorem entL_len5 (e : ENT) : (entL e).length = 8 := rfl
theorem keyL_len5 (k : KEY) : (keyL k).length = 2 := rfl
theorem entL_one5 (e : ENT) : ∀ y ∈ entL e, y.oneCell' = true := by
  intro y hy
  simp only [entL, List.mem_cons, List.not_mem_nil, or_false] at hy
  rcases hy with rfl | rfl | rfl | rfl | rfl | rfl | rfl | rfl <;> rfl
theorem keyL_one5 (k : KEY) : ∀ y ∈ keyL k, y.oneCell' = true := by
  intro y hy
  simp only [keyL, List.mem_cons, List.not_mem_nil, or_false] at hy
  rcases hy with rfl | rfl <;> rfl
theorem cutE {h : PH} {v : Value} {E : List ENT} {n : Nat} (hr : Rd h v n (EL E)) (lo hi : Nat) (h1 : lo ≤ hi) (h2 : hi ≤ n) : Rd h (subv v 8 lo hi) (hi - lo) (EL ((E.drop lo).take (hi - lo))) := by
  have q := hr.subv (size := 8) h1 h2
  rw [show ((EL E).drop (lo * 8)).take ((hi - lo) * 8) = EL ((E.drop lo).take (hi - lo)) from flat_cut entL_len5 E lo hi] at q
  exact q
theorem cutK {h : PH} {v : Value} {K : List KEY} {n : Nat} (hr : Rd h v n (KL K)) (lo hi : Nat) (h1 : lo ≤ hi) (h2 : hi ≤ n) : Rd h (subv v 2 lo hi) (hi - lo) (KL ((K.drop lo).take (hi - lo))) := by
  have q := hr.subv (size := 2) h1 h2
  rw [show ((KL K).drop (lo * 2)).take ((hi - lo) * 2) = KL ((K.drop lo).take (hi - lo)) from flat_cut keyL_len5 K lo hi] at q
  exact q
theorem cutD {h : PH} {v : Value} {D : List Int} {n : Nat} (hr : Rd h v n (NL D)) (lo hi : Nat) (h1 : lo ≤ hi) (h2 : hi ≤ n) : Rd h (subv v 1 lo hi) (hi - lo) (NL ((D.drop lo).take (hi - lo))) := by
  have q := hr.subv (size := 1) h1 h2
  rw [Nat.mul_one, Nat.mul_one, show ((NL D).drop lo).take (hi - lo) = NL ((D.drop lo).take (hi - lo)) by simp [NL, List.map_take, List.map_drop]] at q
  exact q
theorem NL_one5 (D : List Int) : ∀ y ∈ NL D, y.oneCell' = true := by
  intro y hy
  obtain ⟨x, _, rfl⟩ := List.mem_map.1 hy
  rfl
theorem NL_len (D : List Int) : (NL D).length = D.length := by simp [NL]
/-- a part of a node -/
def cutL {α : Type} (l : List α) (lo hi : Nat) : List α := (l.drop lo).take (hi - lo)
theorem cutL_len {α : Type} (l : List α) (lo hi : Nat) (h2 : hi ≤ l.length) : (cutL l lo hi).length = hi - lo := by
  unfold cutL
  rw [List.length_take, List.length_drop]; omega
end Go.Proofs.Ytckdlfbbkemklaa
end
section
/- node: a node that is split, in plain terms. -/
namespace Go.Proofs.Ytckdlfbbkemklaa
open Go Go.RowKit Go.Gv
set_option linter.unusedVariables false
set_option linter.unusedSimpArgs false

structure ND3 where
  E : List ENT
  K : List KEY
  D : List Int
/-- leaf or inner: how many -/
def szN (leaf : Bool) (x : ND3) : Nat := if leaf then x.E.length else x.D.length
def okN (leaf : Bool) (x : ND3) : Prop := if leaf then x.K = [] ∧ x.D = [] else x.E = [] ∧ x.K.length = x.D.length
def partN (leaf : Bool) (x : ND3) (lo hi : Nat) : ND3 := if leaf then ⟨cutL x.E lo hi, [], []⟩ else ⟨[], cutL x.K lo hi, cutL x.D lo hi⟩
def appN (x y : ND3) : ND3 := ⟨x.E ++ y.E, x.K ++ y.K, x.D ++ y.D⟩
theorem partN_sz {leaf : Bool} {x : ND3} {lo hi : Nat} (h : hi ≤ szN leaf x) : szN leaf (partN leaf x lo hi) = hi - lo := by
  cases leaf
  · exact cutL_len x.D lo hi h
  · exact cutL_len x.E lo hi h
theorem partN_ok {leaf : Bool} {x : ND3} {lo hi : Nat} (hx : okN leaf x) (h : hi ≤ szN leaf x) : okN leaf (partN leaf x lo hi) := by
  cases leaf
  · have h2 : hi ≤ x.D.length := h
    have h3 : x.K.length = x.D.length := hx.2
    exact ⟨rfl, by show (cutL x.K lo hi).length = (cutL x.D lo hi).length; rw [cutL_len _ _ _ (by omega), cutL_len _ _ _ h2]⟩
  · exact ⟨rfl, rfl⟩
theorem cutL_all {α : Type} (l : List α) : cutL l 0 l.length = l := by
  unfold cutL
  rw [List.drop_zero, Nat.sub_zero, List.take_length]
theorem cutL_app {α : Type} (l : List α) (m : Nat) (h : m ≤ l.length) : cutL l 0 m ++ cutL l m l.length = l := by
  unfold cutL
  rw [List.drop_zero, Nat.sub_zero, List.take_of_length_le (l := l.drop m) (by rw [List.length_drop]; omega), List.take_append_drop]
theorem partN_all {leaf : Bool} {x : ND3} (hx : okN leaf x) : partN leaf x 0 (szN leaf x) = x := by
  obtain ⟨E, K, D⟩ := x
  cases leaf
  · obtain ⟨h1, h2⟩ := hx
    simp only at h1 h2
    subst h1
    show ND3.mk [] (cutL K 0 D.length) (cutL D 0 D.length) = _
    rw [cutL_all, ← h2, cutL_all]
  · obtain ⟨h1, h2⟩ := hx
    simp only at h1 h2
    subst h1; subst h2
    show ND3.mk (cutL E 0 E.length) [] [] = _
    rw [cutL_all]
theorem partN_app {leaf : Bool} {x : ND3} (hx : okN leaf x) (m : Nat) (h : m ≤ szN leaf x) : appN (partN leaf x 0 m) (partN leaf x m (szN leaf x)) = x := by
  obtain ⟨E, K, D⟩ := x
  cases leaf
  · obtain ⟨h1, h2⟩ := hx
    simp only at h1 h2
    subst h1
    have h' : m ≤ D.length := h
    show ND3.mk ([] ++ []) (cutL K 0 m ++ cutL K m D.length) (cutL D 0 m ++ cutL D m D.length) = _
    rw [cutL_app D m h', ← h2, cutL_app K m (by omega)]
    rfl
  · obtain ⟨h1, h2⟩ := hx
    simp only at h1 h2
    subst h1; subst h2
    have h' : m ≤ E.length := h
    show ND3.mk (cutL E 0 m ++ cutL E m E.length) ([] ++ []) ([] ++ []) = _
    rw [cutL_app E m h']
    rfl
def mostN (leaf : Bool) : Nat := if leaf then 7 else 16
/-- the parts of a node -/
def splN (leaf : Bool) : Nat → ND3 → List ND3
  | 0, _ => []
  | f + 1, x => if szN leaf x = 0 then [] else if szN leaf x ≤ mostN leaf then [partN leaf x 0 (szN leaf x)] else
      splN leaf f (partN leaf x 0 ((szN leaf x + 1) / 2)) ++ splN leaf f (partN leaf x ((szN leaf x + 1) / 2) (szN leaf x))
def joinN : List ND3 → ND3
  | [] => ⟨[], [], []⟩
  | x :: l => appN x (joinN l)
theorem appN_nil (x : ND3) : appN x ⟨[], [], []⟩ = x := by simp [appN]
theorem appN_assoc (x y z : ND3) : appN (appN x y) z = appN x (appN y z) := by simp [appN]
theorem joinN_app : ∀ a b : List ND3, joinN (a ++ b) = appN (joinN a) (joinN b)
  | [], b => by simp [joinN, appN]
  | x :: a, b => by rw [List.cons_append, joinN, joinN, joinN_app a b, appN_assoc]
theorem nil_of {leaf : Bool} {x : ND3} (hx : okN leaf x) (h : szN leaf x = 0) : x = ⟨[], [], []⟩ := by
  obtain ⟨E, K, D⟩ := x
  cases leaf
  · obtain ⟨h1, h2⟩ := hx
    have h3 : D.length = 0 := h
    simp only at h1 h2
    rw [h1, List.eq_nil_of_length_eq_zero h3, List.eq_nil_of_length_eq_zero (show K.length = 0 by omega)]
  · obtain ⟨h1, h2⟩ := hx
    have h3 : E.length = 0 := h
    simp only at h1 h2
    rw [h1, h2, List.eq_nil_of_length_eq_zero h3]
theorem most_pos (leaf : Bool) : 7 ≤ mostN leaf := by cases leaf <;> decide
theorem splN_join {leaf : Bool} : ∀ (f : Nat) (x : ND3), okN leaf x → szN leaf x ≤ f → joinN (splN leaf f x) = x
  | 0, x, hx, h => by rw [splN, joinN, nil_of hx (by omega)]
  | f + 1, x, hx, h => by
    have hm := most_pos leaf
    rw [splN]
    split
    · rename_i h0
      rw [joinN, nil_of hx h0]
    · rename_i h0
      split
      · rw [joinN, joinN, appN_nil, partN_all hx]
      · rename_i h1
        have a1 : (szN leaf x + 1) / 2 ≤ szN leaf x := by omega
        have s1 := partN_sz (leaf := leaf) (x := x) (lo := 0) a1
        have s2 := partN_sz (leaf := leaf) (x := x) (lo := (szN leaf x + 1) / 2) (Nat.le_refl _)
        rw [joinN_app, splN_join f _ (partN_ok hx a1) (by omega), splN_join f _ (partN_ok hx (Nat.le_refl _)) (by omega), partN_app hx _ a1]
/-- the parts are neither too large nor, but for a single one, too small -/
theorem splN_sz {leaf : Bool} : ∀ (f : Nat) (x : ND3), okN leaf x → ∀ y ∈ splN leaf f x, okN leaf y ∧ 1 ≤ szN leaf y ∧ szN leaf y ≤ mostN leaf ∧ (mostN leaf < szN leaf x → mostN leaf ≤ 2 * szN leaf y)
  | 0, x, hx, y, hy => by cases hy
  | f + 1, x, hx, y, hy => by
    have hm := most_pos leaf
    rw [splN] at hy
    split at hy
    · cases hy
    · rename_i h0
      split at hy
      · rename_i h1
        simp only [List.mem_singleton] at hy
        subst hy
        have s1 := partN_sz (leaf := leaf) (x := x) (lo := 0) (Nat.le_refl (szN leaf x))
        exact ⟨partN_ok hx (Nat.le_refl _), by omega, by omega, fun c => by omega⟩
      · rename_i h1
        have a1 : (szN leaf x + 1) / 2 ≤ szN leaf x := by omega
        have s1 := partN_sz (leaf := leaf) (x := x) (lo := 0) a1
        have s2 := partN_sz (leaf := leaf) (x := x) (lo := (szN leaf x + 1) / 2) (Nat.le_refl _)
        have key : ∀ (p : ND3), okN leaf p → y ∈ splN leaf f p → mostN leaf ≤ 2 * szN leaf p → okN leaf y ∧ 1 ≤ szN leaf y ∧ szN leaf y ≤ mostN leaf ∧ mostN leaf ≤ 2 * szN leaf y := by
          intro p hp hyp hsz
          obtain ⟨k1, k2, k3, k4⟩ := splN_sz f p hp y hyp
          refine ⟨k1, k2, k3, ?_⟩
          by_cases hc : mostN leaf < szN leaf p
          · exact k4 hc
          · cases f with
            | zero => cases hyp
            | succ f =>
              rw [splN, if_neg (by omega), if_pos (by omega)] at hyp
              simp only [List.mem_singleton] at hyp
              rw [hyp, partN_sz (Nat.le_refl _)]
              omega
        rcases List.mem_append.1 hy with hy | hy
        · obtain ⟨k1, k2, k3, k4⟩ := key _ (partN_ok hx a1) hy (by omega)
          exact ⟨k1, k2, k3, fun _ => k4⟩
        · obtain ⟨k1, k2, k3, k4⟩ := key _ (partN_ok hx (Nat.le_refl _)) hy (by omega)
          exact ⟨k1, k2, k3, fun _ => k4⟩
end Go.Proofs.Ytckdlfbbkemklaa
end
