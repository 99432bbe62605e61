import Derived.Test.YtckdlfbbkemklaaZNjWalk3
/- node: the parts of a node, one by one; Join in one. -/
namespace Go.Proofs.Ytckdlfbbkemklaa
open Go Go.RowKit Go.Gv
set_option linter.unusedVariables false
set_option linter.unusedSimpArgs false

theorem splN_one {leaf : Bool} (f : Nat) (x : ND3) (h : szN leaf x ≤ mostN leaf) : (splN leaf (f + 1) x).length ≤ 1 := by
  rw [splN]
  split
  · exact Nat.zero_le _
  · exact Nat.le_refl _
theorem rds_at : ∀ (VS : List (Value × Value × Value)) (xs : List ND3) (i : Nat) (v : Value × Value × Value) (y : ND3), VS[i]? = some v → xs[i]? = some y →
    (v.1, y.E.length, EL y.E) ∈ RDS VS xs ∧ (v.2.1, y.K.length, KL y.K) ∈ RDS VS xs ∧ (v.2.2, y.D.length, NL y.D) ∈ RDS VS xs
  | [], _, _, _, _, h, _ => by simp at h
  | _ :: _, [], _, _, _, _, h => by simp at h
  | u :: VS, x :: xs, 0, v, y, h1, h2 => by
    simp at h1 h2
    subst h1; subst h2
    exact ⟨.head _, .tail _ (.head _), .tail _ (.tail _ (.head _))⟩
  | u :: VS, x :: xs, i + 1, v, y, h1, h2 => by
    obtain ⟨a, b, c⟩ := rds_at VS xs i v y (by simpa using h1) (by simpa using h2)
    exact ⟨.tail _ (.tail _ (.tail _ a)), .tail _ (.tail _ (.tail _ b)), .tail _ (.tail _ (.tail _ c))⟩
theorem NDL_at {leaf : Bool} : ∀ (VS : List (Value × Value × Value)) (i : Nat) (v : Value × Value × Value), VS[i]? = some v → ((NDL leaf VS).drop (i * 4)).take 4 = ndLL leaf v.1 v.2.1 v.2.2
  | [], _, _, h => by simp at h
  | u :: VS, 0, v, h => by simp at h; subst h; rfl
  | u :: VS, i + 1, v, h => by
    have : (NDL leaf (u :: VS)).drop ((i + 1) * 4) = (NDL leaf VS).drop (i * 4) := by
      show (ndLL leaf u.1 u.2.1 u.2.2 ++ NDL leaf VS).drop ((i + 1) * 4) = _
      rw [show (i + 1) * 4 = (ndLL leaf u.1 u.2.1 u.2.2).length + i * 4 by show _ = 4 + _; omega, List.drop_append, Nat.add_sub_cancel_left, List.drop_eq_nil_of_le (by omega), List.nil_append]
    rw [this]
    exact NDL_at VS i v (by simpa using h)
theorem joinN_take {xs : List ND3} {i : Nat} {y : ND3} (h : xs[i]? = some y) : joinN (xs.take (i + 1)) = appN (joinN (xs.take i)) y := by
  rw [List.take_add_one, h, joinN_app]
  show appN _ (appN y ⟨[], [], []⟩) = _
  rw [appN_nil]
theorem joinN_split (xs : List ND3) (i : Nat) : appN (joinN (xs.take i)) (joinN (xs.drop i)) = joinN xs := by
  rw [← joinN_app, List.take_append_drop]
/-- what is joined so far is of the kind of the whole, and no longer -/
def upN (leaf : Bool) (y X : ND3) : Prop := (if leaf then y.K = [] ∧ y.D = [] else y.E = []) ∧ y.E.length ≤ X.E.length ∧ y.K.length ≤ X.K.length ∧ y.D.length ≤ X.D.length
theorem up_take {leaf : Bool} {xs : List ND3} {X : ND3} (hX : joinN xs = X) (hok : okN leaf X) (i : Nat) : upN leaf (joinN (xs.take i)) X := by
  have h := joinN_split xs i
  rw [hX] at h
  generalize joinN (xs.take i) = y at *
  generalize joinN (xs.drop i) = z at *
  obtain ⟨yE, yK, yD⟩ := y
  obtain ⟨zE, zK, zD⟩ := z
  subst h
  simp only [appN] at hok ⊢
  refine ⟨?_, by simp, by simp, by simp⟩
  cases leaf
  · obtain ⟨h1, _⟩ := hok
    simp only [List.append_eq_nil_iff] at h1
    exact h1.1
  · obtain ⟨h1, h2⟩ := hok
    simp only [List.append_eq_nil_iff] at h1 h2
    exact ⟨h1.1, h2.1⟩
/-- Join, leaf or inner -/
theorem node_JoinU (leaf : Bool) (ev kv dv ev2 kv2 dv2 : Value) (x y X : ND3) (hu : upN leaf (appN x y) X) (h1 : X.E.length ≤ 5000000) (h2 : X.K.length ≤ 5000000) (h3 : X.D.length ≤ 5000000) :
    SpecR Try.prog 14 #[ndW leaf ev kv dv, ndW leaf ev2 kv2 dv2] (fun w => ndR w ev kv dv x.E x.K x.D ∧ ndR w ev2 kv2 dv2 y.E y.K y.D) (fun r H' => ∃ u1 u2 u3, r = ndW leaf u1 u2 u3 ∧ H' = ownN u1 u2 u3 (appN x y).E (appN x y).K (appN x y).D) := by
  obtain ⟨hu, l1, l2, l3⟩ := hu
  have e1 : (appN x y).E.length = x.E.length + y.E.length := List.length_append
  have e2 : (appN x y).K.length = x.K.length + y.K.length := List.length_append
  have e3 : (appN x y).D.length = x.D.length + y.D.length := List.length_append
  cases leaf
  · have hE : (appN x y).E = [] := hu
    rw [hE]
    exact node_Join_inner ev kv dv ev2 kv2 dv2 x.E y.E x.K y.K x.D y.D (by omega) (by omega)
  · obtain ⟨hK, hD⟩ := hu
    rw [hK, hD]
    exact node_Join_leaf ev kv dv ev2 kv2 dv2 x.E y.E x.K y.K x.D y.D (by omega)
theorem ndR_at {w0 : World} {H H1 : List Atom} {VS : List (Value × Value × Value)} {xs : List ND3} {i : Nat} {v : Value × Value × Value} {y : ND3} (p : Pull H (manyRd (RDS VS xs)) H1) (h1 : VS[i]? = some v) (h2 : xs[i]? = some y) : ∀ w, St w0 w H → ndR w v.1 v.2.1 v.2.2 y.E y.K y.D := fun w hw =>
  have q := rds_at VS xs i v y h1 h2
  ⟨rdw_many p q.1 w hw, rdw_many p q.2.1 w hw, rdw_many p q.2.2 w hw⟩
theorem ndR_many {w0 : World} {H H1 : List Atom} {ev kv dv : Value} {E : List ENT} {K : List KEY} {D : List Int} (p : Pull H (manyRd [(ev, E.length, EL E), (kv, K.length, KL K), (dv, D.length, NL D)]) H1) : ∀ w, St w0 w H → ndR w ev kv dv E K D := fun w hw =>
  ⟨rdw_many p (.head _) w hw, rdw_many p (.tail _ (.head _)) w hw, rdw_many p (.tail _ (.tail _ (.head _))) w hw⟩
end Go.Proofs.Ytckdlfbbkemklaa
