import Derived.Test.YtckdlfbbkemklaaZNdWalk10
import Derived.Test.YtckdlfbbkemklaaZGvLaw
/- node: of all nodes the bytes are told, or that they can't be; they are got again: the walk. -/
namespace Go.Proofs.Ytckdlfbbkemklaa
open Go Go.RowKit Go.Gv
set_option linter.unusedVariables false
set_option linter.unusedSimpArgs false

theorem get_putN {leaf : Bool} {E : List ENT} {K : List KEY} {D : List Int} (h : rightN leaf E K D = true) (hR : ∀ e ∈ E, entR e) (hK : ∀ k ∈ K, keyR k) : getN leaf (putN leaf E K D) = ⟨leaf, E, K, D, 0⟩ ∧ getN (!leaf) (putN leaf E K D) = ⟨false, [], [], [], 3⟩ := by
  cases leaf
  · rw [rightN, if_neg (by simp)] at h
    simp only [Bool.and_eq_true, decide_eq_true_eq] at h
    have hE : E = [] := List.eq_nil_of_length_eq_zero h.1
    subst hE
    have h1 := get_putI h.2 hK
    have h2 := getL_putI h.2
    constructor
    · rw [getN, if_neg (by simp), show putN false [] K D = putI K D from rfl, h1]
    · rw [getN, if_pos (by rfl), show putN false [] K D = putI K D from rfl, h2]; rfl
  · simp only [rightN, if_true, Bool.and_eq_true, decide_eq_true_eq] at h
    have hK0 : K = [] := List.eq_nil_of_length_eq_zero h.1
    have hD0 : D = [] := List.eq_nil_of_length_eq_zero h.2.1
    subst hK0; subst hD0
    have h1 := get_putL h.2.2 hR
    have h2 := getI_putL h.2.2
    constructor
    · rw [getN, if_pos rfl, show putN true E [] [] = putL E from rfl, h1]; rfl
    · rw [getN, if_neg (by simp), show putN true E [] [] = putL E from rfl, h2]
theorem ndR_own {w0 : World} {H H1 H2 H3 : List Atom} {t1 t2 t3 : TypeId} {ev kv dv : Value} {E : List ENT} {K : List KEY} {D : List Int} (p1 : Pull H (own t1 8 ev E.length (EL E)) H1) (p2 : Pull H (own t2 2 kv K.length (KL K)) H2) (p3 : Pull H (own t3 1 dv D.length (NL D)) H3) : ∀ w, St w0 w H → ndR w ev kv dv E K D := fun w hw => ⟨rdw_own p1 w hw, rdw_own p2 w hw, rdw_own p3 w hw⟩
end Go.Proofs.Ytckdlfbbkemklaa
