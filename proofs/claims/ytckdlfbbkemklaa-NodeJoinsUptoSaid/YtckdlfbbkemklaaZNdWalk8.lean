import Derived.Test.YtckdlfbbkemklaaZNdWalk7
/- node: the reference: key, Less, RightEntry, Right. -/
namespace Go.Proofs.Ytckdlfbbkemklaa
open Go Go.RowKit Go.Gv
set_option linter.unusedVariables false
set_option linter.unusedSimpArgs false

theorem EL_at (F : List ENT) (k : Nat) (h : k < F.length) (j : Nat) (hj : j < 8) : (EL F)[k * 8 + j]? = (entL (F.getD k ent0))[j]? := by
  rw [← EL_eight F k h, List.getElem?_take, if_pos hj, List.getElem?_drop]
theorem EL_k1 (F : List ENT) (k : Nat) (h : k < F.length) : (EL F)[k * 8 + 0]? = some (.int .i64 (F.getD k ent0).key.1) := EL_at F k h 0 (by omega)
theorem EL_k2 (F : List ENT) (k : Nat) (h : k < F.length) : (EL F)[k * 8 + 1]? = some (.int .i64 (F.getD k ent0).key.2) := EL_at F k h 1 (by omega)
theorem EL_fin (F : List ENT) (k : Nat) (h : k < F.length) : (EL F)[k * 8 + 2]? = some (.int .i64 (F.getD k ent0).fin) := EL_at F k h 2 (by omega)
theorem ent_no {e : ENT} (h : entOk e = true → False) : entOk e = false := by
  cases hh : entOk e
  · rfl
  · exact (h hh).elim
theorem ent_key {e : ENT} (h : entOk e = true) : keyOk e.key = true := by
  simp only [entOk, Bool.and_eq_true] at h
  exact h.1.1.1.1.1.1
theorem ent_last {e : ENT} (h1 : keyOk e.key = true) (h2 : e.key.2 ≤ e.fin) (h3 : 2 ≤ e.addr ∧ e.addr ≤ 511) (h4 : 1 ≤ e.len ∧ e.len ≤ 65535) (h5 : e.addr + pagesE e.len ≤ 512) (h6 : 1 ≤ e.count ∧ e.count ≤ 200) (h7 : 0 ≤ e.codec) : decide (e.codec ≤ 15) = entOk e := by
  rw [entOk, h1, decide_eq_true h2, betw, decide_eq_true h3.1, decide_eq_true h3.2, betw, decide_eq_true h4.1, decide_eq_true h4.2, decide_eq_true h5, betw, decide_eq_true h6.1, decide_eq_true h6.2, betw, decide_eq_true h7]
  rfl
theorem right_leafno {E : List ENT} {K : List KEY} {D : List Int} (h : leafB E = true → K.length = 0 → D.length = 0 → False) : rightN true E K D = false := by
  rw [rightN, if_pos rfl, Bool.eq_false_iff]
  intro hh
  simp only [Bool.and_eq_true, decide_eq_true_eq] at hh
  exact h hh.2.2 hh.1 hh.2.1
theorem right_innerno {E : List ENT} {K : List KEY} {D : List Int} (h : innerB K D = true → E.length = 0 → False) : rightN false E K D = false := by
  rw [rightN, if_neg (by simp), Bool.eq_false_iff]
  intro hh
  simp only [Bool.and_eq_true, decide_eq_true_eq] at hh
  exact h hh.2 hh.1
end Go.Proofs.Ytckdlfbbkemklaa
