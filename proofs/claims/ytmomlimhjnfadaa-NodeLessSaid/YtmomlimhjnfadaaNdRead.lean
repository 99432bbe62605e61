/- Pairs of numbers that came in. -/
import Derived.Test.YtmomlimhjnfadaaGvRead2
import Derived.Test.YtmomlimhjnfadaaNdLessWalk
namespace Go.Proofs.Ytmomlimhjnfadaa
open Go Go.RowKit Go.Gv
set_option linter.unusedVariables false

theorem list2' {α : Type} {l : List α} (h : l.length = 2) : ∃ x y, l = [x, y] := by
  match l, h with
  | [x, y], _ => exact ⟨x, y, rfl⟩
theorem pair_of' {P : Program} {W : World} {f : Nat} {t e : TypeId} (hu : P.underlying t = some (.array 2 e)) (he : P.underlying e = some (.int .i64)) (hs : P.cellsOf e = 1) (ht : P.cellsOf t = 2) {cs : List Value} (h : Rds P W f t cs) : ∃ k : KEY, cs = keyL k := by
  cases f with
  | zero => exact h.elim
  | succ f =>
    unfold Rds at h
    simp only [hu, hs, ht] at h
    obtain ⟨hl, h⟩ := h
    obtain ⟨x, y, rfl⟩ := list2' hl
    obtain ⟨a, ha, _⟩ := rds_int he (h 0 (by omega))
    obtain ⟨b, hb, _⟩ := rds_int he (h 1 (by omega))
    simp at ha hb
    exact ⟨(a, b), by rw [ha, hb]; rfl⟩
theorem rds_pair64 {W : World} {cs : List Value} (h : ∃ f, Rds Try.prog W f 82 cs) : ∃ k : KEY, cs = keyL k := by
  obtain ⟨f, h⟩ := h
  have c2 : Try.prog.cellsOf 2 = 1 := by kernel_rfl
  have ct : Try.prog.cellsOf 82 = 2 := by kernel_rfl
  exact pair_of' Try.underlying82 Try.underlying2 c2 ct h
end Go.Proofs.Ytmomlimhjnfadaa
