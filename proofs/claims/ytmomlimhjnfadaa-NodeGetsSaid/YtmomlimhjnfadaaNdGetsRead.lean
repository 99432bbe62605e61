/- Two numbers, and bytes, that came in beside a node. -/
import Derived.Test.YtmomlimhjnfadaaNdPutsRead
import Derived.Test.YtmomlimhjnfadaaNdGetsWalk
namespace Go.Proofs.Ytmomlimhjnfadaa
open Go Go.RowKit Go.Gv
set_option linter.unusedVariables false

theorem pairI_of {P : Program} {W : World} {f : Nat} {t e : TypeId} (hu : P.underlying t = some (.array 2 e)) (he : P.underlying e = some (.int .i64)) (hs : P.cellsOf e = 1) (ht : P.cellsOf t = 2) {cs : List Value} (h : Rds P W f t cs) : ∃ x y : Int, cs = [.int .i64 x, .int .i64 y] := by
  cases f with
  | zero => exact h.elim
  | succ f =>
    unfold Rds at h
    simp only [hu, hs, ht] at h
    obtain ⟨hl, h⟩ := h
    obtain ⟨x, y, rfl⟩ := nlist2 hl
    obtain ⟨a, ha, _⟩ := rds_int he (h 0 (by omega))
    obtain ⟨b, hb, _⟩ := rds_int he (h 1 (by omega))
    simp at ha hb
    exact ⟨a, b, by rw [ha, hb]⟩
theorem rdz_pair {W : World} {cs : List Value} (h : ∃ f, Rdz Try.prog W f 62 cs) : ∃ x y : Int, cs = [.int .i64 x, .int .i64 y] := by
  obtain ⟨f, h⟩ := h
  exact pairI_of Try.underlying62 Try.underlying3 (by kernel_rfl) (by kernel_rfl) (rdz_rds _ _ _ h)
end Go.Proofs.Ytmomlimhjnfadaa
