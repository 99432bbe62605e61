/- A map that came in. -/
import Derived.Test.YtnekhjiigijpjaaGvRead2
import Derived.Test.YtnekhjiigijpjaaBmWalk
namespace Go.Proofs.Ytnekhjiigijpjaa
open Go Go.RowKit Go.Gv
set_option linter.unusedVariables false

theorem rds_map {W : World} {cs : List Value} (h : ∃ f, Rds Try.prog W f 66 cs) : ∃ m : BM, m.u.length = 512 ∧ cs = bmL m := by
  obtain ⟨f, h⟩ := h
  cases f with
  | zero => exact h.elim
  | succ f =>
    unfold Rds at h
    simp only [Try.underlying66] at h
    obtain ⟨hl, h⟩ := h
    have hc : Try.prog.cellsOf 66 = 513 := by kernel_rfl
    have h3 : Try.prog.cellsOf 3 = 1 := by kernel_rfl
    have h38 : Try.prog.cellsOf 38 = 512 := by kernel_rfl
    have h4 : Try.prog.cellsOf 4 = 1 := by kernel_rfl
    rw [hc] at hl
    have ha := h _ (List.mem_cons_self ..)
    have hb := h _ (List.mem_cons_of_mem _ (List.mem_cons_self ..))
    simp only [h3, h38] at ha hb
    obtain ⟨p, hp, _⟩ := rds_int Try.underlying3 ha
    obtain ⟨u, hu1, hu2⟩ := rds_boolArr Try.underlying38 Try.underlying4 h4 h38 hb
    refine ⟨⟨p, u⟩, hu1, ?_⟩
    rw [bmL, ← hu2]
    rw [List.drop_zero] at hp
    cases cs with
    | nil => simp at hl
    | cons c cs =>
      simp at hp hl
      rw [hp, List.drop_succ_cons, List.drop_zero, List.take_of_length_le (by omega)]
end Go.Proofs.Ytnekhjiigijpjaa
