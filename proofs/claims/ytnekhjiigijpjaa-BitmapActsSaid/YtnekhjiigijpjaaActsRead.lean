/- A row of calls that came in. -/
import Derived.Test.YtnekhjiigijpjaaGvRead2
import Derived.Test.YtnekhjiigijpjaaActsWalk
namespace Go.Proofs.Ytnekhjiigijpjaa
open Go Go.RowKit Go.Gv
set_option linter.unusedVariables false

theorem list3 {α : Type} {l : List α} (h : l.length = 3) : ∃ x y z, l = [x, y, z] := by
  match l, h with
  | [x, y, z], _ => exact ⟨x, y, z, rfl⟩
theorem rds_act {W : World} {f : Nat} {cs : List Value} (h : Rds Try.prog W f 90 cs) : ∃ q : Int × Int × Int, cs = [.int .i64 q.1, .int .i64 q.2.1, .int .i64 q.2.2] := by
  cases f with
  | zero => exact h.elim
  | succ f =>
    unfold Rds at h
    simp only [Try.underlying90] at h
    obtain ⟨hl, h⟩ := h
    have hc : Try.prog.cellsOf 90 = 3 := by kernel_rfl
    have h3 : Try.prog.cellsOf 3 = 1 := by kernel_rfl
    rw [hc] at hl
    have ha := h _ (List.mem_cons_self ..)
    have hb := h _ (List.mem_cons_of_mem _ (List.mem_cons_self ..))
    have hd := h _ (List.mem_cons_of_mem _ (List.mem_cons_of_mem _ (List.mem_cons_self ..)))
    simp only [h3] at ha hb hd
    obtain ⟨a, ha, _⟩ := rds_int Try.underlying3 ha
    obtain ⟨b, hb, _⟩ := rds_int Try.underlying3 hb
    obtain ⟨c, hd, _⟩ := rds_int Try.underlying3 hd
    refine ⟨(a, b, c), ?_⟩
    obtain ⟨x, y, z, rfl⟩ := list3 hl
    simp at ha hb hd
    rw [ha, hb, hd]
theorem acts_flat {P : Program} {W : World} {f : Nat} {e : TypeId} (hone : ∀ ys, Rds P W f e ys → ∃ q : Int × Int × Int, ys = [.int .i64 q.1, .int .i64 q.2.1, .int .i64 q.2.2]) : ∀ Ls : List (List Value), (∀ ys ∈ Ls, ys.length = 3 ∧ Rds P W f e ys) → ∃ l : List (Int × Int × Int), l.length = Ls.length ∧ Ls.flatten = AL l
  | [], _ => ⟨[], rfl, rfl⟩
  | y :: Ls, hh => by
    obtain ⟨l, e1, e2⟩ := acts_flat hone Ls (fun z hz => hh z (List.mem_cons_of_mem _ hz))
    obtain ⟨q, rfl⟩ := hone _ (hh y (List.mem_cons_self ..)).2
    exact ⟨q :: l, by simp [e1], by rw [List.flatten_cons, e2]; rfl⟩
theorem acts_of {P : Program} {W : World} {t e : TypeId} (hu : P.underlying t = some (.slice e)) (hc : P.cellsOf e = 3) (hone : ∀ f ys, Rds P W f e ys → ∃ q : Int × Int × Int, ys = [.int .i64 q.1, .int .i64 q.2.1, .int .i64 q.2.2])
    {a : Option Addr} {len cap : Nat} (h : ∃ f, Rds P W f t [.slice a len cap]) : ∃ l : List (Int × Int × Int), RdW W (.slice a len cap) l.length (AL l) := by
  obtain ⟨f, h⟩ := h
  cases f with
  | zero => exact h.elim
  | succ f =>
    obtain ⟨Ls, h1, h2, h3⟩ := rds_slice hu hc (by omega) h
    obtain ⟨l, e1, e2⟩ := acts_flat (hone f) Ls h2
    refine ⟨l, ?_⟩
    rw [e1, h1, ← e2]; exact h3
theorem rds_acts {W : World} {t : TypeId} (hu : Try.prog.underlying t = some (.slice 90)) {a : Option Addr} {len cap : Nat} (h : ∃ f, Rds Try.prog W f t [.slice a len cap]) : ∃ l : List (Int × Int × Int), RdW W (.slice a len cap) l.length (AL l) := by
  have hc : Try.prog.cellsOf 90 = 3 := by kernel_rfl
  exact acts_of hu hc (fun f ys => rds_act) h
end Go.Proofs.Ytnekhjiigijpjaa
