import Derived.Test.YtckdlfbbkemklaaZGvRead2
import Derived.Test.YtckdlfbbkemklaaZSpWalk
/- A super that came in. -/
namespace Go.Proofs.Ytckdlfbbkemklaa
open Go Go.RowKit Go.Gv
set_option linter.unusedVariables false

theorem list5 {α : Type} {l : List α} (h : l.length = 5) : ∃ x y z u v, l = [x, y, z, u, v] := by
  match l, h with
  | [x, y, z, u, v], _ => exact ⟨x, y, z, u, v, rfl⟩
theorem super_of {P : Program} {W : World} {f : Nat} {t1 t2 : TypeId} {a b c d e : Value} (h1 : P.underlying t1 = some (.int .u64)) (h2 : P.underlying t2 = some (.int .i64))
    (r1 : Rds P W f t1 [a]) (r2 : Rds P W f t2 [b]) (r3 : Rds P W f t2 [c]) (r4 : Rds P W f t2 [d]) (r5 : Rds P W f t2 [e]) : ∃ s : SP, s.gen < 18446744073709551616 ∧ [a, b, c, d, e] = spL s := by
  obtain ⟨g, e1, k1, k2⟩ := rds_int h1 r1
  obtain ⟨n2, e2, _⟩ := rds_int h2 r2
  obtain ⟨n3, e3, _⟩ := rds_int h2 r3
  obtain ⟨n4, e4, _⟩ := rds_int h2 r4
  obtain ⟨n5, e5, _⟩ := rds_int h2 r5
  have g1' : (0 : Int) ≤ g := k1
  have g2' : g ≤ 18446744073709551615 := k2
  refine ⟨⟨g.toNat, n2, n3, n4, n5⟩, by show g.toNat < _; omega, ?_⟩
  simp only [List.cons.injEq, and_true] at e1 e2 e3 e4 e5
  subst e1; subst e2; subst e3; subst e4; subst e5
  have eg : ((g.toNat : Nat) : Int) = g := by omega
  show _ = [Value.int .u64 ((g.toNat : Nat) : Int), .int .i64 n2, .int .i64 n3, .int .i64 n4, .int .i64 n5]
  rw [eg]
theorem rds_super {W : World} {cs : List Value} (h : ∃ f, Rds Try.prog W f 42 cs) : ∃ s : SP, s.gen < 18446744073709551616 ∧ cs = spL s := by
  obtain ⟨f, h⟩ := h
  cases f with
  | zero => exact h.elim
  | succ f =>
    unfold Rds at h
    simp only [Try.underlying42] at h
    obtain ⟨hl, h⟩ := h
    have hc : Try.prog.cellsOf 42 = 5 := by kernel_rfl
    have c2 : Try.prog.cellsOf 3 = 1 := by kernel_rfl
    have c3 : Try.prog.cellsOf 27 = 1 := by kernel_rfl
    rw [hc] at hl
    have ha := h _ (List.mem_cons_self ..)
    have hb := h _ (List.mem_cons_of_mem _ (List.mem_cons_self ..))
    have hd := h _ (List.mem_cons_of_mem _ (List.mem_cons_of_mem _ (List.mem_cons_self ..)))
    have he := h _ (List.mem_cons_of_mem _ (List.mem_cons_of_mem _ (List.mem_cons_of_mem _ (List.mem_cons_self ..))))
    have hf := h _ (List.mem_cons_of_mem _ (List.mem_cons_of_mem _ (List.mem_cons_of_mem _ (List.mem_cons_of_mem _ (List.mem_cons_self ..)))))
    simp only [c2, c3] at ha hb hd he hf
    obtain ⟨x, y, z, u, v, rfl⟩ := list5 hl
    exact super_of Try.underlying27 Try.underlying3 ha hb hd he hf
end Go.Proofs.Ytckdlfbbkemklaa
