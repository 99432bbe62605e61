/- A page that came in. -/
import Derived.Test.YtmomlimhjnfadaaGvRead2
import Derived.Test.YtmomlimhjnfadaaPgWalk
namespace Go.Proofs.Ytmomlimhjnfadaa
open Go Go.RowKit Go.Gv
set_option linter.unusedVariables false

theorem rds_slV {P : Program} {W : World} {f : Nat} {t e : TypeId} (hu : P.underlying t = some (.slice e)) {cs : List Value} (h : Rds P W f t cs) : ∃ A n c, cs = [.slice A n c] := by
  cases f with
  | zero => exact h.elim
  | succ f =>
    unfold Rds at h
    simp only [hu] at h
    rcases h with h | ⟨a, len, cap, h, _⟩
    · exact ⟨_, _, _, h⟩
    · exact ⟨_, _, _, h⟩
theorem list4 {α : Type} {l : List α} (h : l.length = 4) : ∃ x y z u, l = [x, y, z, u] := by
  match l, h with
  | [x, y, z, u], _ => exact ⟨x, y, z, u, rfl⟩
theorem list2 {α : Type} {l : List α} (h : l.length = 2) : ∃ x y, l = [x, y] := by
  match l, h with
  | [x, y], _ => exact ⟨x, y, rfl⟩
theorem page_of {P : Program} {W : World} {f : Nat} {t1 t2 t3 t4 e : TypeId} {a b c d : Value} (h1 : P.underlying t1 = some (.int .u8)) (h2 : P.underlying t2 = some (.int .i64)) (h3 : P.underlying t3 = some (.int .u64)) (h4 : P.underlying t4 = some (.slice e)) (h5 : P.underlying e = some (.int .u8)) (hs : P.cellsOf e = 1)
    (r1 : Rds P W f t1 [a]) (r2 : Rds P W f t2 [b]) (r3 : Rds P W f t3 [c]) (r4 : Rds P W f t4 [d]) : ∃ (p : PG) (A : Option Addr) (cap : Nat), p.g < 18446744073709551616 ∧ RdW W (.slice A p.b.length cap) p.b.length (B8 p.b) ∧ [a, b, c, d] = pgL p (.slice A p.b.length cap) := by
  obtain ⟨k, e1, k1, k2⟩ := rds_int h1 r1
  obtain ⟨n, e2, _⟩ := rds_int h2 r2
  obtain ⟨g, e3, g1, g2⟩ := rds_int h3 r3
  obtain ⟨A, len, cap, e4⟩ := rds_slV h4 r4
  rw [e4] at r4
  obtain ⟨l, hl, hr⟩ := rds_bytes h4 h5 hs ⟨f, r4⟩
  have k1' : (0 : Int) ≤ k := k1
  have k2' : k ≤ 255 := k2
  have g1' : (0 : Int) ≤ g := g1
  have g2' : g ≤ 18446744073709551615 := g2
  subst hl
  refine ⟨⟨UInt8.ofNat k.toNat, n, g.toNat, l⟩, A, cap, by show g.toNat < _; omega, hr, ?_⟩
  simp only [List.cons.injEq, and_true] at e1 e2 e3 e4
  subst e1; subst e2; subst e3; subst e4
  have ek : ((UInt8.ofNat k.toNat).toNat : Int) = k := by rw [UInt8.toNat_ofNat']; omega
  have eg : ((g.toNat : Nat) : Int) = g := by omega
  show _ = [Value.int .u8 ((UInt8.ofNat k.toNat).toNat : Int), .int .i64 n, .int .u64 ((g.toNat : Nat) : Int), .slice A l.length cap]
  rw [ek, eg]
theorem rds_page {W : World} {cs : List Value} (h : ∃ f, Rds Try.prog W f 96 cs) : ∃ (p : PG) (A : Option Addr) (cap : Nat), p.g < 18446744073709551616 ∧ RdW W (.slice A p.b.length cap) p.b.length (B8 p.b) ∧ cs = pgL p (.slice A p.b.length cap) := by
  obtain ⟨f, h⟩ := h
  cases f with
  | zero => exact h.elim
  | succ f =>
    unfold Rds at h
    simp only [Try.underlying96] at h
    obtain ⟨hl, h⟩ := h
    have hc : Try.prog.cellsOf 96 = 4 := by kernel_rfl
    have c1 : Try.prog.cellsOf 5 = 1 := by kernel_rfl
    have c2 : Try.prog.cellsOf 3 = 1 := by kernel_rfl
    have c3 : Try.prog.cellsOf 43 = 1 := by kernel_rfl
    have c4 : Try.prog.cellsOf 27 = 1 := by kernel_rfl
    rw [hc] at hl
    have ha := h _ (List.mem_cons_self ..)
    have hb := h _ (List.mem_cons_of_mem _ (List.mem_cons_self ..))
    have hd := h _ (List.mem_cons_of_mem _ (List.mem_cons_of_mem _ (List.mem_cons_self ..)))
    have he := h _ (List.mem_cons_of_mem _ (List.mem_cons_of_mem _ (List.mem_cons_of_mem _ (List.mem_cons_self ..))))
    simp only [c1, c2, c3, c4] at ha hb hd he
    obtain ⟨x, y, z, u, rfl⟩ := list4 hl
    exact page_of Try.underlying5 Try.underlying3 Try.underlying43 Try.underlying27 Try.underlying5 c1 ha hb hd he
end Go.Proofs.Ytmomlimhjnfadaa
