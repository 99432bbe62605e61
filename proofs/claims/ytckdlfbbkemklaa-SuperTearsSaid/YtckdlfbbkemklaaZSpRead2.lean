import Derived.Test.YtckdlfbbkemklaaZSpRead
/- Two times four bytes that came in. -/
namespace Go.Proofs.Ytckdlfbbkemklaa
open Go Go.RowKit Go.Gv
set_option linter.unusedVariables false

theorem list4' {α : Type} {l : List α} (h : l.length = 4) : ∃ x y z u, l = [x, y, z, u] := by
  match l, h with
  | [x, y, z, u], _ => exact ⟨x, y, z, u, rfl⟩
theorem list8 {α : Type} {l : List α} (h : l.length = 8) : ∃ a b c d e f g i, l = [a, b, c, d, e, f, g, i] := by
  match l, h with
  | [a, b, c, d, e, f, g, i], _ => exact ⟨a, b, c, d, e, f, g, i, rfl⟩
theorem u8_of {P : Program} {W : World} {f : Nat} {t : TypeId} {v : Value} (h1 : P.underlying t = some (.int .u8)) (r : Rds P W f t [v]) : ∃ k : UInt8, v = .int .u8 (k.toNat : Int) := by
  obtain ⟨k, e, k1, k2⟩ := rds_int h1 r
  have k1' : (0 : Int) ≤ k := k1
  have k2' : k ≤ 255 := k2
  simp only [List.cons.injEq, and_true] at e
  subst e
  exact ⟨UInt8.ofNat k.toNat, by rw [UInt8.toNat_ofNat']; congr 1; omega⟩
theorem four_of {P : Program} {W : World} {f : Nat} {t e : TypeId} (hu : P.underlying t = some (.array 4 e)) (he : P.underlying e = some (.int .u8)) (hs : P.cellsOf e = 1) (ht : P.cellsOf t = 4) {cs : List Value} (h : Rds P W f t cs) :
    ∃ a b c d : UInt8, cs = [.int .u8 (a.toNat : Int), .int .u8 (b.toNat : Int), .int .u8 (c.toNat : Int), .int .u8 (d.toNat : Int)] := by
  cases f with
  | zero => exact h.elim
  | succ f =>
    unfold Rds at h
    simp only [hu, hs, ht] at h
    obtain ⟨hl, h⟩ := h
    obtain ⟨x, y, z, u, rfl⟩ := list4' hl
    obtain ⟨a, rfl⟩ := u8_of he (h 0 (by omega))
    obtain ⟨b, rfl⟩ := u8_of he (h 1 (by omega))
    obtain ⟨c, rfl⟩ := u8_of he (h 2 (by omega))
    obtain ⟨d, rfl⟩ := u8_of he (h 3 (by omega))
    exact ⟨a, b, c, d, rfl⟩
theorem eight_of {P : Program} {W : World} {f : Nat} {t e g : TypeId} (hu : P.underlying t = some (.array 2 e)) (he : P.underlying e = some (.array 4 g)) (hg : P.underlying g = some (.int .u8)) (hs : P.cellsOf g = 1) (hs4 : P.cellsOf e = 4) (ht : P.cellsOf t = 8) {cs : List Value} (h : Rds P W f t cs) :
    ∃ a b c d a' b' c' d' : UInt8, cs = [.int .u8 (a.toNat : Int), .int .u8 (b.toNat : Int), .int .u8 (c.toNat : Int), .int .u8 (d.toNat : Int), .int .u8 (a'.toNat : Int), .int .u8 (b'.toNat : Int), .int .u8 (c'.toNat : Int), .int .u8 (d'.toNat : Int)] := by
  cases f with
  | zero => exact h.elim
  | succ f =>
    unfold Rds at h
    simp only [hu, hs4, ht] at h
    obtain ⟨hl, h⟩ := h
    obtain ⟨x1, x2, x3, x4, x5, x6, x7, x8, rfl⟩ := list8 hl
    obtain ⟨a, b, c, d, e1⟩ := four_of he hg hs hs4 (h 0 (by omega))
    obtain ⟨a', b', c', d', e2⟩ := four_of he hg hs hs4 (h 1 (by omega))
    simp at e1 e2
    obtain ⟨q1, q2, q3, q4⟩ := e1
    obtain ⟨q5, q6, q7, q8⟩ := e2
    exact ⟨a, b, c, d, a', b', c', d', by rw [q1, q2, q3, q4, q5, q6, q7, q8]⟩
theorem rds_eight {W : World} {cs : List Value} (h : ∃ f, Rds Try.prog W f 72 cs) :
    ∃ a b c d a' b' c' d' : UInt8, cs = [.int .u8 (a.toNat : Int), .int .u8 (b.toNat : Int), .int .u8 (c.toNat : Int), .int .u8 (d.toNat : Int), .int .u8 (a'.toNat : Int), .int .u8 (b'.toNat : Int), .int .u8 (c'.toNat : Int), .int .u8 (d'.toNat : Int)] := by
  obtain ⟨f, h⟩ := h
  have c1 : Try.prog.cellsOf 5 = 1 := by kernel_rfl
  have c4 : Try.prog.cellsOf 71 = 4 := by kernel_rfl
  have c8 : Try.prog.cellsOf 72 = 8 := by kernel_rfl
  exact eight_of Try.underlying72 Try.underlying71 Try.underlying5 c1 c4 c8 h
end Go.Proofs.Ytckdlfbbkemklaa
