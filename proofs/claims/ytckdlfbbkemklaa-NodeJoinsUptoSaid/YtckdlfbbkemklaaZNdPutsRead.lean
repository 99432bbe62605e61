import Derived.Test.YtckdlfbbkemklaaZGvRead3
import Derived.Test.YtckdlfbbkemklaaZNdPutsWalk
/- A node that came in. -/
namespace Go.Proofs.Ytckdlfbbkemklaa
open Go Go.RowKit Go.Gv
set_option linter.unusedVariables false
set_option linter.unusedSimpArgs false

theorem nlist8 {α : Type} {l : List α} (h : l.length = 8) : ∃ a b c d e f g i, l = [a, b, c, d, e, f, g, i] := by
  match l, h with
  | [a, b, c, d, e, f, g, i], _ => exact ⟨a, b, c, d, e, f, g, i, rfl⟩
theorem nlist4 {α : Type} {l : List α} (h : l.length = 4) : ∃ x y z u, l = [x, y, z, u] := by
  match l, h with
  | [x, y, z, u], _ => exact ⟨x, y, z, u, rfl⟩
theorem nlist2 {α : Type} {l : List α} (h : l.length = 2) : ∃ x y, l = [x, y] := by
  match l, h with
  | [x, y], _ => exact ⟨x, y, rfl⟩
theorem key_of {P : Program} {W : World} {f : Nat} {t1 t2 : TypeId} {a b : Value} (h1 : P.underlying t1 = some (.int .i64)) (h2 : P.underlying t2 = some (.int .i64)) (r1 : Rds P W f t1 [a]) (r2 : Rds P W f t2 [b]) : ∃ k : KEY, [a, b] = keyL k ∧ keyR k := by
  obtain ⟨x, e1, _⟩ := rds_int h1 r1
  obtain ⟨y, e2, y1, y2⟩ := rds_int h2 r2
  simp only [List.cons.injEq, and_true] at e1 e2
  subst e1; subst e2
  exact ⟨(x, y), rfl, y1, y2⟩
theorem rds_key12 {W : World} {f : Nat} {cs : List Value} (h : Rds Try.prog W f 101 cs) : ∃ k : KEY, cs = keyL k ∧ keyR k := by
  cases f with
  | zero => exact h.elim
  | succ f =>
    unfold Rds at h
    simp only [Try.underlying101] at h
    obtain ⟨hl, h⟩ := h
    have hc : Try.prog.cellsOf 101 = 2 := by kernel_rfl
    have c1 : Try.prog.cellsOf 3 = 1 := by kernel_rfl
    have c2 : Try.prog.cellsOf 2 = 1 := by kernel_rfl
    rw [hc] at hl
    have ha := h _ (List.mem_cons_self ..)
    have hb := h _ (List.mem_cons_of_mem _ (List.mem_cons_self ..))
    simp only [c1, c2] at ha hb
    obtain ⟨x, y, rfl⟩ := nlist2 hl
    exact key_of Try.underlying3 Try.underlying2 ha hb
theorem ent_of {P : Program} {W : World} {f : Nat} {t1 t2 t3 : TypeId} {k : KEY} {c d e g i l : Value} (h1 : P.underlying t1 = some (.int .i64)) (h2 : P.underlying t2 = some (.int .i64)) (h3 : P.underlying t3 = some (.int .u32)) (hk : keyR k)
    (r1 : Rds P W f t2 [c]) (r2 : Rds P W f t1 [d]) (r3 : Rds P W f t1 [e]) (r4 : Rds P W f t1 [g]) (r5 : Rds P W f t1 [i]) (r6 : Rds P W f t3 [l]) : ∃ x : ENT, keyL k ++ [c, d, e, g, i, l] = entL x ∧ entR x := by
  obtain ⟨x1, e1, y1, y2⟩ := rds_int h2 r1
  obtain ⟨x2, e2, _⟩ := rds_int h1 r2
  obtain ⟨x3, e3, _⟩ := rds_int h1 r3
  obtain ⟨x4, e4, _⟩ := rds_int h1 r4
  obtain ⟨x5, e5, _⟩ := rds_int h1 r5
  obtain ⟨x6, e6, z1, z2⟩ := rds_int h3 r6
  have z1' : (0 : Int) ≤ x6 := z1
  have z2' : x6 ≤ 4294967295 := z2
  obtain ⟨m, rfl⟩ : ∃ m : Nat, x6 = (m : Int) := ⟨x6.toNat, by omega⟩
  simp only [List.cons.injEq, and_true] at e1 e2 e3 e4 e5 e6
  subst e1; subst e2; subst e3; subst e4; subst e5; subst e6
  exact ⟨⟨k, x1, x2, x3, x4, x5, m⟩, rfl, hk, ⟨y1, y2⟩, by show m < _; omega⟩
theorem rds_ent12 {W : World} {f : Nat} {cs : List Value} (h : Rds Try.prog W f 103 cs) : ∃ x : ENT, cs = entL x ∧ entR x := by
  cases f with
  | zero => exact h.elim
  | succ f =>
    unfold Rds at h
    simp only [Try.underlying103] at h
    obtain ⟨hl, h⟩ := h
    have hc : Try.prog.cellsOf 103 = 8 := by kernel_rfl
    have c0 : Try.prog.cellsOf 101 = 2 := by kernel_rfl
    have c1 : Try.prog.cellsOf 3 = 1 := by kernel_rfl
    have c2 : Try.prog.cellsOf 2 = 1 := by kernel_rfl
    have c3 : Try.prog.cellsOf 61 = 1 := by kernel_rfl
    rw [hc] at hl
    have h0 := h _ (List.mem_cons_self ..)
    have h1 := h _ (List.mem_cons_of_mem _ (List.mem_cons_self ..))
    have h2 := h _ (List.mem_cons_of_mem _ (List.mem_cons_of_mem _ (List.mem_cons_self ..)))
    have h3 := h _ (List.mem_cons_of_mem _ (List.mem_cons_of_mem _ (List.mem_cons_of_mem _ (List.mem_cons_self ..))))
    have h4 := h _ (List.mem_cons_of_mem _ (List.mem_cons_of_mem _ (List.mem_cons_of_mem _ (List.mem_cons_of_mem _ (List.mem_cons_self ..)))))
    have h5 := h _ (List.mem_cons_of_mem _ (List.mem_cons_of_mem _ (List.mem_cons_of_mem _ (List.mem_cons_of_mem _ (List.mem_cons_of_mem _ (List.mem_cons_self ..))))))
    have h6 := h _ (List.mem_cons_of_mem _ (List.mem_cons_of_mem _ (List.mem_cons_of_mem _ (List.mem_cons_of_mem _ (List.mem_cons_of_mem _ (List.mem_cons_of_mem _ (List.mem_cons_self ..)))))))
    simp only [c0, c1, c2, c3] at h0 h1 h2 h3 h4 h5 h6
    obtain ⟨a, b, c, d, e, g, i, l, rfl⟩ := nlist8 hl
    obtain ⟨k, hk, hkr⟩ := rds_key12 h0
    have hk' : [a, b] = keyL k := hk
    obtain ⟨x, hx, hxr⟩ := ent_of Try.underlying3 Try.underlying2 Try.underlying61 hkr h1 h2 h3 h4 h5 h6
    exact ⟨x, by rw [← hx, ← hk']; rfl, hxr⟩
theorem ents_flat {P : Program} {W : World} {f : Nat} {e : TypeId} (hone : ∀ ys, Rds P W f e ys → ∃ x : ENT, ys = entL x ∧ entR x) : ∀ Ls : List (List Value), (∀ ys ∈ Ls, ys.length = 8 ∧ Rds P W f e ys) → ∃ l : List ENT, l.length = Ls.length ∧ Ls.flatten = EL l ∧ ∀ x ∈ l, entR x
  | [], _ => ⟨[], rfl, rfl, fun x hx => by cases hx⟩
  | y :: Ls, hh => by
    obtain ⟨l, e1, e2, e3⟩ := ents_flat hone Ls (fun z hz => hh z (List.mem_cons_of_mem _ hz))
    obtain ⟨q, rfl, hq⟩ := hone _ (hh y (List.mem_cons_self ..)).2
    refine ⟨q :: l, by simp [e1], by rw [List.flatten_cons, e2]; rfl, fun x hx => ?_⟩
    rcases List.mem_cons.1 hx with rfl | hx
    · exact hq
    · exact e3 x hx
theorem keys_flat {P : Program} {W : World} {f : Nat} {e : TypeId} (hone : ∀ ys, Rds P W f e ys → ∃ x : KEY, ys = keyL x ∧ keyR x) : ∀ Ls : List (List Value), (∀ ys ∈ Ls, ys.length = 2 ∧ Rds P W f e ys) → ∃ l : List KEY, l.length = Ls.length ∧ Ls.flatten = KL l ∧ ∀ x ∈ l, keyR x
  | [], _ => ⟨[], rfl, rfl, fun x hx => by cases hx⟩
  | y :: Ls, hh => by
    obtain ⟨l, e1, e2, e3⟩ := keys_flat hone Ls (fun z hz => hh z (List.mem_cons_of_mem _ hz))
    obtain ⟨q, rfl, hq⟩ := hone _ (hh y (List.mem_cons_self ..)).2
    refine ⟨q :: l, by simp [e1], by rw [List.flatten_cons, e2]; rfl, fun x hx => ?_⟩
    rcases List.mem_cons.1 hx with rfl | hx
    · exact hq
    · exact e3 x hx
theorem ents_of {P : Program} {W : World} {t e : TypeId} (hu : P.underlying t = some (.slice e)) (hc : P.cellsOf e = 8) (hone : ∀ f ys, Rds P W f e ys → ∃ x : ENT, ys = entL x ∧ entR x) {a : Option Addr} {len cap f : Nat} (h : Rds P W f t [.slice a len cap]) : ∃ l : List ENT, l.length = len ∧ RdW W (.slice a len cap) l.length (EL l) ∧ ∀ x ∈ l, entR x := by
  cases f with
  | zero => exact h.elim
  | succ f =>
    obtain ⟨Ls, h1, h2, h3⟩ := rds_slice hu hc (by omega) h
    obtain ⟨l, e1, e2, e3⟩ := ents_flat (hone f) Ls h2
    exact ⟨l, by rw [e1, h1], by rw [e1, h1, ← e2]; exact h3, e3⟩
theorem keys_of {P : Program} {W : World} {t e : TypeId} (hu : P.underlying t = some (.slice e)) (hc : P.cellsOf e = 2) (hone : ∀ f ys, Rds P W f e ys → ∃ x : KEY, ys = keyL x ∧ keyR x) {a : Option Addr} {len cap f : Nat} (h : Rds P W f t [.slice a len cap]) : ∃ l : List KEY, l.length = len ∧ RdW W (.slice a len cap) l.length (KL l) ∧ ∀ x ∈ l, keyR x := by
  cases f with
  | zero => exact h.elim
  | succ f =>
    obtain ⟨Ls, h1, h2, h3⟩ := rds_slice hu hc (by omega) h
    obtain ⟨l, e1, e2, e3⟩ := keys_flat (hone f) Ls h2
    exact ⟨l, by rw [e1, h1], by rw [e1, h1, ← e2]; exact h3, e3⟩
/-- what a node's cells read -/
def nodeIn (W : World) (cs : List Value) : Prop := ∃ (leaf : Bool) (ev kv dv : Value) (E : List ENT) (K : List KEY) (D : List Int), cs = ndLL leaf ev kv dv ∧ ndR W ev kv dv E K D ∧ E.length * 64 ≤ 140737488355328 ∧ K.length * 16 ≤ 140737488355328 ∧ D.length * 8 ≤ 140737488355328 ∧ (∀ e ∈ E, entR e) ∧ (∀ k ∈ K, keyR k)
theorem node_in {P : Program} {W : World} {f : Nat} {t1 t2 t3 t4 e2 e3 e4 : TypeId} {a b c d : Value} (h1 : P.underlying t1 = some .bool) (h2 : P.underlying t2 = some (.slice e2)) (h3 : P.underlying t3 = some (.slice e3)) (h4 : P.underlying t4 = some (.slice e4)) (h5 : P.underlying e4 = some (.int .i64))
    (c2 : P.cellsOf e2 = 8) (c3 : P.cellsOf e3 = 2) (c4 : P.cellsOf e4 = 1) (b2 : P.bytesOf e2 = 64) (b3 : P.bytesOf e3 = 16) (b4 : P.bytesOf e4 = 8)
    (o2 : ∀ f ys, Rds P W f e2 ys → ∃ x : ENT, ys = entL x ∧ entR x) (o3 : ∀ f ys, Rds P W f e3 ys → ∃ x : KEY, ys = keyL x ∧ keyR x)
    (r1 : Rdz P W f t1 [a]) (r2 : Rdz P W f t2 [b]) (r3 : Rdz P W f t3 [c]) (r4 : Rdz P W f t4 [d]) : nodeIn W [a, b, c, d] := by
  obtain ⟨x, e1⟩ := rds_bool h1 (rdz_rds _ _ _ r1)
  obtain ⟨A2, n2, p2, q2, z2, s2⟩ := rdz_slice h2 r2
  obtain ⟨A3, n3, p3, q3, z3, s3⟩ := rdz_slice h3 r3
  obtain ⟨A4, n4, p4, q4, z4, s4⟩ := rdz_slice h4 r4
  obtain ⟨E, hE1, hE2, hE3⟩ := ents_of h2 c2 o2 s2
  obtain ⟨K, hK1, hK2, hK3⟩ := keys_of h3 c3 o3 s3
  obtain ⟨D, hD1, hD2, hD3⟩ := rds_ints h4 h5 c4 ⟨f, s4⟩
  rw [b2] at z2
  rw [b3] at z3
  rw [b4] at z4
  have hrb : reachBytes ≤ 140737488355328 := by decide
  simp only [List.cons.injEq, and_true] at e1 q2 q3 q4
  subst e1; subst q2; subst q3; subst q4
  subst hE1; subst hK1; subst hD1
  exact ⟨x, _, _, _, E, K, D, rfl, ⟨hE2, hK2, hD3⟩, by omega, by omega, by omega, hE3, hK3⟩
theorem rdz_node {W : World} {cs : List Value} (h : ∃ f, Rdz Try.prog W f 26 cs) : nodeIn W cs := by
  obtain ⟨f, h⟩ := h
  cases f with
  | zero => exact h.elim
  | succ f =>
    unfold Rdz at h
    simp only [Try.underlying26] at h
    obtain ⟨hl, h⟩ := h
    have hc : Try.prog.cellsOf 26 = 4 := by kernel_rfl
    have c1 : Try.prog.cellsOf 4 = 1 := by kernel_rfl
    have c2 : Try.prog.cellsOf 22 = 1 := by kernel_rfl
    have c3 : Try.prog.cellsOf 23 = 1 := by kernel_rfl
    have c4 : Try.prog.cellsOf 24 = 1 := by kernel_rfl
    rw [hc] at hl
    have h0 := h _ (List.mem_cons_self ..)
    have h1 := h _ (List.mem_cons_of_mem _ (List.mem_cons_self ..))
    have h2 := h _ (List.mem_cons_of_mem _ (List.mem_cons_of_mem _ (List.mem_cons_self ..)))
    have h3 := h _ (List.mem_cons_of_mem _ (List.mem_cons_of_mem _ (List.mem_cons_of_mem _ (List.mem_cons_self ..))))
    simp only [c1, c2, c3, c4] at h0 h1 h2 h3
    obtain ⟨x, y, z, u, rfl⟩ := nlist4 hl
    exact node_in Try.underlying4 Try.underlying22 Try.underlying23 Try.underlying24 Try.underlying3 (by kernel_rfl) (by kernel_rfl) (by kernel_rfl) (by kernel_rfl) (by kernel_rfl) (by kernel_rfl) (fun f ys => rds_ent12) (fun f ys => rds_key12) h0 h1 h2 h3
end Go.Proofs.Ytckdlfbbkemklaa
