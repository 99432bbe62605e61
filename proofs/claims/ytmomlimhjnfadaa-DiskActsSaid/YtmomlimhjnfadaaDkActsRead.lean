/- A row of calls that came in. -/
import Derived.Test.YtmomlimhjnfadaaGvRead2
import Derived.Test.YtmomlimhjnfadaaDkActsWalk
namespace Go.Proofs.Ytmomlimhjnfadaa
open Go Go.RowKit Go.Gv
set_option linter.unusedVariables false

theorem rds_slVa {P : Program} {W : World} {f : Nat} {t e : TypeId} (hu : P.underlying t = some (.slice e)) {cs : List Value} (h : Rds P W f t cs) : ∃ A n c, cs = [.slice A n c] := by
  cases f with
  | zero => exact h.elim
  | succ f =>
    unfold Rds at h
    simp only [hu] at h
    rcases h with h | ⟨a, len, cap, h, _⟩
    · exact ⟨_, _, _, h⟩
    · exact ⟨_, _, _, h⟩
theorem list5 {α : Type} {l : List α} (h : l.length = 5) : ∃ x y z u v, l = [x, y, z, u, v] := by
  match l, h with
  | [x, y, z, u, v], _ => exact ⟨x, y, z, u, v, rfl⟩
theorem act_of {P : Program} {W : World} {f : Nat} {t1 tb tk e eb : TypeId} {a b c d g : Value} (h1 : P.underlying t1 = some (.int .i64)) (hb : P.underlying tb = some (.slice e)) (he : P.underlying e = some (.int .u8)) (hs : P.cellsOf e = 1) (hk : P.underlying tk = some (.slice eb)) (hkb : P.underlying eb = some .bool) (hsb : P.cellsOf eb = 1)
    (r1 : Rds P W f t1 [a]) (r2 : Rds P W f t1 [b]) (r3 : Rds P W f tb [c]) (r4 : Rds P W f tk [d]) (r5 : Rds P W f tb [g]) : ∃ x : ACT, [a, b, c, d, g] = actL x ∧ actOk W x := by
  obtain ⟨k, e1, k1, k2⟩ := rds_int h1 r1
  obtain ⟨n, e2, n1, n2⟩ := rds_int h1 r2
  obtain ⟨A3, l3, c3, e3⟩ := rds_slVa hb r3
  obtain ⟨A4, l4, c4, e4⟩ := rds_slVa hk r4
  obtain ⟨A5, l5, c5, e5⟩ := rds_slVa hb r5
  rw [e3] at r3
  rw [e4] at r4
  rw [e5] at r5
  obtain ⟨B, hB, hr3⟩ := rds_bytes hb he hs ⟨f, r3⟩
  obtain ⟨K, hK, hr4⟩ := rds_bools hk hkb hsb ⟨f, r4⟩
  obtain ⟨U, hU, hr5⟩ := rds_bytes hb he hs ⟨f, r5⟩
  simp only [List.cons.injEq, and_true] at e1 e2 e3 e4 e5
  subst e1; subst e2; subst e3; subst e4; subst e5
  subst hB; subst hK; subst hU
  exact ⟨⟨k, n, _, _, _, B, K, U⟩, rfl, hr3, hr4, hr5, n1, n2⟩
theorem rds_act1 {W : World} {f : Nat} {cs : List Value} (h : Rds Try.prog W f 42 cs) : ∃ x : ACT, cs = actL x ∧ actOk W x := by
  cases f with
  | zero => exact h.elim
  | succ f =>
    unfold Rds at h
    simp only [Try.underlying42] at h
    obtain ⟨hl, h⟩ := h
    have hc : Try.prog.cellsOf 42 = 5 := by kernel_rfl
    have c1 : Try.prog.cellsOf 3 = 1 := by kernel_rfl
    have c2 : Try.prog.cellsOf 27 = 1 := by kernel_rfl
    have c3 : Try.prog.cellsOf 40 = 1 := by kernel_rfl
    have c4 : Try.prog.cellsOf 5 = 1 := by kernel_rfl
    have c5 : Try.prog.cellsOf 4 = 1 := by kernel_rfl
    rw [hc] at hl
    have ha := h _ (List.mem_cons_self ..)
    have hb := h _ (List.mem_cons_of_mem _ (List.mem_cons_self ..))
    have hd := h _ (List.mem_cons_of_mem _ (List.mem_cons_of_mem _ (List.mem_cons_self ..)))
    have he := h _ (List.mem_cons_of_mem _ (List.mem_cons_of_mem _ (List.mem_cons_of_mem _ (List.mem_cons_self ..))))
    have hg := h _ (List.mem_cons_of_mem _ (List.mem_cons_of_mem _ (List.mem_cons_of_mem _ (List.mem_cons_of_mem _ (List.mem_cons_self ..)))))
    simp only [c1, c2, c3] at ha hb hd he hg
    obtain ⟨x, y, z, u, v, rfl⟩ := list5 hl
    exact act_of Try.underlying3 Try.underlying27 Try.underlying5 c4 Try.underlying40 Try.underlying4 c5 ha hb hd he hg
theorem acts_flat {P : Program} {W : World} {f : Nat} {e : TypeId} (hone : ∀ ys, Rds P W f e ys → ∃ x : ACT, ys = actL x ∧ actOk W x) : ∀ Ls : List (List Value), (∀ ys ∈ Ls, ys.length = 5 ∧ Rds P W f e ys) → ∃ l : List ACT, l.length = Ls.length ∧ Ls.flatten = ACL l ∧ ∀ x ∈ l, actOk W x
  | [], _ => ⟨[], rfl, rfl, fun x hx => by cases hx⟩
  | y :: Ls, hh => by
    obtain ⟨l, e1, e2, e3⟩ := acts_flat hone Ls (fun z hz => hh z (List.mem_cons_of_mem _ hz))
    obtain ⟨q, rfl, hq⟩ := hone _ (hh y (List.mem_cons_self ..)).2
    refine ⟨q :: l, by simp [e1], by rw [List.flatten_cons, e2]; rfl, fun x hx => ?_⟩
    rcases List.mem_cons.1 hx with rfl | hx
    · exact hq
    · exact e3 x hx
theorem acts_of {P : Program} {W : World} {t e : TypeId} (hu : P.underlying t = some (.slice e)) (hc : P.cellsOf e = 5) (hone : ∀ f ys, Rds P W f e ys → ∃ x : ACT, ys = actL x ∧ actOk W x) {a : Option Addr} {len cap : Nat} (h : ∃ f, Rds P W f t [.slice a len cap]) : ∃ l : List ACT, RdW W (.slice a len cap) l.length (ACL l) ∧ ∀ x ∈ l, actOk W x := by
  obtain ⟨f, h⟩ := h
  cases f with
  | zero => exact h.elim
  | succ f =>
    obtain ⟨Ls, h1, h2, h3⟩ := rds_slice hu hc (by omega) h
    obtain ⟨l, e1, e2, e3⟩ := acts_flat (hone f) Ls h2
    refine ⟨l, ?_, e3⟩
    rw [e1, h1, ← e2]; exact h3
theorem rds_acts {W : World} {t : TypeId} (hu : Try.prog.underlying t = some (.slice 42)) {a : Option Addr} {len cap : Nat} (h : ∃ f, Rds Try.prog W f t [.slice a len cap]) : ∃ l : List ACT, RdW W (.slice a len cap) l.length (ACL l) ∧ ∀ x ∈ l, actOk W x := by
  have hc : Try.prog.cellsOf 42 = 5 := by kernel_rfl
  exact acts_of hu hc (fun f ys => rds_act1) h
end Go.Proofs.Ytmomlimhjnfadaa
