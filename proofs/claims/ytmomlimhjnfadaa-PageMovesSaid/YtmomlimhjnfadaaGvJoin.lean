/- Two parts of memory as one. -/
import Derived.Test.YtmomlimhjnfadaaGvMix2
namespace Go.Gv
open Go Go.RowKit
set_option linter.unusedVariables false

section
variable {P : Program} {w0 : World} {n : NT} {L : Slots} {H H1 H2 : List Atom} {G : Act → World → Prop}
theorem Tri.merge {A B C : Atom} (pA : Pull H A H1) (pB : Pull H1 B H2)
    (hC : ∀ (w : World) (s1 s2 : Nat → Prop), (∀ b, s1 b → s2 b → False) → A (res w s1) → B (res w s2) → C (res w (fun b => s1 b ∨ s2 b)))
    (k : Tri w0 G n L (C :: H2)) : Tri w0 G n L H := fun a w ha hw => by
  obtain ⟨he, s1, h1, h2, h3⟩ := hw.pull pA
  obtain ⟨s2, g1, g2, g3⟩ := Sat.pull pB h3
  refine k a w ha ⟨he, fun b => s1 b ∨ s2 b, fun b hb => ⟨trivial, hb.elim (fun h => (h1 b h).2) (fun h => (g1 b h).2)⟩, hC w s1 s2 (fun b x y => (g1 b y).1.2 x) h2 g2, g3.mono (fun b _ hb => ⟨trivial, fun h => h.elim (fun x => hb.1.2 x) (fun y => hb.2 y)⟩)⟩
/-- an atom that needs no memory, out of nothing -/
theorem Tri.pure_ {A : Atom} (hA : ∀ h, A h) (k : Tri w0 G n L (A :: H)) : Tri w0 G n L H := fun a w ha hw =>
  k a w ha ⟨hw.1, fun _ => False, fun _ h => h.elim, hA _, hw.2.mono (fun _ _ _ => ⟨trivial, fun h => h⟩)⟩
/-- the texts of many slices, read only -/
def manyRd (l : List (Value × Nat × List Value)) : Atom := fun h => ∀ x ∈ l, Rd h x.1 x.2.1 x.2.2
theorem manyRd_nil (h : PH) : manyRd [] h := fun x hx => by simp at hx
theorem manyRd_add {l : List (Value × Nat × List Value)} {v : Value} {m : Nat} {xs : List Value} (w : World) (s1 s2 : Nat → Prop) (h1 : manyRd l (res w s1)) (h2 : Rd (res w s2) v m xs) : manyRd (l ++ [(v, m, xs)]) (res w (fun b => s1 b ∨ s2 b)) := by
  have up1 : ∀ b o, res w s1 b = some o → res w (fun b => s1 b ∨ s2 b) b = some o := fun b o h => by
    have := res_some h
    unfold res; rw [if_pos (.inl this.1)]; exact this.2
  have up2 : ∀ b o, res w s2 b = some o → res w (fun b => s1 b ∨ s2 b) b = some o := fun b o h => by
    have := res_some h
    unfold res; rw [if_pos (.inr this.1)]; exact this.2
  intro x hx
  rcases List.mem_append.1 hx with hx | hx
  · exact (h1 x hx).mono up1
  · simp at hx
    subst hx
    exact h2.mono up2
theorem rdw_many {l : List (Value × Nat × List Value)} {v : Value} {m : Nat} {xs : List Value} (p : Pull H (manyRd l) H1) (hx : (v, m, xs) ∈ l) : ∀ w, St w0 w H → RdW w v m xs := fun w hw => by
  obtain ⟨s, hA⟩ := (hw.pull p).2.head
  exact (hA _ hx).mono res_hp
end
end Go.Gv
