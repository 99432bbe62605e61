/- Where ways meet again: the code behind a branch is walked once. -/
import Derived.Test.YtmomlimhjnfadaaGvMix2
namespace Go.Gv
open Go Go.RowKit
set_option linter.unusedVariables false

section
variable {P : Program} {w0 : World} {n : NT} {L : Slots} {H R : List Atom} {Q : Exit → Act → World → Prop}
theorem Tri.wpMono {c : Code} {Q1 Q2 : Exit → Act → World → Prop} (hQ : ∀ e a w, Q1 e a w → Q2 e a w) (h : Tri w0 (c.wp P Q1) n L H) : Tri w0 (c.wp P Q2) n L H := fun a w ha hw => by
  intro b kk cs
  obtain ⟨e, a1, w1, hq, harr⟩ := h a w ha hw b kk cs
  exact ⟨e, a1, w1, hQ _ _ _ hq, harr⟩
theorem Tri.seqMeet {α : Type} {c d : Code} (Lx : α → Slots) (Hx : α → List Atom)
    (h : Tri w0 (c.wp P (Exit.then (fun a w => ∃ y, Has a n (Lx y) ∧ St w0 w (Hx y)) Q)) n L H)
    (k : ∀ y, Tri w0 (d.wp P Q) n (Lx y) (Hx y)) : Tri w0 ((Code.seq c d).wp P Q) n L H :=
  Tri.seq (Tri.wpMono (fun e a w hq => by
    cases e with
    | normal => obtain ⟨y, h1, h2⟩ := hq; exact k y a w h1 h2
    | _ => exact hq) h)
theorem Tri.reach {α : Type} {Lx : α → Slots} {Hx : α → List Atom} (y : α) (hL : SubL L (Lx y)) (p : Pulls H (Hx y) R) : Tri w0 (fun a w => ∃ y, Has a n (Lx y) ∧ St w0 w (Hx y)) n L H := fun a w ha hw =>
  ⟨y, ha.sub hL, (hw.pulls p).1, Sat.left (hw.pulls p).2⟩
end
end Go.Gv
