/- Three operations that may come. -/
import Derived.Test.YtmomlimhjnfadaaGvMix2
namespace Go.Gv
open Go Go.RowKit
set_option linter.unusedVariables false

section
variable {P : Program} {w0 : World} {n : NT} {L : Slots} {Q : Exit → Act → World → Prop}
theorem TriM.a3 {ops : Array Oper} {Hs F : List Atom} {m : Nat} {ls : Array Bool} (i j l : Nat) {oi oj ol : Oper} (hoi : ops.toList[i]? = some oi) (hoj : ops.toList[j]? = some oj) (hok : ops.toList[l]? = some ol) (hgi : oi.guard = none) (hgj : oj.guard = none) (hgk : ol.guard = none) (hr : decide (Region.ready .any ops ls = [i, j, l]) = true)
    (hi : Tri w0 (OpG P oi (MixK P w0 ops Q Hs m (ls.setIfInBounds i true)) (fun _ _ _ => False)) n L (Hs ++ F))
    (hj : Tri w0 (OpG P oj (MixK P w0 ops Q Hs m (ls.setIfInBounds j true)) (fun _ _ _ => False)) n L (Hs ++ F))
    (hk : Tri w0 (OpG P ol (MixK P w0 ops Q Hs m (ls.setIfInBounds l true)) (fun _ _ _ => False)) n L (Hs ++ F)) : TriM P w0 ops Q Hs (m + 1) ls n L F := fun a ha => by
  have hr' := of_decide_eq_true hr
  refine ⟨fun h0 => (by rw [h0] at hr'; cases hr'), fun q hq => ?_⟩
  rw [hr'] at hq
  simp at hq
  rcases hq with rfl | rfl | rfl
  · exact mOp_of (by rw [← Array.getElem?_toList]; exact hoi) (by simp [Region.wanted, hgi]) ha hi
  · exact mOp_of (by rw [← Array.getElem?_toList]; exact hoj) (by simp [Region.wanted, hgj]) ha hj
  · exact mOp_of (by rw [← Array.getElem?_toList]; exact hok) (by simp [Region.wanted, hgk]) ha hk
end
end Go.Gv
