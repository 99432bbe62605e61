/- More rules for operations. -/
import Derived.Test.YtnekhjiigijpjaaGvTail
import Derived.Test.YtnekhjiigijpjaaGvEq
namespace Go.Gv
open Go Go.RowKit
set_option linter.unusedVariables false
set_option linter.unusedSimpArgs false

section
variable {P : Program} {w0 : World} {n : Nat} {L : Slots} {H H' : List Atom} {Q : Exit → Act → World → Prop} {K : Act → World → Prop} {o : Oper} {d : Nat}
variable {ty : TypeId} {pos : String} {aft : Array Edge} {g : Option (Nat × Bool)}

theorem o_min4 {ts : Array TypeId} {x y z u : Operand} {k1 k2 k3 k4 : IntKind} {i j p q : Int} (hx : ev L x = some (.int k1 i)) (hy : ev L y = some (.int k2 j)) (hz : ev L z = some (.int k3 p)) (hu : ev L u = some (.int k4 q)) (hn : Nat.blt d n = true) (hk : k1 = k2 ∧ k1 = k3 ∧ k1 = k4) (k : Tri w0 K n ((d, .int k1 (min (min (min i j) p) q)) :: L) H) :
    Tri w0 (OpG P ⟨some d, .call { callee := .builtin .min, args := #[x, y, z, u], argTypes := ts }, ty, pos, aft, g⟩ K Q) n L H :=
  Tri.val rfl hn _ (fun a w ha _ => by
    obtain ⟨e1, e2, e3⟩ := hk
    subst e1; subst e2; subst e3
    have e : ∀ a b : Int, (if b < a then b else a) = min a b := by
      intro a b
      split
      · rw [Int.min_eq_right (by omega)]
      · rw [Int.min_eq_left (by omega)]
    simp [execOp, resolve, invoke, builtin, ha.eval hx, ha.eval hy, ha.eval hz, ha.eval hu, Builtin.min_, Builtin.min2, e]) k
end
end Go.Gv
