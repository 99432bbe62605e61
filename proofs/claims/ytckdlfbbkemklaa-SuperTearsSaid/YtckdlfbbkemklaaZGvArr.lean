import Derived.Test.YtckdlfbbkemklaaZA
/- An array's literal. -/
namespace Go.Gv
open Go Go.RowKit
set_option linter.unusedVariables false
set_option linter.unusedSimpArgs false
section
variable {P : Program} {w0 : World} {n : NT} {L : Slots} {H H' : List Atom} {Q : Exit → Act → World → Prop} {K : Act → World → Prop} {o : Oper} {d : Nat}
variable {ty : TypeId} {pos : String} {aft : Array Edge} {g : Option (Nat × Bool)}
theorem o_buildA {T e : TypeId} {m size : Nat} {z ys : List Value} {parts : List (Nat × Operand)} {vs : List (Nat × Value)} [ht : TArr P T m e size] [hz : TZero P T z] (hp : pev L parts vs) (hf : fillL (fun i => some (i * size, size)) z vs = some ys) (hn : Nat.blt d n = true)
    (k : Tri w0 K n ((d, .agg ys.toArray) :: L) H) : Tri w0 (OpG P ⟨some d, .build T parts.toArray, ty, pos, aft, g⟩ K Q) n L H :=
  Tri.val rfl hn _ (fun a w ha _ => by
    obtain ⟨zv, hzv, hzl⟩ := zero_run (P := P) (T := T) w
    have hfill := fill_fillL (fun i => some (i * size, size)) vs zv.cells ys (by rw [hzl]; simpa using hf)
    have hpm : (parts.toArray.map fun (p : Nat × Operand) => (p.1, a.eval p.2)).toList = vs := by
      simp only [List.map_toArray]; exact pev.map ha hp
    simp only [execOp, Instr.build, Sem.run_bind, hzv, Result.andThen_ok, run_underlying ht.ok, size_run ht.size, hpm, hfill, Sem.run_pure]) k
end
end Go.Gv
