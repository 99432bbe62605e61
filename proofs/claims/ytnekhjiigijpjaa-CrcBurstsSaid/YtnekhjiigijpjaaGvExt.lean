/- More rules for operations. -/
import Derived.Test.YtnekhjiigijpjaaGvTail
import Derived.Test.YtnekhjiigijpjaaGvEq
namespace Go.Gv
open Go Go.RowKit
set_option linter.unusedVariables false
set_option linter.unusedSimpArgs false

section
variable {P : Program} {w0 : World} {n : Nat} {L : Slots} {H H' : List Atom} {Q : Exit → Act → World → Prop} {K : Act → World → Prop} {o : Oper} {d : Nat}
variable {ty : TypeId} {pos : String} {aft : Array Edge} {g : Option (Nat × Bool)}

theorem o_min4 {ts : Array TypeId} {x y z u : Operand} {k1 k2 k3 k4 : IntKind} {i j p q : Int} (hx : ev L x = some (.int k1 i)) (hy : ev L y = some (.int k2 j)) (hz : ev L z = some (.int k3 p)) (hu : ev L u = some (.int k4 q)) (hn : Nat.blt d n = true) (hk : k1 = k2 ∧ k1 = k3 ∧ k1 = k4) (k : Tri w0 K n ((d, .int k1 (min (min (min i j) p) q)) :: L) H) :
    Tri w0 (OpG P ⟨some d, .call { callee := .builtin .min, args := #[x, y, z, u], argTypes := ts }, ty, pos, aft, g⟩ K Q) n L H :=
  Tri.val rfl hn _ (fun a w ha _ => by
    obtain ⟨e1, e2, e3⟩ := hk
    subst e1; subst e2; subst e3
    have e : ∀ a b : Int, (if b < a then b else a) = min a b := by
      intro a b
      split
      · rw [Int.min_eq_right (by omega)]
      · rw [Int.min_eq_left (by omega)]
    simp [execOp, resolve, invoke, builtin, ha.eval hx, ha.eval hy, ha.eval hz, ha.eval hu, Builtin.min_, Builtin.min2, e]) k

/-- an owned row, held as its block from here on -/
theorem Tri.unown {G : Act → World → Prop} {e : TypeId} {size m : Nat} {v : Value} {xs : List Value} (p : Pull H (own e size v m xs) H') (hm : 0 < m)
    (k : ∀ g cap rest, v = .slice (some ⟨g, 0, none⟩) m cap → m ≤ cap ∧ cap ≤ 9223372036854775807 → Tri w0 G n L (blk g e (xs ++ rest) :: H')) : Tri w0 G n L H := fun a w ha hw => by
  obtain ⟨he, s, h1, h2, h3⟩ := hw.pull p
  obtain ⟨g, cap, cur, e1, e2, e3, e4, e5, e6⟩ := own_blk h2 hm
  refine k g cap (cur.drop (m * size)) e1 ⟨e3, by unfold maxLen at e4; omega⟩ a w ha ⟨he, s, h1, ?_, h3⟩
  rw [← e6, List.take_append_drop]; exact e2

/-- a slice of a block, as it reads -/
theorem rdw_blk {b : Nat} {T : TypeId} {cur xs : List Value} {m cap : Nat} (p : Pull H (blk b T cur) H') (hc : m ≤ cap ∧ cap ≤ 9223372036854775807) (hx : cur.take xs.length = xs) : ∀ w, St w0 w H → RdW w (.slice (some ⟨b, 0, none⟩) m cap) m xs := fun w hw => by
  have hb := St.blk hw p
  refine ⟨_, cap, rfl, ⟨hc.1, by unfold maxLen; omega⟩, fun j u hu => ⟨_, rfl, cur.toArray, T, (0, 0), hb, by rw [Addr.add_lit], ?_⟩⟩
  rw [Addr.add_lit]
  have hj : j < xs.length := (List.getElem?_eq_some_iff.1 hu).1
  rw [← hx, List.getElem?_take, if_pos hj] at hu
  simpa using hu
end
end Go.Gv
