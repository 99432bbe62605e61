/- More rules for operations. -/
import Derived.Test.YtmomlimhjnfadaaGvTail
import Derived.Test.YtmomlimhjnfadaaGvEq
namespace Go.Gv
open Go Go.RowKit
set_option linter.unusedVariables false
set_option linter.unusedSimpArgs false

/-- the places of a struct's fields -/
def placesOf (P : Program) (T : TypeId) : Option (List (Nat × Nat)) :=
  match P.underlying T with
  | some (.struct fs) => if fs.toList.all (fun f => (P.info? f.type).isSome) = true then some (fs.toList.map fun f => (f.offset, P.cellsOf f.type)) else none
  | _ => none
class TPlaces (P : Program) (T : TypeId) (pl : outParam (List (Nat × Nat))) : Prop where
  ok : placesOf P T = some pl

theorem places_run {P : Program} {w : World} : ∀ fs : List Field, fs.all (fun f => (P.info? f.type).isSome) = true → (fs.mapM fun f => (do pure (f.offset, ← sizeOf f.type) : Sem (Nat × Nat))).run P w = .ok (fs.map fun f => (f.offset, P.cellsOf f.type)) w
  | [], _ => by simp
  | f :: fs, h => by
    simp only [List.all_cons, Bool.and_eq_true] at h
    simp only [List.mapM_cons, Sem.run_bind, info_cells h.1 w, Result.andThen_ok, Sem.run_pure, places_run fs h.2, List.map_cons]

section
variable {P : Program} {w0 : World} {n : NT} {L : Slots} {H H' : List Atom} {Q : Exit → Act → World → Prop} {K : Act → World → Prop} {o : Oper} {d : Nat}
variable {ty : TypeId} {pos : String} {aft : Array Edge} {g : Option (Nat × Bool)}

theorem o_min4 {ts : Array TypeId} {x y z u : Operand} {k1 k2 k3 k4 : IntKind} {i j p q : Int} (hx : ev L x = some (.int k1 i)) (hy : ev L y = some (.int k2 j)) (hz : ev L z = some (.int k3 p)) (hu : ev L u = some (.int k4 q)) (hn : Nat.blt d n = true) (hk : k1 = k2 ∧ k1 = k3 ∧ k1 = k4) (k : Tri w0 K n ((d, .int k1 (min (min (min i j) p) q)) :: L) H) :
    Tri w0 (OpG P ⟨some d, .call { callee := .builtin .min, args := #[x, y, z, u], argTypes := ts }, ty, pos, aft, g⟩ K Q) n L H :=
  Tri.val rfl hn _ (fun a w ha _ => by
    obtain ⟨e1, e2, e3⟩ := hk
    subst e1; subst e2; subst e3
    have e : ∀ a b : Int, (if b < a then b else a) = min a b := by
      intro a b
      split
      · rw [Int.min_eq_right (by omega)]
      · rw [Int.min_eq_left (by omega)]
    simp [execOp, resolve, invoke, builtin, ha.eval hx, ha.eval hy, ha.eval hz, ha.eval hu, Builtin.min_, Builtin.min2, e]) k

/-- an owned row, held as its block from here on -/
theorem Tri.unown {G : Act → World → Prop} {e : TypeId} {size m : Nat} {v : Value} {xs : List Value} (p : Pull H (own e size v m xs) H') (hm : 0 < m)
    (k : ∀ g cap rest, v = .slice (some ⟨g, 0, none⟩) m cap → m ≤ cap ∧ cap ≤ 9223372036854775807 → Tri w0 G n L (blk g e (xs ++ rest) :: H')) : Tri w0 G n L H := fun a w ha hw => by
  obtain ⟨he, s, h1, h2, h3⟩ := hw.pull p
  obtain ⟨g, cap, cur, e1, e2, e3, e4, e5, e6⟩ := own_blk h2 hm
  refine k g cap (cur.drop (m * size)) e1 ⟨e3, by unfold maxLen at e4; omega⟩ a w ha ⟨he, s, h1, ?_, h3⟩
  rw [← e6, List.take_append_drop]; exact e2

theorem Tri.ownNil {G : Act → World → Prop} (e : TypeId) (size : Nat) (k : Tri w0 G n L (own e size (.slice none 0 0) 0 [] :: H)) : Tri w0 G n L H := fun a w ha hw =>
  k a w ha ⟨hw.1, fun _ => False, fun _ h => h.elim, own_nil _ _ _, hw.2.mono (fun _ _ _ => ⟨trivial, fun h => h⟩)⟩

/-- a slice of a block, as it reads -/
theorem rdw_blk {b : Nat} {T : TypeId} {cur xs : List Value} {m cap : Nat} (p : Pull H (blk b T cur) H') (hc : m ≤ cap ∧ cap ≤ 9223372036854775807) (hx : cur.take xs.length = xs) : ∀ w, St w0 w H → RdW w (.slice (some ⟨b, 0, none⟩) m cap) m xs := fun w hw => by
  have hb := St.blk hw p
  refine ⟨_, cap, rfl, ⟨hc.1, by unfold maxLen; omega⟩, fun j u hu => ⟨_, rfl, cur.toArray, T, (0, 0), hb, by rw [Addr.add_lit], ?_⟩⟩
  rw [Addr.add_lit]
  have hj : j < xs.length := (List.getElem?_eq_some_iff.1 hu).1
  rw [← hx, List.getElem?_take, if_pos hj] at hu
  simpa using hu

/-- a struct's literal -/
theorem o_build {T : TypeId} {pl : List (Nat × Nat)} {z ys : List Value} {parts : List (Nat × Operand)} {vs : List (Nat × Value)} [ht : TPlaces P T pl] [hz : TZero P T z] (hp : pev L parts vs) (hf : fillL (fun i => pl[i]?) z vs = some ys) (hn : Nat.blt d n = true)
    (k : Tri w0 K n ((d, .agg ys.toArray) :: L) H) : Tri w0 (OpG P ⟨some d, .build T parts.toArray, ty, pos, aft, g⟩ K Q) n L H :=
  Tri.val rfl hn _ (fun a w ha _ => by
    obtain ⟨zv, hzv, hzl⟩ := zero_run (P := P) (T := T) w
    have ho := ht.ok
    unfold placesOf at ho
    cases hu : P.underlying T with
    | none => simp [hu] at ho
    | some dd =>
      cases dd <;> simp only [hu] at ho
      case struct fs =>
        split at ho
        · rename_i hall
          simp only [Option.some.injEq] at ho
          have hm : (fs.mapM fun f => (do pure (f.offset, ← sizeOf f.type) : Sem (Nat × Nat))).run P w = .ok pl.toArray w := by
            have : fs = fs.toList.toArray := rfl
            rw [this, List.mapM_toArray, Sem.run_map, places_run _ hall, ho]
            rfl
          have hfill := fill_fillL (fun i => pl.toArray[i]?) vs zv.cells ys (by rw [hzl]; simpa using hf)
          have hpm : (parts.toArray.map fun (p : Nat × Operand) => (p.1, a.eval p.2)).toList = vs := by
            simp only [List.map_toArray]; exact pev.map ha hp
          simp only [execOp, Instr.build, Sem.run_bind, hzv, Result.andThen_ok, run_underlying hu, hm, hpm, hfill, Sem.run_pure]
        · cases ho
      all_goals cases ho) k

theorem o_build0 {T : TypeId} {pl : List (Nat × Nat)} {z : List Value} [ht : TPlaces P T pl] [hz : TZero P T z] (hn : Nat.blt d n = true)
    (k : Tri w0 K n ((d, .agg z.toArray) :: L) H) : Tri w0 (OpG P ⟨some d, .build T #[], ty, pos, aft, g⟩ K Q) n L H := o_build (parts := []) (vs := []) pev.nil rfl hn k

/-- a place of an array's value -/
theorem o_index {T e : TypeId} {m : Nat} {x y : Operand} {cs : List Value} {ik : IntKind} {i : Int} {j : Nat} {v : Value} [hT : TArr P T m e 1] [hE : TPlain P e] (hx : ev L x = some (.agg cs.toArray)) (hy : ev L y = some (.int ik i)) (hj : i = (j : Int)) (hlt : j < m) (hv : cs[j]? = some v) (hn : Nat.blt d n = true) (k : Tri w0 K n ((d, v) :: L) H) :
    Tri w0 (OpG P ⟨some d, .index T x y, ty, pos, aft, g⟩ K Q) n L H :=
  Tri.val rfl hn _ (fun a w ha _ => by
    subst hj
    have h1 : (0 : Int) ≤ j ∧ (j : Int) < m := by omega
    simp [execOp, ha.eval hx, ha.eval hy, Instr.index, asIntOf, run_underlying hT.ok, hlt, size_run hT.size, part, plain_isAgg (P := P) (T := e) w, hv]) k
end
end Go.Gv
