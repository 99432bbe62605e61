/- Rules for whole rows and literals. -/
import Derived.Test.YtmomlimhjnfadaaGvDraw
namespace Go.Gv
open Go Go.RowKit
set_option linter.unusedVariables false
set_option linter.unusedSimpArgs false

/-! 'fill' by lists -/
theorem set_run (cs : Array Value) (off : Nat) : ∀ (ys : List Value) (k : Nat), off + k + ys.length ≤ cs.size →
    ((ys.zipIdx k).foldl (fun cs (p : Value × Nat) => cs.setIfInBounds (off + p.2) p.1) cs).toList = cs.toList.take (off + k) ++ ys ++ cs.toList.drop (off + k + ys.length)
  | [], k, _ => by simp
  | y :: ys, k, h => by
    simp only [List.zipIdx_cons, List.foldl_cons]
    have hs : (cs.setIfInBounds (off + k) y).size = cs.size := by simp
    have ih := set_run (cs.setIfInBounds (off + k) y) off ys (k + 1) (by simp at h ⊢; omega)
    have key : (off + k) + 1 = off + (k + 1) := by omega
    rw [ih]
    simp only [Array.toList_setIfInBounds, List.length_cons] at h ⊢
    have hlt : off + k < cs.toList.length := by simp; omega
    rw [← key]
    apply List.ext_getElem?
    intro j
    simp only [List.append_assoc, List.getElem?_append, List.getElem?_take, List.getElem?_drop, List.length_take, List.length_set, List.getElem?_set, List.length_cons, List.getElem?_cons, Array.length_toList] at *
    have e1 : min (off + k + 1) cs.size = off + k + 1 := by omega
    have e2 : min (off + k) cs.size = off + k := by omega
    rw [e1, e2]
    by_cases h1 : j < off + k
    · simp [h1, show j < off + k + 1 by omega, show off + k ≠ j by omega]
    · by_cases h2 : j = off + k
      · subst h2; simp [hlt]
      · have h3 : ¬ j < off + k + 1 := by omega
        have h4 : j - (off + k) ≠ 0 := by omega
        have h5 : j - (off + k) - 1 = j - (off + k + 1) := by omega
        simp only [h1, h3, if_false, h4, h5]
        have e3 : (j - (off + k) < ys.length + 1) ↔ (j - (off + k + 1) < ys.length) := by omega
        by_cases h6 : j - (off + k + 1) < ys.length
        · simp [h6, e3.2 h6]
        · have h7 : ¬ j - (off + k) < ys.length + 1 := fun h => h6 (e3.1 h)
          have e4 : off + k + 1 + ys.length + (j - (off + k + 1) - ys.length) = off + k + (ys.length + 1) + (j - (off + k) - (ys.length + 1)) := by omega
          have e5 : off + k ≠ off + k + (ys.length + 1) + (j - (off + k) - (ys.length + 1)) := by omega
          simp [h6, h7, e4, e5]

def fillL (place : Nat → Option (Nat × Nat)) (cells : List Value) : List (Nat × Value) → Option (List Value)
  | [] => some cells
  | (i, v) :: rest =>
    match place i with
    | none => none
    | some (off, size) => bif Nat.beq v.cells.toList.length size && Nat.ble (off + size) cells.length then fillL place (cells.take off ++ v.cells.toList ++ cells.drop (off + size)) rest else none

theorem fill_fillL (place : Nat → Option (Nat × Nat)) : ∀ (parts : List (Nat × Value)) (cells : Array Value) (ys : List Value), fillL place cells.toList parts = some ys → Instr.fill place cells parts = some ys.toArray
  | [], cells, ys, h => by simp [fillL] at h; subst h; simp [Instr.fill]
  | (i, v) :: rest, cells, ys, h => by
    simp only [fillL] at h
    simp only [Instr.fill]
    cases hp : place i with
    | none => simp [hp] at h
    | some p =>
      obtain ⟨off, size⟩ := p
      simp only [hp] at h ⊢
      cases hc : Nat.beq v.cells.toList.length size && Nat.ble (off + size) cells.toList.length with
      | false => rw [hc] at h; cases h
      | true =>
        rw [hc] at h
        simp only [cond_true] at h
        simp only [Bool.and_eq_true, Nat.ble_eq] at hc
        have h1 := Nat.eq_of_beq_eq_true hc.1
        simp only [Array.length_toList] at h1 hc
        rw [if_neg (by simp only [Bool.or_eq_true, decide_eq_true_eq]; omega)]
        apply fill_fillL place rest _ ys
        have hr := set_run cells off v.cells.toList 0 (by simp; omega)
        simp only [Nat.add_zero, Array.length_toList, h1] at hr
        rw [← h]
        congr 1
        rw [← hr, ← Array.foldl_toList, Array.toList_zipIdx]

section
variable {P : Program} {w0 : World} {n : NT} {L : Slots} {H H' : List Atom} {Q : Exit → Act → World → Prop} {K : Act → World → Prop} {o : Oper} {d : Nat}
variable {ty : TypeId} {pos : String} {aft : Array Edge} {g : Option (Nat × Bool)}

theorem o_loadAll {T T' : TypeId} {sz : Nat} {x : Operand} {b : Nat} {cs : List Value} [TAgg P T sz] (hx : ev L x = some (.pointer (some ⟨b, 0, none⟩))) (p : Pull H (blk b T' cs) H') (hl : cs.length = sz) (hn : Nat.blt d n = true) (k : Tri w0 K n ((d, .agg cs.toArray) :: L) H) :
    Tri w0 (OpG P ⟨some d, .load T x, ty, pos, aft, g⟩ K Q) n L H :=
  o_loadAgg hx p (by rw [List.drop_zero, ← hl, List.take_length]) hl hn k
theorem o_storeAll {T T' : TypeId} {sz : Nat} {x y : Operand} {b : Nat} {cs ys : List Value} [TAgg P T sz] (hx : ev L x = some (.pointer (some ⟨b, 0, none⟩))) (hy : ev L y = some (.agg ys.toArray)) (p : Pull H (blk b T' cs) H') (hl : ys.length = sz) (hc : cs.length = sz) (h1 : ∀ v ∈ ys, v.oneCell' = true) (k : Tri w0 K n L (blk b T' ys :: H')) :
    Tri w0 (OpG P ⟨none, .store T x y, ty, pos, aft, g⟩ K Q) n L H :=
  o_storeAgg hx hy hl h1 p (by omega) (by rw [List.take_zero, List.nil_append, Nat.zero_add, ← hc, List.drop_length, List.append_nil]; exact k)

/-- parts of a literal -/
def pev (L : Slots) : List (Nat × Operand) → List (Nat × Value) → Prop
  | [], [] => True
  | (i, x) :: xs, (j, v) :: vs => (i = j ∧ ev L x = some v) ∧ pev L xs vs
  | _, _ => False
theorem pev.nil : pev L [] [] := trivial
theorem pev.cons {i : Nat} {x : Operand} {v : Value} {xs : List (Nat × Operand)} {vs : List (Nat × Value)} (a : ev L x = some v) (b : pev L xs vs) : pev L ((i, x) :: xs) ((i, v) :: vs) := ⟨⟨rfl, a⟩, b⟩
theorem pev.map {a : Act} (ha : Has a n L) : ∀ {xs : List (Nat × Operand)} {vs : List (Nat × Value)}, pev L xs vs → xs.map (fun p => (p.1, a.eval p.2)) = vs
  | [], [], _ => rfl
  | (i, x) :: _, (j, v) :: _, h => by
    obtain ⟨⟨rfl, h1⟩, h2⟩ := h
    simp only [List.map_cons, ha.eval h1, pev.map ha h2]
  | [], _ :: _, h => h.elim
  | _ :: _, [], h => h.elim

theorem evs.nil : evs L [] [] := trivial
theorem evs.cons {x : Operand} {v : Value} {xs : List Operand} {vs : List Value} (a : ev L x = some v) (b : evs L xs vs) : evs L (x :: xs) (v :: vs) := ⟨a, b⟩

/-- a slice's literal -/
theorem o_litSl {t e : TypeId} {size bytes m : Nat} {z ys : List Value} {parts : List (Nat × Operand)} {vs : List (Nat × Value)} [ht : TSlice P t e] [he : TElem P e size bytes z] (hp : pev L parts vs) (hm : Nat.ble (m * size) 16777216 = true) (hf : fillL (fun i => some (i * size, size)) (List.replicate m z).flatten vs = some ys) (hn : Nat.blt d n = true)
    (k : ∀ v, Tri w0 K n ((d, v) :: L) (own e size v m ys :: H)) :
    Tri w0 (OpG P ⟨some d, .buildSlice t m parts.toArray, ty, pos, aft, g⟩ K Q) n L H :=
  Tri.valW rfl hn (fun a w ha hw => by
    obtain ⟨i0, z0, hi0, hz, hsz, hby, hzz, hzs, p1, p2, p4⟩ := he.get
    have hm' : ¬ 16777216 < m * size := by have := Nat.le_of_ble_eq_true hm; omega
    have hzr : (zeroValue e).run P w = .ok z0 w := by simp [zeroValue, typeInfo, hi0, hz]
    have hsr : (sizeOf e).run P w = .ok size w := by simp [sizeOf, typeInfo, hi0, hsz]
    have hzl : z.length = size := by rw [← hzz, Array.length_toList, hzs]
    have hbase : ∀ (zc : Array Value), (0 < m → zc = z0.cells) → (((Array.range (m * size)).map (fun i => zc[i % zc.size]!)).toList = (List.replicate m z).flatten) := by
      intro zc hzc
      rcases Nat.eq_zero_or_pos m with h0 | hpos
      · subst h0; simp
      · rw [hzc hpos]
        apply List.ext_getElem?
        intro j
        have hlen : (List.replicate m z).flatten.length = m * size := by simp [hzl]
        by_cases hj : j < m * size
        · have hjm : j % size < size := Nat.mod_lt _ p1
          have hfl : (List.replicate m z).flatten[j]? = z[j % size]? := by
            have key : ∀ (m j : Nat), j < m * size → (List.replicate m z).flatten[j]? = z[j % size]? := by
              intro m
              induction m with
              | zero => intro j hj; simp at hj
              | succ m ih =>
                intro j hj
                rw [List.replicate_succ, List.flatten_cons, List.getElem?_append]
                by_cases hjs : j < size
                · rw [if_pos (by omega), Nat.mod_eq_of_lt hjs]
                · rw [if_neg (by omega), hzl, ih (j - size) (by rw [Nat.succ_mul] at hj; omega)]
                  rw [← Nat.mod_eq_sub_mod (by omega)]
            exact key m j hj
          rw [hfl]
          simp only [Array.toList_map, Array.toList_range, List.getElem?_map, List.getElem?_range hj, Option.map_some, hzs]
          rw [← hzz, Array.getElem?_toList, Array.getElem?_eq_getElem (by omega)]
          congr 1
          exact getElem!_pos z0.cells (j % size) (by omega)
        · rw [List.getElem?_eq_none (by simp; omega), List.getElem?_eq_none (by omega)]
    have hlen : ys.length = m * size := by
      have key : ∀ (vs : List (Nat × Value)) (cells ys : List Value), fillL (fun i => some (i * size, size)) cells vs = some ys → ys.length = cells.length := by
        intro vs
        induction vs with
        | nil => intro cells ys h; simp [fillL] at h; rw [h]
        | cons p vs ih =>
          obtain ⟨i, v⟩ := p
          intro cells ys h
          simp only [fillL] at h
          cases hc : Nat.beq v.cells.toList.length size && Nat.ble (i * size + size) cells.length with
          | false => rw [hc] at h; cases h
          | true =>
            rw [hc] at h
            have := ih _ _ h
            simp only [Bool.and_eq_true, Nat.ble_eq] at hc
            have h1 := Nat.eq_of_beq_eq_true hc.1
            rw [this]
            simp only [List.length_append, List.length_take, List.length_drop] at *
            omega
      have := key vs _ _ hf
      rw [this]; simp [hzl]
    refine ⟨.slice (some ⟨w.heap.size, 0, none⟩) m m, w.alloc (.cells ys.toArray e), ?_, fun a' ha' => k _ a' _ ha' (hw.alloc _ _ (fun h hh => own_of_blk hlen ?_ h hh))⟩
    · have hmap : (parts.toArray.map fun (i, x) => (i, a.eval x)).toList = vs := by
        rw [← pev.map ha hp]; simp
      have hfill : ∀ (zc : Array Value), (0 < m → zc = z0.cells) → Instr.fill (fun i => some (i * size, size)) ((Array.range (m * size)).map (fun i => zc[i % zc.size]!)) (parts.toArray.map fun (i, x) => (i, a.eval x)).toList = some ys.toArray := by
        intro zc hzc
        rw [hmap]
        exact fill_fillL _ _ _ _ (by rw [hbase zc hzc]; exact hf)
      have hrun : (Instr.buildSlice t m (parts.toArray.map fun (i, x) => (i, a.eval x))).run P w = .ok (.slice (some ⟨w.heap.size, 0, none⟩) m m) (w.alloc (.cells ys.toArray e)) := by
        unfold Instr.buildSlice
        rcases Nat.eq_zero_or_pos m with h0 | hpos
        · subst h0
          have h2 := hfill #[] (fun h => absurd h (by omega))
          simp only [Nat.zero_mul] at h2 hm' ⊢
          simp [run_underlying ht.ok, hsr, hm']
          rw [show Instr.fill (fun i => some (i * size, size)) (Array.map (fun x => default) (Array.range 0)) (parts.map fun x => (x.1, a.eval x.2)) = some ys.toArray by simpa using h2]
          simp [newRow, newObj]; rfl
        · have h2 := hfill z0.cells (fun _ => rfl)
          have hne : ¬ (m * size = 0) := by have := Nat.mul_pos hpos p1; omega
          have hne' : ¬ (m = 0 ∨ size = 0) := by omega
          simp [run_underlying ht.ok, hsr, hm', hne', hzr]
          rw [show Instr.fill (fun i => some (i * size, size)) ((Array.range (m * size)).map (fun i => z0.cells[i % z0.cells.size]!)) (parts.map fun x => (x.1, a.eval x.2)) = some ys.toArray by simpa using h2]
          simp only [newRow, newObj, if_neg hne]
          simp; rfl
      simp only [execOp, Sem.run_bind, hrun, Result.andThen_ok, Sem.run_pure]
    · have h1 := Nat.le_of_ble_eq_true hm
      have : m * 1 ≤ m * size := Nat.mul_le_mul_left _ p1
      omega)
end
end Go.Gv
