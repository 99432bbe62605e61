/- '==' of aggregates whose cells are whole numbers, truths and texts. -/
import Derived.Test.YtmomlimhjnfadaaGvData
import Derived.ChangeKeysEq
namespace Go.Gv
open Go Go.RowKit
set_option linter.unusedVariables false
set_option linter.unusedSimpArgs false

def alk1 : Value → Value → Bool
  | .int k _, .int k' _ => decide (k = k')
  | .bool _, .bool _ => true
  | .string _, .string _ => true
  | _, _ => false
def Alk : List Value → List Value → Prop
  | [], [] => True
  | x :: xs, y :: ys => alk1 x y = true ∧ Alk xs ys
  | _, _ => False
theorem Alk.length : ∀ {xs ys : List Value}, Alk xs ys → xs.length = ys.length
  | [], [], _ => rfl
  | _ :: _, _ :: _, h => by simp [Alk.length h.2]
  | [], _ :: _, h => h.elim
  | _ :: _, [], h => h.elim
theorem Alk.drop : ∀ {xs ys : List Value} (k : Nat), Alk xs ys → Alk (xs.drop k) (ys.drop k)
  | _, _, 0, h => by simpa using h
  | [], [], _ + 1, h => by simp [Alk]
  | _ :: _, _ :: _, k + 1, h => by simpa using Alk.drop k h.2
  | [], _ :: _, _, h => h.elim
  | _ :: _, [], _, h => h.elim
theorem Alk.take : ∀ {xs ys : List Value} (k : Nat), Alk xs ys → Alk (xs.take k) (ys.take k)
  | _, _, 0, h => by simp [Alk]
  | [], [], _ + 1, h => by simp [Alk]
  | _ :: _, _ :: _, k + 1, h => ⟨h.1, Alk.take k h.2⟩
  | [], _ :: _, _, h => h.elim
  | _ :: _, [], _, h => h.elim
theorem Alk.map {α : Type} {f g : α → Value} (h : ∀ x, alk1 (f x) (g x) = true) : ∀ l : List α, Alk (l.map f) (l.map g)
  | [] => trivial
  | x :: l => ⟨h x, Alk.map h l⟩
theorem Alk.maps {α : Type} {f : α → Value} (h : ∀ x y, alk1 (f x) (f y) = true) : ∀ l l' : List α, l.length = l'.length → Alk (l.map f) (l'.map f)
  | [], [], _ => trivial
  | x :: l, y :: l', e => ⟨h x y, Alk.maps h l l' (by simpa using e)⟩
  | [], _ :: _, e => by simp at e
  | _ :: _, [], e => by simp at e
theorem Alk.rep {α : Type} {z : Value} {f : α → Value} (h : ∀ x, alk1 z (f x) = true) : ∀ (n : Nat) (l : List α), l.length = n → Alk (List.replicate n z) (l.map f)
  | 0, [], _ => trivial
  | n + 1, x :: l, e => ⟨h x, Alk.rep h n l (by simpa using e)⟩
  | 0, _ :: _, e => by simp at e
  | _ + 1, [], e => by simp at e
theorem Alk.append : ∀ {a b c d : List Value}, Alk a b → Alk c d → Alk (a ++ c) (b ++ d)
  | [], [], _, _, _, h => h
  | _ :: _, _ :: _, _, _, h, k => ⟨h.1, Alk.append h.2 k⟩
  | [], _ :: _, _, _, h, _ => h.elim
  | _ :: _, [], _, _, h, _ => h.elim

/-- may such a type be compared; samples of its cells -/
def eqFs (P : Program) (f : TypeId → Option (List Value)) : List Field → Nat → Option (List Value)
  | [], k => some []
  | x :: fs, k => match f x.type with
    | none => none
    | some s => if x.offset = k ∧ P.cellsOf x.type = s.length ∧ (P.info? x.type).isSome = true ∧ (x.name == "_") = false then (match eqFs P f fs (k + s.length) with | none => none | some r => some (s ++ r)) else none
def eqOk (P : Program) : Nat → TypeId → Option (List Value)
  | 0, _ => none
  | m + 1, t => match P.underlying t with
    | some .bool => some [.bool false]
    | some (.int k) => some [.int k 0]
    | some .string => some [.string ⟨#[]⟩]
    | some (.array n e) => match eqOk P m e with
      | none => none
      | some s => if P.cellsOf e = s.length ∧ (P.info? e).isSome = true then some (List.replicate n s).flatten else none
    | some (.struct fs) => if P.stoodInHeld t = true then none else eqFs P (eqOk P m) fs.toList 0
    | _ => none

/-- a value of cells -/
def mkv (P : Program) (t : TypeId) (xs : List Value) : Value :=
  match P.underlying t with
  | some (.array _ _) => .agg xs.toArray
  | some (.struct _) => .agg xs.toArray
  | _ => xs.headD undef

theorem info_cells {P : Program} {e : TypeId} (h : (P.info? e).isSome = true) (w : World) : (sizeOf e).run P w = .ok (P.cellsOf e) w := by
  cases hi : P.info? e with
  | none => simp [hi] at h
  | some i => exact run_sizeOf w hi

theorem part_mkv {P : Program} {m : Nat} {e : TypeId} {s : List Value} (he : eqOk P m e = some s) (hc : P.cellsOf e = s.length) (hi : (P.info? e).isSome = true) (w : World) (xs : List Value) (off : Nat) (hl : off + s.length ≤ xs.length) :
    (part e xs.toArray off).run P w = .ok (mkv P e ((xs.drop off).take s.length)) w := by
  have hs := info_cells hi w
  have agg : ∀ d, P.underlying e = some d → (match d with | .array _ _ => True | .struct _ => True | _ => False) → (part e xs.toArray off).run P w = .ok (mkv P e ((xs.drop off).take s.length)) w := by
    intro d hu hd
    have hv : (xs.toArray.extract off (off + s.length)) = ((xs.drop off).take s.length).toArray := by
      apply Array.toList_inj.1
      simp [List.extract]
    cases d <;> simp at hd <;> simp only [part, isAgg, run_underlying hu, hs, hc, mkv, hu, hv, Sem.run_bind, Result.andThen_ok, Sem.run_pure, if_true]
  have one : s.length = 1 → ∀ d, P.underlying e = some d → (match d with | .bool => True | .int _ => True | .string => True | _ => False) → (part e xs.toArray off).run P w = .ok (mkv P e ((xs.drop off).take s.length)) w := by
    intro h1 d hu hd
    rw [h1] at hl ⊢
    have hlt : off < xs.length := by omega
    have e1 : ((xs.drop off).take 1).headD undef = xs[off] := by
      rw [List.drop_eq_getElem_cons hlt]; rfl
    have e2 : xs.toArray[off]? = some xs[off] := by simp [hlt]
    cases d <;> simp at hd <;> simp only [part, isAgg, run_underlying hu, mkv, hu, e1, e2, Sem.run_bind, Result.andThen_ok, Sem.run_pure, Bool.false_eq_true, if_false]
  cases m with
  | zero => simp [eqOk] at he
  | succ m =>
    unfold eqOk at he
    cases hu : P.underlying e with
    | none => simp [hu] at he
    | some d =>
      cases d with
      | bool => simp [hu] at he; exact one (by rw [← he]; rfl) _ hu trivial
      | int k => simp [hu] at he; exact one (by rw [← he]; rfl) _ hu trivial
      | string => simp [hu] at he; exact one (by rw [← he]; rfl) _ hu trivial
      | array n e' => exact agg _ hu trivial
      | struct fs => exact agg _ hu trivial
      | _ => simp [hu] at he

/-- the answer of a comparison -/
def EqR (P : Program) (d : Nat) (t : TypeId) (z : List Value) : Prop := ∀ (w : World) (xs ys : List Value), Alk z xs → Alk z ys → ∃ r : Bool, (Op.equalIn d t (mkv P t xs) (mkv P t ys)).run P w = .ok r w ∧ (r = true ↔ xs = ys)

theorem eq_split {xs ys : List Value} (k : Nat) : xs = ys ↔ xs.take k = ys.take k ∧ xs.drop k = ys.drop k :=
  ⟨fun e => by rw [e]; exact ⟨rfl, rfl⟩, fun ⟨h1, h2⟩ => by rw [← List.take_append_drop k xs, ← List.take_append_drop k ys, h1, h2]⟩

theorem Alk.split {a b xs : List Value} (h : Alk (a ++ b) xs) : Alk a (xs.take a.length) ∧ Alk b (xs.drop a.length) := by
  have h1 := Alk.take a.length h
  have h2 := Alk.drop a.length h
  rw [List.take_left] at h1
  rw [List.drop_left] at h2
  exact ⟨h1, h2⟩

theorem items_run {P : Program} {d m : Nat} {e : TypeId} {s : List Value} (he : eqOk P m e = some s) (hc : P.cellsOf e = s.length) (hi : (P.info? e).isSome = true) (ih : EqR P d e s) (w : World) :
    ∀ (n k : Nat) (xs ys : List Value), Alk (List.replicate n s).flatten (xs.drop (k * s.length)) → Alk (List.replicate n s).flatten (ys.drop (k * s.length)) → (n = 0 ∨ k * s.length ≤ xs.length ∧ k * s.length ≤ ys.length) → ∃ r : Bool, (Op.eqItems d e (P.cellsOf e) xs.toArray ys.toArray (List.range' k n)).run P w = .ok r w ∧ (r = true ↔ xs.drop (k * s.length) = ys.drop (k * s.length))
  | 0, k, xs, ys, hx, hy, _ => by
    refine ⟨true, by simp [Op.eqItems], ?_⟩
    have h1 := hx.length
    have h2 := hy.length
    simp only [List.replicate_zero, List.flatten_nil, List.length_nil] at h1 h2
    rw [List.eq_nil_of_length_eq_zero h1.symm, List.eq_nil_of_length_eq_zero h2.symm]
    simp
  | n + 1, k, xs, ys, hx, hy, hk => by
    have hx1 := hx.length
    have hy1 := hy.length
    rw [List.replicate_succ, List.flatten_cons] at hx hy
    rw [List.replicate_succ, List.flatten_cons, List.length_append, List.length_drop] at hx1 hy1
    have e1 : k * s.length + s.length = (k + 1) * s.length := by rw [Nat.add_mul]; omega
    obtain ⟨hx2, hx3⟩ := hx.split
    obtain ⟨hy2, hy3⟩ := hy.split
    rw [List.drop_drop, e1] at hx3 hy3
    have hk2 : k * s.length ≤ xs.length ∧ k * s.length ≤ ys.length := hk.resolve_left (by omega)
    obtain ⟨r, hr, hq⟩ := ih w _ _ hx2 hy2
    obtain ⟨r', hr', hq'⟩ := items_run he hc hi ih w n (k + 1) xs ys hx3 hy3 (.inr (by rw [← e1]; omega))
    have hp1 := part_mkv he hc hi w xs (k * s.length) (by omega)
    have hp2 := part_mkv he hc hi w ys (k * s.length) (by omega)
    have hsp := eq_split (xs := xs.drop (k * s.length)) (ys := ys.drop (k * s.length)) s.length
    rw [List.drop_drop, List.drop_drop, e1] at hsp
    rw [List.range'_succ]
    simp only [Op.eqItems, Sem.run_bind, hc, hp1, hp2, hr, Result.andThen_ok]
    cases r with
    | false => exact ⟨false, by simp, by rw [hsp, ← hq]; simp⟩
    | true =>
      rw [hc] at hr'
      exact ⟨r', by simpa using hr', by rw [hsp, ← hq, hq']; simp⟩

theorem fields_run {P : Program} {d m : Nat} (w : World) (ih : ∀ e s, eqOk P m e = some s → EqR P d e s) : ∀ (fs : List Field) (k : Nat) (z : List Value), eqFs P (eqOk P m) fs k = some z → ∀ (xs ys : List Value), k ≤ xs.length → k ≤ ys.length → Alk z (xs.drop k) → Alk z (ys.drop k) →
    ∃ r : Bool, (Op.eqFields d xs.toArray ys.toArray fs).run P w = .ok r w ∧ (r = true ↔ xs.drop k = ys.drop k)
  | [], k, z, h, xs, ys, _, _, hx, hy => by
    simp [eqFs] at h
    subst h
    have h1 := hx.length
    have h2 := hy.length
    refine ⟨true, by simp [Op.eqFields], ?_⟩
    rw [List.eq_nil_of_length_eq_zero h1.symm, List.eq_nil_of_length_eq_zero h2.symm]
    simp
  | f :: fs, k, z, h, xs, ys, hkx, hky, hx, hy => by
    unfold eqFs at h
    cases hf : eqOk P m f.type with
    | none => simp [hf] at h
    | some s =>
      simp only [hf] at h
      split at h
      · rename_i hh
        obtain ⟨ho, hc, hi, hn⟩ := hh
        cases hz : eqFs P (eqOk P m) fs (k + s.length) with
        | none => simp [hz] at h
        | some z' =>
          simp only [hz, Option.some.injEq] at h
          subst h
          have hx1 := hx.length
          have hy1 := hy.length
          rw [List.length_append, List.length_drop] at hx1 hy1
          obtain ⟨hx2, hx3⟩ := hx.split
          obtain ⟨hy2, hy3⟩ := hy.split
          rw [List.drop_drop] at hx3 hy3
          obtain ⟨r', hr', hq'⟩ := fields_run w ih fs (k + s.length) z' hz xs ys (by omega) (by omega) hx3 hy3
          obtain ⟨r, hr, hq⟩ := ih f.type s hf w _ _ hx2 hy2
          have hp1 := part_mkv hf hc hi w xs k (by omega)
          have hp2 := part_mkv hf hc hi w ys k (by omega)
          have hsp := eq_split (xs := xs.drop k) (ys := ys.drop k) s.length
          rw [List.drop_drop, List.drop_drop] at hsp
          have hn' : f.name ≠ "_" := by simpa using hn
          simp only [Op.eqFields, if_pos hn', Sem.run_bind, ho, hp1, hp2, hr, Result.andThen_ok]
          cases r with
          | false => exact ⟨false, by simp, by rw [hsp, ← hq]; simp⟩
          | true => exact ⟨r', by simpa using hr', by rw [hsp, ← hq, hq']; simp⟩
      · cases h

theorem one_run {P : Program} {d : Nat} {t : TypeId} {z : Value} (w : World) (hm : ∀ xs : List Value, mkv P t xs = xs.headD undef) (h : ∀ x y, alk1 z x = true → alk1 z y = true → ∃ r : Bool, (Op.equalIn d t x y).run P w = .ok r w ∧ (r = true ↔ x = y)) (xs ys : List Value) (hx : Alk [z] xs) (hy : Alk [z] ys) :
    ∃ r : Bool, (Op.equalIn d t (mkv P t xs) (mkv P t ys)).run P w = .ok r w ∧ (r = true ↔ xs = ys) := by
  match xs, ys, hx, hy with
  | [x], [y], hx, hy =>
    obtain ⟨r, h1, h2⟩ := h x y hx.1 hy.1
    exact ⟨r, by simpa [hm] using h1, by simpa using h2⟩

theorem eqOk_run {P : Program} : ∀ (m : Nat) (t : TypeId) (s : List Value), eqOk P m t = some s → ∀ d, m ≤ d → EqR P d t s
  | 0, _, _, h, _, _ => by simp [eqOk] at h
  | m + 1, t, s, h, 0, hd => by omega
  | m + 1, t, s, h, d + 1, hd => by
    intro w xs ys hx hy
    have IH := fun e s' (he : eqOk P m e = some s') => eqOk_run m e s' he d (by omega)
    unfold eqOk at h
    cases hu : P.underlying t with
    | none => simp [hu] at h
    | some k =>
      cases k with
      | bool =>
        simp [hu] at h
        subst h
        refine one_run w (fun _ => by simp only [mkv, hu]) (fun x y hx hy => ?_) xs ys hx hy
        cases x <;> simp [alk1] at hx
        cases y <;> simp [alk1] at hy
        rename_i a b
        exact ⟨a == b, run_equalIn_bool' w d t a b hu, by simp⟩
      | int ik =>
        simp [hu] at h
        subst h
        refine one_run w (fun _ => by simp only [mkv, hu]) (fun x y hx hy => ?_) xs ys hx hy
        cases x <;> simp [alk1] at hx
        cases y <;> simp [alk1] at hy
        rename_i k1 a k2 b
        subst hx; subst hy
        exact ⟨a == b, run_equalIn_int w d t _ _ a b hu, by simp⟩
      | string =>
        simp [hu] at h
        subst h
        refine one_run w (fun _ => by simp only [mkv, hu]) (fun x y hx hy => ?_) xs ys hx hy
        cases x <;> simp [alk1] at hx
        cases y <;> simp [alk1] at hy
        rename_i a b
        refine ⟨a.toList == b.toList, run_equalIn_string w d t a b hu, ?_⟩
        rw [← beq_toListBytes]
        obtain ⟨⟨x⟩⟩ := a
        obtain ⟨⟨y⟩⟩ := b
        show ((⟨x⟩ : Array UInt8) == ⟨y⟩) = true ↔ _
        simp
      | array n e =>
        simp only [hu] at h
        cases he : eqOk P m e with
        | none => simp [he] at h
        | some s' =>
          simp only [he] at h
          split at h
          · rename_i hh
            simp at h
            subst h
            obtain ⟨i, hi⟩ := Option.isSome_iff_exists.1 hh.2
            have hmk : ∀ zs : List Value, mkv P t zs = .agg zs.toArray := fun _ => by simp only [mkv, hu]
            rw [hmk, hmk, run_equalIn_array (P := P) w d xs.toArray ys.toArray hu hi, List.range_eq_range']
            have := items_run he hh.1 hh.2 (IH e s' he) w n 0 xs ys (by simpa using hx) (by simpa using hy) (by simp)
            simpa using this
          · cases h
      | struct fs =>
        simp only [hu] at h
        split at h
        · cases h
        · rename_i hsi
          have hmk : ∀ zs : List Value, mkv P t zs = .agg zs.toArray := fun _ => by simp only [mkv, hu]
          have hfo : P.fieldsOf t = fs := by simp [Program.fieldsOf, hu]
          rw [hmk, hmk, run_equalIn_struct (P := P) w d t xs.toArray ys.toArray (by rw [hfo]; exact hu) (by simpa using hsi), hfo]
          obtain ⟨r, hr, hq⟩ := fields_run w IH fs.toList 0 s h xs ys (Nat.zero_le _) (Nat.zero_le _) (by simpa using hx) (by simpa using hy)
          exact ⟨r, hr, by simpa using hq⟩
      | _ => simp [hu] at h

class TEq (P : Program) (t : TypeId) (z : outParam (List Value)) : Prop where
  ok : eqOk P 12 t = some z
  guard : P.eqGuardType P.depth t = false
  agg : (match P.underlying t with | some (.array _ _) => true | some (.struct _) => true | _ => false) = true

section
variable {P : Program} {w0 : World} {n : NT} {L : Slots} {H H' : List Atom} {Q : Exit → Act → World → Prop} {K : Act → World → Prop} {o : Oper} {d : Nat}
variable {ty : TypeId} {pos : String} {aft : Array Edge} {g : Option (Nat × Bool)}

theorem TEq.run {t : TypeId} {z : List Value} [ht : TEq P t z] {xs ys : List Value} (hax : Alk z xs) (hay : Alk z ys) {r : Bool} (hr : r = true ↔ xs = ys) (w : World) : (Op.equalIn 10000 t (.agg xs.toArray) (.agg ys.toArray)).run P w = .ok r w := by
  have hm : ∀ zs : List Value, mkv P t zs = .agg zs.toArray := fun zs => by
    have hg := ht.agg
    unfold mkv
    split <;> simp_all
  obtain ⟨q, h1, h2⟩ := eqOk_run 12 t z ht.ok 10000 (by omega) w xs ys hax hay
  rw [hm, hm] at h1
  have : r = q := by
    have := hr.trans h2.symm
    cases r <;> cases q <;> simp_all
  rw [this]; exact h1

theorem o_eqlA {t1 t2 : TypeId} {z : List Value} {x y : Operand} {xs ys : List Value} {r : Bool} [ht : TEq P t1 z] (hx : ev L x = some (.agg xs.toArray)) (hy : ev L y = some (.agg ys.toArray)) (hax : Alk z xs) (hay : Alk z ys) (hr : r = true ↔ xs = ys) (hn : Nat.blt d n = true) (k : Tri w0 K n ((d, .bool r) :: L) H) :
    Tri w0 (OpG P ⟨some d, .binOp .eql t1 x y t2, ty, pos, aft, g⟩ K Q) n L H :=
  Tri.val rfl hn _ (fun a w ha' _ => by
    simp only [execOp, ha'.eval hx, ha'.eval hy, Sem.run_bind, run_eqGuard_agg w .eql t1 x y _ _ ht.guard, run_eql_struct, TEq.run hax hay hr w, Result.andThen_ok, Sem.run_pure]) k
theorem o_neqA {t1 t2 : TypeId} {z : List Value} {x y : Operand} {xs ys : List Value} {r : Bool} [ht : TEq P t1 z] (hx : ev L x = some (.agg xs.toArray)) (hy : ev L y = some (.agg ys.toArray)) (hax : Alk z xs) (hay : Alk z ys) (hr : r = true ↔ xs = ys) (hn : Nat.blt d n = true) (k : Tri w0 K n ((d, .bool (!r)) :: L) H) :
    Tri w0 (OpG P ⟨some d, .binOp .neq t1 x y t2, ty, pos, aft, g⟩ K Q) n L H :=
  Tri.val rfl hn _ (fun a w ha' _ => by
    simp only [execOp, ha'.eval hx, ha'.eval hy, Sem.run_bind, run_eqGuard_agg w .neq t1 x y _ _ ht.guard, run_neq_struct, TEq.run hax hay hr w, Result.andThen_ok, Sem.run_pure]) k
end
end Go.Gv
