import Derived.Test.YtckdlfbbkemklaaZGvRead2
import Derived.SizedLaws
/- What came in, as it reads, with the form's own reach: no slice takes more bytes than a process has addresses. -/
namespace Go.Gv
open Go Go.RowKit
set_option linter.unusedVariables false
set_option linter.unusedSimpArgs false

/-- as Rds, and each slice's bytes are bounded -/
def Rdz (P : Program) (W : World) : Nat → TypeId → List Value → Prop
  | 0, _, _ => False
  | f + 1, t, cs => match P.underlying t with
    | some .bool => ∃ b, cs = [.bool b]
    | some (.int k) => ∃ n, cs = [.int k n] ∧ k.min ≤ n ∧ n ≤ k.max
    | some .string => ∃ s, cs = [.string s] ∧ s.size ≤ maxLen
    | some (.slice e) => cs = [.slice none 0 0] ∨ ∃ a len cap, cs = [.slice (some a) len cap] ∧ (len ≤ cap ∧ cap ≤ maxLen) ∧ len * P.bytesOf e ≤ reachBytes ∧ ∀ i, i < len → ∃ ys, ys.length = P.cellsOf e ∧ (∀ j, j < P.cellsOf e → W.cell? ((a.add (i * P.cellsOf e)).add j) = ys[j]?) ∧ Rdz P W f e ys
    | some (.struct fs) => cs.length = P.cellsOf t ∧ ∀ x ∈ fs.toList, Rdz P W f x.type ((cs.drop x.offset).take (P.cellsOf x.type))
    | some (.array n e) => cs.length = P.cellsOf t ∧ ∀ i, i < n → Rdz P W f e ((cs.drop (i * P.cellsOf e)).take (P.cellsOf e))
    | _ => True
theorem rdz_rds {P : Program} {W : World} : ∀ (f : Nat) (t : TypeId) (cs : List Value), Rdz P W f t cs → Rds P W f t cs
  | 0, _, _, h => h
  | f + 1, t, cs, h => by
    have ih := rdz_rds (P := P) (W := W) f
    unfold Rdz at h
    unfold Rds
    cases hu : P.underlying t with
    | none => trivial
    | some k =>
      rw [hu] at h
      cases k with
      | bool => exact h
      | int k => exact h
      | string => exact h
      | slice e =>
        rcases h with h | ⟨a, len, cap, h1, h2, _, h4⟩
        · exact .inl h
        · exact .inr ⟨a, len, cap, h1, h2.1, h2.2, fun i hi => by obtain ⟨ys, g1, g2, g3⟩ := h4 i hi; exact ⟨ys, g1, g2, ih _ _ g3⟩⟩
      | struct fs => exact ⟨h.1, fun x hx => ih _ _ (h.2 x hx)⟩
      | array n e => exact ⟨h.1, fun i hi => ih _ _ (h.2 i hi)⟩
      | _ => trivial
theorem mapM_at {α β : Type} {g : α → Option β} : ∀ {l : List α} {ys : List β}, l.mapM g = some ys → ∀ (j : Nat) (x : α), l[j]? = some x → ∃ y, g x = some y ∧ ys[j]? = some y
  | [], _, _, j, x, hx => by simp at hx
  | a :: l, ys, h, j, x, hx => by
    rw [List.mapM_cons] at h
    simp only [bind, Option.bind_eq_some_iff, pure, Option.some.injEq] at h
    obtain ⟨y, h1, ys', h2, rfl⟩ := h
    cases j with
    | zero =>
      simp only [List.getElem?_cons_zero, Option.some.injEq] at hx
      subst hx
      exact ⟨y, h1, rfl⟩
    | succ j =>
      simp only [List.getElem?_cons_succ] at hx
      exact mapM_at h2 j x hx
theorem weights_all {H : Type} {P : Program} {e : TypeId} : ∀ {l : List (DataW H)} {d : DataW H}, d ∈ l → ∀ n ∈ d.weights P e, n ∈ DataW.weightsAll P e l
  | a :: l, d, hd, n, hn => by
    simp only [DataW.weightsAll, List.mem_append]
    rcases List.mem_cons.1 hd with rfl | hd
    · exact .inl hn
    · exact .inr (weights_all hd n hn)
theorem rdz_of {H : Type} {enc : TypeId × Value → H} {P : Program} {W : World} {sp : Nat → Bool} (hsp : ∀ b, sp b = true) : ∀ (fuel : Nat) (t : TypeId) (cs : List Value) (x : DataW H × List MemPlace), DataW.trod enc P W 0 sp true fuel t cs = some x → (∀ n ∈ x.1.weights P t, n ≤ reachBytes) → Rdz P W fuel t cs
  | 0, _, _, _, h, _ => by simp [DataW.trod] at h
  | f + 1, t, cs, x, h, hz => by
    have ih := rdz_of (H := H) (enc := enc) (P := P) (W := W) hsp f
    have h0 := rds_of (H := H) (enc := enc) (P := P) (W := W) (sp := sp) (f + 1) t cs x h
    unfold Rds at h0
    unfold Rdz
    cases hu : P.underlying t with
    | none => trivial
    | some k =>
      rw [hu] at h0
      cases k with
      | bool => exact h0
      | int k => exact h0
      | string => exact h0
      | slice e =>
        rcases DataW.trod_slice hu h with h1 | ⟨a, len, cap, elems, rest, n, hn, rfl, hx, hb, hl, hm, hlen, hel, _, _⟩
        · exact .inl h1.1
        · subst hx
          simp only [DataW.weights, hu, List.mem_cons, List.mem_append, List.length_map] at hz
          refine .inr ⟨a, len, cap, rfl, ⟨hl, hm⟩, ?_, fun i hi => ?_⟩
          · have := hz _ (.inl rfl)
            rw [hlen] at this
            exact Nat.le_trans (Nat.mul_le_mul_right _ (Nat.le_add_right _ _)) this
          · have hi' : elems[i]? = some (elems[i]'(by omega)) := List.getElem?_eq_getElem _
            have h1 := hel i hi
            rw [hi', Option.bind_eq_some_iff] at h1
            obtain ⟨ys, hys, hy⟩ := h1
            obtain ⟨_, hl2, hcell⟩ := World.cells?_some hys
            have hfn : f = n := by omega
            subst hfn
            refine ⟨ys, hl2, hcell, ih e ys _ hy (fun m hm2 => hz m (.inr (.inl (weights_all (List.mem_map.2 ⟨_, List.getElem_mem (by omega), rfl⟩) m hm2))))⟩
      | struct fs =>
        have h2 : ∃ xs, fs.toList.mapM (fun f' => DataW.trod enc P W 0 sp true f f'.type ((cs.drop f'.offset).take (P.cellsOf f'.type))) = some xs ∧ x = (.agg (xs.map (·.1)), xs.flatMap (·.2)) := by
          unfold DataW.trod at h
          simp only [hu] at h
          split at h
          · rw [Option.map_eq_some_iff] at h
            obtain ⟨xs, h, hx⟩ := h
            exact ⟨xs, h, hx.symm⟩
          · cases h
        obtain ⟨xs, hxs, rfl⟩ := h2
        simp only [DataW.weights, hu] at hz
        refine ⟨h0.1, fun y hy => ?_⟩
        obtain ⟨j, hj⟩ := List.getElem?_of_mem hy
        obtain ⟨z, hz1, hz2⟩ := mapM_at hxs j y hj
        exact ih _ _ _ hz1 (fun m hm => hz m (DataW.weights_mem_each (j := j) (t := y.type) (d := z.1) (by rw [List.getElem?_map, hj]; rfl) (by rw [List.getElem?_map, hz2]; rfl) m hm))
      | array n e =>
        have h2 : ∃ xs, (List.range n).mapM (fun i => DataW.trod enc P W 0 sp true f e ((cs.drop (i * P.cellsOf e)).take (P.cellsOf e))) = some xs ∧ x = (.agg (xs.map (·.1)), xs.flatMap (·.2)) := by
          unfold DataW.trod at h
          simp only [hu] at h
          split at h
          · rw [Option.map_eq_some_iff] at h
            obtain ⟨xs, h, hx⟩ := h
            exact ⟨xs, h, hx.symm⟩
          · cases h
        obtain ⟨xs, hxs, rfl⟩ := h2
        simp only [DataW.weights, hu] at hz
        refine ⟨h0.1, fun i hi => ?_⟩
        obtain ⟨z, hz1, hz2⟩ := mapM_at hxs i i (by rw [List.getElem?_range hi])
        exact ih _ _ _ hz1 (fun m hm => hz m (weights_all (List.mem_map.2 ⟨z, List.mem_of_getElem? hz2, rfl⟩) m hm))
      | _ => trivial
/-- a slice that came in, and its bytes -/
theorem rdz_slice {P : Program} {W : World} {f : Nat} {t e : TypeId} (hu : P.underlying t = some (.slice e)) {cs : List Value} (h : Rdz P W f t cs) : ∃ A n c, cs = [.slice A n c] ∧ n * P.bytesOf e ≤ reachBytes ∧ Rds P W f t [.slice A n c] := by
  have h2 := rdz_rds f t cs h
  cases f with
  | zero => exact h.elim
  | succ f =>
    unfold Rdz at h
    simp only [hu] at h
    rcases h with h | ⟨a, len, cap, h, _, h3, _⟩
    · rw [h] at h2
      exact ⟨_, _, _, h, by omega, h2⟩
    · rw [h] at h2
      exact ⟨_, _, _, h, h3, h2⟩
end Go.Gv
