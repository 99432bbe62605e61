import Derived.Test.YtckdlfbbkemklaaZNdPutsRead
import Derived.Test.YtckdlfbbkemklaaRows
/- What came in, as it reads, where its bulk is bounded: so is each slice's length. -/
namespace Go.Proofs.Ytckdlfbbkemklaa
open Go Go.RowKit Go.Gv
set_option linter.unusedVariables false
set_option linter.unusedSimpArgs false

/-- as Rds, and each slice's length is bounded -/
def Rdu (P : Program) (W : World) : Nat → TypeId → List Value → Prop
  | 0, _, _ => False
  | f + 1, t, cs => match P.underlying t with
    | some .bool => ∃ b, cs = [.bool b]
    | some (.int k) => ∃ n, cs = [.int k n] ∧ k.min ≤ n ∧ n ≤ k.max
    | some .string => ∃ s, cs = [.string s] ∧ s.size ≤ maxLen
    | some (.slice e) => cs = [.slice none 0 0] ∨ ∃ a len cap, cs = [.slice (some a) len cap] ∧ (len ≤ cap ∧ cap ≤ maxLen) ∧ len ≤ 1048576 ∧ ∀ i, i < len → ∃ ys, ys.length = P.cellsOf e ∧ (∀ j, j < P.cellsOf e → W.cell? ((a.add (i * P.cellsOf e)).add j) = ys[j]?) ∧ Rdu P W f e ys
    | some (.struct fs) => cs.length = P.cellsOf t ∧ ∀ x ∈ fs.toList, Rdu P W f x.type ((cs.drop x.offset).take (P.cellsOf x.type))
    | some (.array n e) => cs.length = P.cellsOf t ∧ ∀ i, i < n → Rdu P W f e ((cs.drop (i * P.cellsOf e)).take (P.cellsOf e))
    | _ => True
theorem rdu_rds {P : Program} {W : World} : ∀ (f : Nat) (t : TypeId) (cs : List Value), Rdu P W f t cs → Rds P W f t cs
  | 0, _, _, h => h
  | f + 1, t, cs, h => by
    have ih := rdu_rds (P := P) (W := W) f
    unfold Rdu at h
    unfold Rds
    cases hu : P.underlying t with
    | none => trivial
    | some k =>
      rw [hu] at h
      cases k with
      | bool => exact h
      | int k => exact h
      | string => exact h
      | slice e =>
        rcases h with h | ⟨a, len, cap, h1, h2, _, h4⟩
        · exact .inl h
        · exact .inr ⟨a, len, cap, h1, h2.1, h2.2, fun i hi => by obtain ⟨ys, g1, g2, g3⟩ := h4 i hi; exact ⟨ys, g1, g2, ih _ _ g3⟩⟩
      | struct fs => exact ⟨h.1, fun x hx => ih _ _ (h.2 x hx)⟩
      | array n e => exact ⟨h.1, fun i hi => ih _ _ (h.2 i hi)⟩
      | _ => trivial
theorem bulk_one {H : Type} (d : DataW H) : 1 ≤ Rows.uptoBulk d := by
  cases d with
  | lit l => cases l <;> simp [Rows.uptoBulk]
  | nil => simp [Rows.uptoBulk]
  | ptr d => simp [Rows.uptoBulk]
  | slice elems spare => simp [Rows.uptoBulk]
  | agg parts => simp [Rows.uptoBulk]
  | iface t d => simp [Rows.uptoBulk]
  | map entries => simp [Rows.uptoBulk]
  | held h => simp [Rows.uptoBulk]
theorem bulk_part {H : Type} {d : DataW H} {l : List (DataW H)} (h : d ∈ l) : Rows.uptoBulk d ≤ Rows.uptoBulkAll l := by
  induction l with
  | nil => cases h
  | cons x r ih =>
    simp only [Rows.uptoBulkAll]
    cases List.mem_cons.1 h with
    | inl e => subst e; omega
    | inr e => have := ih e; omega
theorem bulk_len {H : Type} (l : List (DataW H)) : l.length ≤ Rows.uptoBulkAll l := by
  induction l with
  | nil => simp [Rows.uptoBulkAll]
  | cons x r ih => have := bulk_one x; simp only [Rows.uptoBulkAll, List.length_cons]; omega
theorem rdu_of {H : Type} {enc : TypeId × Value → H} {P : Program} {W : World} {sp : Nat → Bool} (hsp : ∀ b, sp b = true) : ∀ (fuel : Nat) (t : TypeId) (cs : List Value) (x : DataW H × List MemPlace), DataW.trod enc P W 0 sp true fuel t cs = some x → Rows.uptoBulk x.1 ≤ 1048576 → Rdu P W fuel t cs
  | 0, _, _, _, h, _ => by simp [DataW.trod] at h
  | f + 1, t, cs, x, h, hz => by
    have ih := rdu_of (H := H) (enc := enc) (P := P) (W := W) hsp f
    have h0 := rds_of (H := H) (enc := enc) (P := P) (W := W) (sp := sp) (f + 1) t cs x h
    unfold Rds at h0
    unfold Rdu
    cases hu : P.underlying t with
    | none => trivial
    | some k =>
      rw [hu] at h0
      cases k with
      | bool => exact h0
      | int k => exact h0
      | string => exact h0
      | slice e =>
        rcases DataW.trod_slice hu h with h1 | ⟨a, len, cap, elems, rest, n, hn, rfl, hx, hb, hl, hm, hlen, hel, _, _⟩
        · exact .inl h1.1
        · subst hx
          simp only [Rows.uptoBulk] at hz
          refine .inr ⟨a, len, cap, rfl, ⟨hl, hm⟩, ?_, fun i hi => ?_⟩
          · have := bulk_len (elems.map (·.1))
            rw [List.length_map, hlen] at this
            omega
          · have hi' : elems[i]? = some (elems[i]'(by omega)) := List.getElem?_eq_getElem _
            have h1 := hel i hi
            rw [hi', Option.bind_eq_some_iff] at h1
            obtain ⟨ys, hys, hy⟩ := h1
            obtain ⟨_, hl2, hcell⟩ := World.cells?_some hys
            have hfn : f = n := by omega
            subst hfn
            refine ⟨ys, hl2, hcell, ih e ys _ hy (by have := bulk_part (List.mem_map.2 ⟨_, List.getElem_mem (l := elems) (n := i) (by omega), rfl⟩ : (elems[i]'(by omega)).1 ∈ elems.map (·.1)); omega)⟩
      | struct fs =>
        have h2 : ∃ xs, fs.toList.mapM (fun f' => DataW.trod enc P W 0 sp true f f'.type ((cs.drop f'.offset).take (P.cellsOf f'.type))) = some xs ∧ x = (.agg (xs.map (·.1)), xs.flatMap (·.2)) := by
          unfold DataW.trod at h
          simp only [hu] at h
          split at h
          · rw [Option.map_eq_some_iff] at h
            obtain ⟨xs, h, hx⟩ := h
            exact ⟨xs, h, hx.symm⟩
          · cases h
        obtain ⟨xs, hxs, rfl⟩ := h2
        simp only [Rows.uptoBulk] at hz
        refine ⟨h0.1, fun y hy => ?_⟩
        obtain ⟨j, hj⟩ := List.getElem?_of_mem hy
        obtain ⟨z, hz1, hz2⟩ := mapM_at hxs j y hj
        exact ih _ _ _ hz1 (by have := bulk_part (List.mem_map.2 ⟨_, List.mem_of_getElem? hz2, rfl⟩ : z.1 ∈ xs.map (·.1)); omega)
      | array n e =>
        have h2 : ∃ xs, (List.range n).mapM (fun i => DataW.trod enc P W 0 sp true f e ((cs.drop (i * P.cellsOf e)).take (P.cellsOf e))) = some xs ∧ x = (.agg (xs.map (·.1)), xs.flatMap (·.2)) := by
          unfold DataW.trod at h
          simp only [hu] at h
          split at h
          · rw [Option.map_eq_some_iff] at h
            obtain ⟨xs, h, hx⟩ := h
            exact ⟨xs, h, hx.symm⟩
          · cases h
        obtain ⟨xs, hxs, rfl⟩ := h2
        simp only [Rows.uptoBulk] at hz
        refine ⟨h0.1, fun i hi => ?_⟩
        obtain ⟨z, hz1, hz2⟩ := mapM_at hxs i i (by rw [List.getElem?_range hi])
        exact ih _ _ _ hz1 (by have := bulk_part (List.mem_map.2 ⟨_, List.mem_of_getElem? hz2, rfl⟩ : z.1 ∈ xs.map (·.1)); omega)
      | _ => trivial
/-- a slice that came in, and its bytes -/
theorem rdu_slice {P : Program} {W : World} {f : Nat} {t e : TypeId} (hu : P.underlying t = some (.slice e)) {cs : List Value} (h : Rdu P W f t cs) : ∃ A n c, cs = [.slice A n c] ∧ n ≤ 1048576 ∧ Rds P W f t [.slice A n c] := by
  have h2 := rdu_rds f t cs h
  cases f with
  | zero => exact h.elim
  | succ f =>
    unfold Rdu at h
    simp only [hu] at h
    rcases h with h | ⟨a, len, cap, h, _, h3, _⟩
    · rw [h] at h2
      exact ⟨_, _, _, h, by omega, h2⟩
    · rw [h] at h2
      exact ⟨_, _, _, h, h3, h2⟩
/-- what a node's cells read -/
def nodeInU (W : World) (cs : List Value) : Prop := ∃ (leaf : Bool) (ev kv dv : Value) (E : List ENT) (K : List KEY) (D : List Int), cs = ndLL leaf ev kv dv ∧ ndR W ev kv dv E K D ∧ E.length ≤ 1048576 ∧ K.length ≤ 1048576 ∧ D.length ≤ 1048576
theorem node_inU {P : Program} {W : World} {f : Nat} {t1 t2 t3 t4 e2 e3 e4 : TypeId} {a b c d : Value} (h1 : P.underlying t1 = some .bool) (h2 : P.underlying t2 = some (.slice e2)) (h3 : P.underlying t3 = some (.slice e3)) (h4 : P.underlying t4 = some (.slice e4)) (h5 : P.underlying e4 = some (.int .i64))
    (c2 : P.cellsOf e2 = 8) (c3 : P.cellsOf e3 = 2) (c4 : P.cellsOf e4 = 1)
    (o2 : ∀ f ys, Rds P W f e2 ys → ∃ x : ENT, ys = entL x ∧ entR x) (o3 : ∀ f ys, Rds P W f e3 ys → ∃ x : KEY, ys = keyL x ∧ keyR x)
    (r1 : Rdu P W f t1 [a]) (r2 : Rdu P W f t2 [b]) (r3 : Rdu P W f t3 [c]) (r4 : Rdu P W f t4 [d]) : nodeInU W [a, b, c, d] := by
  obtain ⟨x, e1⟩ := rds_bool h1 (rdu_rds _ _ _ r1)
  obtain ⟨A2, n2, p2, q2, z2, s2⟩ := rdu_slice h2 r2
  obtain ⟨A3, n3, p3, q3, z3, s3⟩ := rdu_slice h3 r3
  obtain ⟨A4, n4, p4, q4, z4, s4⟩ := rdu_slice h4 r4
  obtain ⟨E, hE1, hE2, hE3⟩ := ents_of h2 c2 o2 s2
  obtain ⟨K, hK1, hK2, hK3⟩ := keys_of h3 c3 o3 s3
  obtain ⟨D, hD1, hD2, hD3⟩ := rds_ints h4 h5 c4 ⟨f, s4⟩
  simp only [List.cons.injEq, and_true] at e1 q2 q3 q4
  subst e1; subst q2; subst q3; subst q4
  subst hE1; subst hK1; subst hD1
  exact ⟨x, _, _, _, E, K, D, rfl, ⟨hE2, hK2, hD3⟩, by omega, by omega, by omega⟩
theorem rdu_node {W : World} {cs : List Value} (h : ∃ f, Rdu Try.prog W f 26 cs) : nodeInU W cs := by
  obtain ⟨f, h⟩ := h
  cases f with
  | zero => exact h.elim
  | succ f =>
    unfold Rdu at h
    simp only [Try.underlying26] at h
    obtain ⟨hl, h⟩ := h
    have hc : Try.prog.cellsOf 26 = 4 := by kernel_rfl
    have c1 : Try.prog.cellsOf 4 = 1 := by kernel_rfl
    have c2 : Try.prog.cellsOf 22 = 1 := by kernel_rfl
    have c3 : Try.prog.cellsOf 23 = 1 := by kernel_rfl
    have c4 : Try.prog.cellsOf 24 = 1 := by kernel_rfl
    rw [hc] at hl
    have h0 := h _ (List.mem_cons_self ..)
    have h1 := h _ (List.mem_cons_of_mem _ (List.mem_cons_self ..))
    have h2 := h _ (List.mem_cons_of_mem _ (List.mem_cons_of_mem _ (List.mem_cons_self ..)))
    have h3 := h _ (List.mem_cons_of_mem _ (List.mem_cons_of_mem _ (List.mem_cons_of_mem _ (List.mem_cons_self ..))))
    simp only [c1, c2, c3, c4] at h0 h1 h2 h3
    obtain ⟨x, y, z, u, rfl⟩ := nlist4 hl
    exact node_inU Try.underlying4 Try.underlying22 Try.underlying23 Try.underlying24 Try.underlying3 (by kernel_rfl) (by kernel_rfl) (by kernel_rfl) (fun f ys => rds_ent12) (fun f ys => rds_key12) h0 h1 h2 h3
end Go.Proofs.Ytckdlfbbkemklaa
