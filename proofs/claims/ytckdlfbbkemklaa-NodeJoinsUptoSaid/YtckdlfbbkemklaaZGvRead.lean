import Derived.Test.YtckdlfbbkemklaaZGvSeat
/- What came in, as it reads: from the reading of the row's frame to cells. -/
namespace Go.Gv
open Go Go.RowKit
set_option linter.unusedVariables false
set_option linter.unusedSimpArgs false

/-- cells that read as a type says: numbers, truths, texts, arrays, structs, and slices of such -/
def Rds (P : Program) (W : World) : Nat → TypeId → List Value → Prop
  | 0, _, _ => False
  | f + 1, t, cs => match P.underlying t with
    | some .bool => ∃ b, cs = [.bool b]
    | some (.int k) => ∃ n, cs = [.int k n] ∧ k.min ≤ n ∧ n ≤ k.max
    | some .string => ∃ s, cs = [.string s] ∧ s.size ≤ maxLen
    | some (.slice e) => cs = [.slice none 0 0] ∨ ∃ a len cap, cs = [.slice (some a) len cap] ∧ len ≤ cap ∧ cap ≤ maxLen ∧ ∀ i, i < len → ∃ ys, ys.length = P.cellsOf e ∧ (∀ j, j < P.cellsOf e → W.cell? ((a.add (i * P.cellsOf e)).add j) = ys[j]?) ∧ Rds P W f e ys
    | some (.struct fs) => cs.length = P.cellsOf t ∧ ∀ x ∈ fs.toList, Rds P W f x.type ((cs.drop x.offset).take (P.cellsOf x.type))
    | some (.array n e) => cs.length = P.cellsOf t ∧ ∀ i, i < n → Rds P W f e ((cs.drop (i * P.cellsOf e)).take (P.cellsOf e))
    | _ => True

theorem mapM_all {α β : Type} {g : α → Option β} : ∀ {l : List α} {ys : List β}, l.mapM g = some ys → ∀ x ∈ l, ∃ y, g x = some y
  | [], _, _, x, hx => by simp at hx
  | a :: l, ys, h, x, hx => by
    rw [List.mapM_cons] at h
    simp only [bind, Option.bind_eq_some_iff, pure, Option.some.injEq] at h
    obtain ⟨y, h1, ys', h2, _⟩ := h
    rcases List.mem_cons.1 hx with rfl | hx
    · exact ⟨y, h1⟩
    · exact mapM_all h2 x hx

theorem rds_of {H : Type} {enc : TypeId × Value → H} {P : Program} {W : World} {sp : Nat → Bool} : ∀ (fuel : Nat) (t : TypeId) (cs : List Value) (x : DataW H × List MemPlace), DataW.trod enc P W 0 sp true fuel t cs = some x → Rds P W fuel t cs
  | 0, _, _, _, h => by simp [DataW.trod] at h
  | f + 1, t, cs, x, h => by
    have ih := rds_of (H := H) (enc := enc) (P := P) (W := W) (sp := sp) f
    unfold Rds
    cases hu : P.underlying t with
    | none => trivial
    | some k =>
      cases k with
      | bool =>
        match cs with
        | [] => simp [DataW.trod, hu] at h
        | [v] => cases v <;> simp [DataW.trod, hu] at h ⊢
        | v :: u :: cs => cases v <;> simp [DataW.trod, hu] at h
      | int k =>
        match cs with
        | [] => simp [DataW.trod, hu] at h
        | [v] =>
          cases v <;> simp [DataW.trod, hu] at h
          exact ⟨_, by rw [h.1.1], by simpa [Lit.wf] using h.1.2⟩
        | v :: u :: cs => cases v <;> simp [DataW.trod, hu] at h
      | string =>
        match cs with
        | [] => simp [DataW.trod, hu] at h
        | [v] =>
          cases v <;> simp [DataW.trod, hu] at h ⊢
          exact h.1
        | v :: u :: cs => cases v <;> simp [DataW.trod, hu] at h
      | slice e =>
        rcases DataW.trod_slice hu h with h0 | ⟨a, len, cap, elems, rest, n, hn, rfl, _, hb, hl, hm, hlen, hel, _, _⟩
        · exact .inl h0.1
        · refine .inr ⟨a, len, cap, rfl, hl, hm, fun i hi => ?_⟩
          have hi' : elems[i]? = some (elems[i]'(by omega)) := List.getElem?_eq_getElem _
          have h1 := hel i hi
          rw [hi', Option.bind_eq_some_iff] at h1
          obtain ⟨ys, hys, hy⟩ := h1
          obtain ⟨_, hl2, hcell⟩ := World.cells?_some hys
          have hfn : f = n := by omega
          subst hfn
          exact ⟨ys, hl2, hcell, ih e ys _ hy⟩
      | struct fs =>
        have h2 : cs.length = P.cellsOf t ∧ ∃ xs, fs.toList.mapM (fun f' => DataW.trod enc P W 0 sp true f f'.type ((cs.drop f'.offset).take (P.cellsOf f'.type))) = some xs := by
          unfold DataW.trod at h
          simp only [hu] at h
          split at h
          · rename_i hl
            refine ⟨hl, ?_⟩
            rw [Option.map_eq_some_iff] at h
            obtain ⟨xs, h, _⟩ := h
            exact ⟨xs, h⟩
          · cases h
        obtain ⟨hl, xs, hxs⟩ := h2
        exact ⟨hl, fun y hy => by obtain ⟨z, hz⟩ := mapM_all hxs y hy; exact ih _ _ _ hz⟩
      | array n e =>
        have h2 : cs.length = P.cellsOf t ∧ ∃ xs, (List.range n).mapM (fun i => DataW.trod enc P W 0 sp true f e ((cs.drop (i * P.cellsOf e)).take (P.cellsOf e))) = some xs := by
          unfold DataW.trod at h
          simp only [hu] at h
          split at h
          · rename_i hl
            refine ⟨hl, ?_⟩
            rw [Option.map_eq_some_iff] at h
            obtain ⟨xs, h, _⟩ := h
            exact ⟨xs, h⟩
          · cases h
        obtain ⟨hl, xs, hxs⟩ := h2
        exact ⟨hl, fun i hi => by obtain ⟨z, hz⟩ := mapM_all hxs i (List.mem_range.2 hi); exact ih _ _ _ hz⟩
      | _ => trivial

theorem cell_obj {W : World} {b : Addr} {u : Value} (hc : W.cell? b = some u) : ∃ cs T fr, W.heap[b.block]? = some (.cells cs T fr) ∧ b.spot = none ∧ cs[b.off]? = some u := by
  unfold World.cell? at hc
  cases hq : W.heap[b.block]? with
  | none => simp [hq] at hc
  | some o =>
    cases o with
    | cells cs T fr =>
      simp only [hq] at hc
      split at hc
      · cases hc
      · rename_i hs
        exact ⟨cs, T, fr, rfl, by simpa using hs, hc⟩
    | _ => simp [hq] at hc

theorem flat_get {α : Type} {s : Nat} (hs : 0 < s) : ∀ {Ls : List (List α)} {j : Nat} {u : α}, (∀ ys ∈ Ls, ys.length = s) → Ls.flatten[j]? = some u → ∃ ys, Ls[j / s]? = some ys ∧ ys[j % s]? = some u
  | [], j, u, _, h => by simp at h
  | ys :: Ls, j, u, hl, h => by
    rw [List.flatten_cons, List.getElem?_append] at h
    have hy := hl ys (by simp)
    split at h
    · rename_i hj
      rw [hy] at hj
      exact ⟨ys, by rw [Nat.div_eq_of_lt hj]; rfl, by rw [Nat.mod_eq_of_lt hj]; exact h⟩
    · rename_i hj
      rw [hy] at hj h
      obtain ⟨zs, h1, h2⟩ := flat_get hs (fun zs hz => hl zs (by simp [hz])) h
      have e1 : j / s = (j - s) / s + 1 := by
        rw [← Nat.sub_add_cancel (Nat.not_lt.1 hj), Nat.add_div_right _ hs, Nat.add_sub_cancel]
      have e2 : j % s = (j - s) % s := by
        rw [← Nat.sub_add_cancel (Nat.not_lt.1 hj), Nat.add_mod_right, Nat.add_sub_cancel]
      exact ⟨zs, by rw [e1]; exact h1, by rw [e2]; exact h2⟩

theorem choice_list {α : Type} {p : Nat → α → Prop} : ∀ n, (∀ i, i < n → ∃ y, p i y) → ∃ l : List α, l.length = n ∧ ∀ i y, l[i]? = some y → p i y
  | 0, _ => ⟨[], rfl, fun i y h => by simp at h⟩
  | n + 1, h => by
    obtain ⟨l, h1, h2⟩ := choice_list n (fun i hi => h i (by omega))
    obtain ⟨y, hy⟩ := h n (by omega)
    refine ⟨l ++ [y], by simp [h1], fun i z hz => ?_⟩
    rw [List.getElem?_append] at hz
    split at hz
    · exact h2 i z hz
    · rename_i hi
      have : i = n := by
        have := (List.getElem?_eq_some_iff.1 hz).1
        simp at this; omega
      subst this
      rw [h1, Nat.sub_self] at hz
      have e : y = z := by simpa using hz
      rw [← e]; exact hy

/-- a slice that came in: its elements, as cells -/
theorem rds_slice {P : Program} {W : World} {f : Nat} {t e : TypeId} {s : Nat} (hu : P.underlying t = some (.slice e)) (hs : P.cellsOf e = s) (hp : 0 < s) {a : Option Addr} {len cap : Nat} (h : Rds P W (f + 1) t [.slice a len cap]) :
    ∃ Ls : List (List Value), Ls.length = len ∧ (∀ ys ∈ Ls, ys.length = s ∧ Rds P W f e ys) ∧ RdW W (.slice a len cap) len Ls.flatten := by
  unfold Rds at h
  simp only [hu, hs] at h
  rcases h with h | ⟨a', len', cap', h1, h2, h3, h4⟩
  · simp only [List.cons.injEq, Value.slice.injEq, and_true] at h
    obtain ⟨rfl, rfl, rfl⟩ := h
    exact ⟨[], rfl, by simp, none, 0, rfl, ⟨Nat.le_refl _, Nat.zero_le _⟩, fun j u hu => by simp at hu⟩
  · simp only [List.cons.injEq, Value.slice.injEq, and_true] at h1
    obtain ⟨rfl, rfl, rfl⟩ := h1
    obtain ⟨Ls, l1, l2⟩ := choice_list len h4
    have hl : ∀ ys ∈ Ls, ys.length = s ∧ Rds P W f e ys := fun ys hy => by
      obtain ⟨i, hi⟩ := List.getElem?_of_mem hy
      exact ⟨(l2 i ys hi).1, (l2 i ys hi).2.2⟩
    refine ⟨Ls, l1, hl, some a', cap, rfl, ⟨h2, h3⟩, fun j u hj => ?_⟩
    obtain ⟨ys, q1, q2⟩ := flat_get hp (fun ys hy => (hl ys hy).1) hj
    have hcell := (l2 _ _ q1).2.1 (j % s) (Nat.mod_lt _ hp)
    rw [q2, Addr.add_add, Nat.mul_comm, Nat.div_add_mod] at hcell
    obtain ⟨cs, T, fr, g1, g2, g3⟩ := cell_obj hcell
    have hb : (a'.add j).block = a'.block := by unfold Addr.add; split <;> rfl
    rw [hb] at g1
    exact ⟨a', rfl, cs, T, fr, g1, g2, g3⟩
end Go.Gv
