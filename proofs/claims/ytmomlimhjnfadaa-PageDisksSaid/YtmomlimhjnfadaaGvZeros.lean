/- Noughts behind a slice: append of a make. -/
import Derived.Test.YtmomlimhjnfadaaGvSpec
import Derived.Lib.AppendZerosOnto
namespace Go.Gv
open Go Go.RowKit
set_option linter.unusedVariables false
set_option linter.unusedSimpArgs false

theorem zeroCells_one {z0 : Value} {zc : Value} (hz : z0.cells.toList = [zc]) (k : Nat) : Builtin.zeroCells z0.cells k = (List.replicate k zc).toArray := by
  have hz' : z0.cells = #[zc] := by rw [← Array.toArray_toList (xs := z0.cells), hz]
  unfold Builtin.zeroCells
  rw [hz']
  apply Array.ext
  · simp
  · intro i h1 h2
    have : i % 1 = 0 := Nat.mod_one i
    simp [this]

theorem appendZ_run {P : Program} {t tn e ty : TypeId} {kn kq : IntKind} {bytes : Nat} {zc : Value} [ht : TSlice P t e] [htn : TInt P tn kn] [he : TElem P e 1 bytes [zc]] {w : World} {v : Value} {m1 k : Nat} {xs : List Value} (ho : w.ownsRow 0 e 1 v m1 xs) (h1 : zc.oneCell' = true) (hb : (m1 + k) * bytes ≤ 140737488355328) :
    ∃ v' w', (Builtin.append_ #[t, tn] ty #[v, .int kq k]).run P w = .ok v' w' ∧ w.grownBy w' v.ownBlock ∧ (v'.ownBlock = v.ownBlock ∨ ∀ b, v'.ownBlock = some b → w.heap.size ≤ b) ∧ w'.ownsRow 0 e 1 v' (m1 + k) (xs ++ List.replicate k zc) := by
  obtain ⟨i, z0, hi, hz, hsz, hby, hzz, hzs, p1, p2, p4⟩ := he.get
  have hmk : (m1 + k) * 1 ≤ (m1 + k) * bytes := Nat.mul_le_mul_left _ (by omega)
  have hkb : k * bytes ≤ (m1 + k) * bytes := Nat.mul_le_mul_right _ (by omega)
  have h63 : m1 + k ≤ maxLen := by unfold maxLen; omega
  have hlen : (xs ++ List.replicate k zc).length = (m1 + k) * 1 := by rw [List.length_append, ho.1, List.length_replicate]; omega
  have same : w.grownBy w v.ownBlock := ⟨rfl, rfl, rfl, Nat.le_refl _, fun _ _ _ => rfl⟩
  have hw : IntKind.i64.wrap (k : Int) = k := by rw [IntKind.wrap_i64]; omega
  have h48i : ¬ (281474976710656 < (k : Int) * (i.bytes : Int)) := by rw [hby, ← Int.natCast_mul]; omega
  have hneg : ¬ ((k : Int) < 0) := by omega
  have hw0 : IntKind.i64.wrap 0 = 0 := by rw [IntKind.wrap_i64]; omega
  rcases ho.2 with ⟨rfl, rfl⟩ | ⟨gg, cap, cur, rfl, hb1, hb2, hb3, hb4, hb5, hb6⟩
  · have hx : xs = [] := List.eq_nil_of_length_eq_zero (by simpa using ho.1)
    subst hx
    by_cases hm0 : k = 0
    · subst hm0
      refine ⟨_, w, ?_, same, .inl rfl, by simpa using ho⟩
      simp [Builtin.append_, run_underlying ht.ok, run_underlying htn.ok, sizeOf, typeInfo, hi, asInt, asIntOf, hw0]
    · have hrun := Lib.run_append_nil_zeros (P := P) w t tn ty e i z0 kq kn ht.ok htn.ok hi hz k (by omega) (by omega) (by unfold maxLen at h63; omega) (by rw [hby]; omega)
      refine ⟨_, _, hrun, ⟨rfl, rfl, rfl, by simp, fun j hj _ => Below.heap_alloc w.drew _ j hj⟩, .inr (fun b hb => by simp [Value.ownBlock] at hb; omega), ?_⟩
      simp only [Nat.zero_add, List.nil_append]
      have := ownsRow_new (w := w) (e := e) (bytes := bytes) (m := k) (old := 0) (xs := List.replicate k zc) hzs (by simp) (by omega)
      simp only [zeroCells_one hzz] at this ⊢
      exact this
  · by_cases hroom : m1 + k ≤ cap
    · have hfit : m1 + k ≤ cur.size := by rw [hb5]; omega
      have hst := run_storeCells_at P gg (m1 * 1) e (List.replicate k zc) 0 cur w hb2 (by simp; omega) (by intro u hu; rw [(List.mem_replicate.1 hu).2]; exact h1)
      simp only [Nat.add_zero] at hst
      have hrun : (Builtin.append_ #[t, tn] ty #[.slice (some ⟨gg, 0, none⟩) m1 cap, .int kq k]).run P w = .ok (.slice (some ⟨gg, 0, none⟩) (m1 + k) cap) (w.setRow gg (cur.toList.take (m1 * 1) ++ List.replicate k zc ++ cur.toList.drop (m1 * 1 + (List.replicate k zc).length)).toArray) := by
        by_cases hm0 : k = 0
        · subst hm0
          simp only [List.replicate_zero] at hst ⊢
          have hroom' : m1 ≤ cap := hroom
          simp [Builtin.append_, run_underlying ht.ok, run_underlying htn.ok, sizeOf, typeInfo, hi, hsz, asInt, asIntOf, hw0, hroom', zeroValue, hz, Addr.add_lit]
          simp at hst
          rw [hst]; simp
        · have hns : ¬ (k * i.size = 0) := Nat.mul_ne_zero hm0 (by omega)
          rw [hsz] at hns
          simp [Builtin.append_, run_underlying ht.ok, run_underlying htn.ok, sizeOf, typeInfo, hi, hsz, asInt, asIntOf, hw, hroom, zeroValue, hz, Addr.add_lit, hm0, hneg, h48i, zeroCells_one hzz]
          simp at hst
          rw [hst]; simp
      refine ⟨_, _, hrun, ⟨rfl, rfl, rfl, by simp, fun j _ hk => setRow_other w gg j _ (fun e => hk (by simp [Value.ownBlock, e]))⟩, .inl rfl, hlen, .inr ⟨gg, cap, _, rfl, Nat.zero_le _, setRow_heap w gg cur _ e _ hb2, hroom, hb4, ?_, ?_⟩⟩
      · simp only [List.size_toArray, List.length_append, List.length_take, List.length_drop, Array.length_toList, List.length_replicate]
        omega
      · rw [hb6, ← hlen]
        exact List.take_left
    · have holds : ∀ j u, xs[j]? = some u → w.cell? ((⟨gg, 0, none⟩ : Addr).add j) = some u := ho.cells (g := gg) rfl
      have hfo := run_firstCells_some (P := P) w.drew i.size m1 ⟨gg, 0, none⟩ m1 cap xs (by rw [hsz]; exact ho.1) (by simpa using holds)
      have hrun := Lib.run_append_grow_zeros (P := P) w t tn ty e i z0 kq kn ht.ok htn.ok hi hz (some ⟨gg, 0, none⟩) m1 cap xs hfo k (by omega) (by omega) (by omega) (by unfold maxLen at h63; omega) (by rw [hby]; omega) (growslice_fits (by omega) (by rw [hby]; exact hb))
      refine ⟨_, _, hrun, ⟨rfl, rfl, rfl, by simp, fun j hj _ => Below.heap_alloc w.drew _ j hj⟩, .inr (fun b hb => by simp [Value.ownBlock] at hb; omega), ?_⟩
      have := ownsRow_new (w := w) (e := e) (bytes := bytes) (old := cap) hzs hlen h63
      simp only [zeroCells_one hzz] at this ⊢
      have e : xs.toArray ++ (List.replicate k zc).toArray = (xs ++ List.replicate k zc).toArray := by apply Array.ext'; simp only [Array.toList_append]
      rw [e]; exact this

section
variable {P : Program} {w0 : World} {n : NT} {L : Slots} {H H' : List Atom} {Q : Exit → Act → World → Prop} {K : Act → World → Prop} {d : Nat}
variable {ty : TypeId} {pos : String} {aft : Array Edge} {g : Option (Nat × Bool)}
theorem o_appendZ {t tn e : TypeId} {kn kq : IntKind} {bytes : Nat} {zc : Value} [TSlice P t e] [TInt P tn kn] [TElem P e 1 bytes [zc]] {s x : Operand} {v : Value} {m1 k : Nat} {i : Int} {xs : List Value} (hx : ev L s = some v) (hy : ev L x = some (.int kq i)) (hi : i = (k : Int)) (p : Pull H (own e 1 v m1 xs) H') (h1 : zc.oneCell' = true) (hb : (m1 + k) * bytes ≤ 140737488355328) (hn : Nat.blt d n = true)
    (kk : ∀ v', Tri w0 K n ((d, v') :: L) (own e 1 v' (m1 + k) (xs ++ List.replicate k zc) :: H')) :
    Tri w0 (OpG P ⟨some d, .call { callee := .builtin .append, args := #[s, x], argTypes := #[t, tn] }, ty, pos, aft, g⟩ K Q) n L H :=
  Tri.valW rfl hn (fun a w ha hw => by
    obtain ⟨s', hA⟩ := (hw.pull p).2.head
    subst hi
    obtain ⟨v', w', q1, q2, q3, q4⟩ := appendZ_run (P := P) (t := t) (tn := tn) (ty := ty) (kq := kq) (k := k) (own_row hA) h1 hb
    refine ⟨v', w', ?_, fun a' ha' => kk v' a' w' ha' (St.grown (hw.pull p) q4 q3 q2)⟩
    simp [execOp, resolve, invoke, builtin, ha.eval hx, ha.eval hy, q1])
end
end Go.Gv
