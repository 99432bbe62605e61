import Derived.Test.YtckdlfbbkemklaaZA
import Derived.Test.YtckdlfbbkemklaaZB
section
/- An owned row, cut to its first few: it is owned still. -/
namespace Go.Gv
open Go Go.RowKit
set_option linter.unusedVariables false
set_option linter.unusedSimpArgs false
theorem own_cut {e : TypeId} {size n k : Nat} {v : Value} {xs : List Value} {h : PH} (ho : own e size v n xs h) (hk : k ≤ n) : own e size (subv v size 0 k) k (xs.take (k * size)) h := by
  refine ⟨?_, ?_⟩
  · have := ho.1
    have h2 : k * size ≤ n * size := Nat.mul_le_mul_right size hk
    rw [List.length_take]; omega
  · rcases ho.2 with ⟨h1, h0⟩ | ⟨g, cap, cur, h1, h2, h3, h4, h5, h6⟩
    · subst h1
      obtain rfl : k = 0 := by omega
      exact .inl ⟨rfl, rfl⟩
    · subst h1
      refine .inr ⟨g, cap, cur, ?_, h2, by omega, h4, h5, ?_⟩
      · unfold subv
        simp only [Nat.zero_mul, Nat.sub_zero, Option.map_some, Addr.add_lit, Nat.add_zero, ite_self]
      · have h7 : k * size ≤ n * size := Nat.mul_le_mul_right size hk
        rw [← h6, List.take_take, Nat.min_eq_left h7]
section
variable {P : Program} {w0 : World} {n : NT} {L : Slots} {H H' : List Atom}
theorem Tri.ownCut {G : Act → World → Prop} {e : TypeId} {size m : Nat} {v : Value} {xs : List Value} (j : Nat) (p : Pull H (own e size v m xs) H') (hj : j ≤ m)
    (k : Tri w0 G n L (own e size (subv v size 0 j) j (xs.take (j * size)) :: H')) : Tri w0 G n L H := fun a w ha hw => by
  obtain ⟨he, s, h1, h2, h3⟩ := hw.pull p
  exact k a w ha ⟨he, s, h1, own_cut h2 hj, h3⟩
end
theorem appendN_run {P : Program} {t tn e ty : TypeId} {kn kq : IntKind} {size bytes k : Nat} {z : List Value} [ht : TSlice P t e] [htn : TInt P tn kn] [he : TElem P e size bytes z] {w : World} (h0 : 0 < k) (hb : k * bytes ≤ 140737488355328) :
    ∃ v' w', (Builtin.append_ #[t, tn] ty #[.slice none 0 0, .int kq k]).run P w = .ok v' w' ∧ w.grownBy w' (Value.slice none 0 0).ownBlock ∧ (v'.ownBlock = (Value.slice none 0 0).ownBlock ∨ ∀ b, v'.ownBlock = some b → w.heap.size ≤ b) ∧ ∃ zs, w'.ownsRow 0 e size v' k zs := by
  obtain ⟨i, z0, hi, hz, hsz, hby, hzz, hzs, p1, p2, p4⟩ := he.get
  have hkb : k * 1 ≤ k * bytes := Nat.mul_le_mul_left _ (by omega)
  have h63 : k ≤ maxLen := by unfold maxLen; omega
  have hrun := Lib.run_append_nil_zeros (P := P) w t tn ty e i z0 kq kn ht.ok htn.ok hi hz k h0 (by omega) (by unfold maxLen at h63; omega) (by rw [hby]; omega)
  refine ⟨_, _, hrun, ⟨rfl, rfl, rfl, by simp, fun j hj _ => Below.heap_alloc w.drew _ j hj⟩, .inr (fun b hb => by simp [Value.ownBlock] at hb; omega), (Builtin.zeroCells z0.cells k).toList, ?_⟩
  have := ownsRow_new (w := w) (e := e) (bytes := bytes) (m := k) (old := 0) (xs := (Builtin.zeroCells z0.cells k).toList) hzs (by simp [size_zeroCells, hzs]) h63
  simpa using this
section
variable {P : Program} {w0 : World} {n : NT} {L : Slots} {H H' : List Atom} {Q : Exit → Act → World → Prop} {K : Act → World → Prop} {d : Nat}
variable {ty : TypeId} {pos : String} {aft : Array Edge} {g : Option (Nat × Bool)}
theorem o_cap {T e : TypeId} {x : Operand} {A : Option Addr} {m c : Nat} [ht : TSlice P T e] (hx : ev L x = some (.slice A m c)) (hn : Nat.blt d n = true) (k : Tri w0 K n ((d, .int .i64 (c : Int)) :: L) H) :
    Tri w0 (OpG P ⟨some d, .call { callee := .builtin .cap, args := #[x], argTypes := #[T] }, ty, pos, aft, g⟩ K Q) n L H :=
  Tri.val rfl hn _ (fun a w ha _ => by simp [execOp, resolve, invoke, builtin, ha.eval hx, Builtin.cap_, run_underlying ht.ok, goInt]) k
/-- noughts behind nothing -/
theorem o_appendN {t tn e : TypeId} {kn kq : IntKind} {size bytes : Nat} {z : List Value} [TSlice P t e] [TInt P tn kn] [TElem P e size bytes z] {s x : Operand} {k : Nat} {i : Int} (hx : ev L s = some (.slice none 0 0)) (hy : ev L x = some (.int kq i)) (hi : i = (k : Int)) (p : Pull H (own e size (.slice none 0 0) 0 []) H') (h0 : 0 < k) (hb : k * bytes ≤ 140737488355328) (hn : Nat.blt d n = true)
    (kk : ∀ v' zs, Tri w0 K n ((d, v') :: L) (own e size v' k zs :: H')) :
    Tri w0 (OpG P ⟨some d, .call { callee := .builtin .append, args := #[s, x], argTypes := #[t, tn] }, ty, pos, aft, g⟩ K Q) n L H :=
  Tri.valW rfl hn (fun a w ha hw => by
    subst hi
    obtain ⟨v', w', q1, q2, q3, zs, q4⟩ := appendN_run (P := P) (t := t) (tn := tn) (e := e) (ty := ty) (kq := kq) (w := w) h0 hb
    refine ⟨v', w', ?_, fun a' ha' => kk v' zs a' w' ha' (St.grown (hw.pull p) q4 q3 q2)⟩
    simp [execOp, resolve, invoke, builtin, ha.eval hx, ha.eval hy, q1])
end
end Go.Gv
end
section
/- Many texts that are read only: more of them. -/
namespace Go.Gv
open Go Go.RowKit
set_option linter.unusedVariables false
set_option linter.unusedSimpArgs false
theorem manyRd_both {l1 l2 : List (Value × Nat × List Value)} (w : World) (s1 s2 : Nat → Prop) (h1 : manyRd l1 (res w s1)) (h2 : manyRd l2 (res w s2)) : manyRd (l1 ++ l2) (res w (fun b => s1 b ∨ s2 b)) := by
  have up1 : ∀ b o, res w s1 b = some o → res w (fun b => s1 b ∨ s2 b) b = some o := fun b o h => by
    have := res_some h
    unfold res; rw [if_pos (.inl this.1)]; exact this.2
  have up2 : ∀ b o, res w s2 b = some o → res w (fun b => s1 b ∨ s2 b) b = some o := fun b o h => by
    have := res_some h
    unfold res; rw [if_pos (.inr this.1)]; exact this.2
  intro x hx
  rcases List.mem_append.1 hx with hx | hx
  · exact (h1 x hx).mono up1
  · exact (h2 x hx).mono up2
section
variable {P : Program} {w0 : World} {n : NT} {L : Slots} {H H1 H2 : List Atom}
/-- two lists of texts are one -/
theorem Tri.joinM {G : Act → World → Prop} {l1 l2 : List (Value × Nat × List Value)} (pA : Pull H (manyRd l1) H1) (pB : Pull H1 (manyRd l2) H2) (k : Tri w0 G n L (manyRd (l1 ++ l2) :: H2)) : Tri w0 G n L H :=
  Tri.merge pA pB (fun w s1 s2 _ h1 h2 => manyRd_both w s1 s2 h1 h2) k
/-- an owned row of elements of any size is one more -/
theorem Tri.joinS {G : Act → World → Prop} {e : TypeId} {size m : Nat} {v : Value} {xs : List Value} {l : List (Value × Nat × List Value)} (pA : Pull H (manyRd l) H1) (pB : Pull H1 (own e size v m xs) H2) (k : Tri w0 G n L (manyRd (l ++ [(v, m, xs)]) :: H2)) : Tri w0 G n L H :=
  Tri.merge pA pB (fun w s1 s2 _ h1 h2 => manyRd_add w s1 s2 h1 (own_Rd h2)) k
/-- texts that a memory that is there reads -/
theorem Tri.exM {G : Act → World → Prop} {h0 : PH} (l : List (Value × Nat × List Value)) (p : Pull H (Ex h0) H1) (hl : ∀ x ∈ l, Rd h0 x.1 x.2.1 x.2.2) (k : Tri w0 G n L (manyRd l :: H1)) : Tri w0 G n L H := fun a w ha hw => by
  obtain ⟨he, s, h1, h2, h3⟩ := hw.pull p
  exact k a w ha ⟨he, s, h1, fun x hx => (by have e : res w s = h0 := h2; rw [e]; exact hl x hx), h3⟩
/-- no text at all -/
theorem Tri.noneM {G : Act → World → Prop} (k : Tri w0 G n L (manyRd [] :: H)) : Tri w0 G n L H := Tri.pure_ (fun h => manyRd_nil h) k
end
end Go.Gv
end
