/- Mixed regions: more that stays; guarded operations; slots in another spelling. -/
import Derived.Test.YtmomlimhjnfadaaGvMix
namespace Go.Gv
open Go Go.RowKit
set_option linter.unusedVariables false
set_option linter.unusedSimpArgs false

section
variable {P : Program} {ops : Array Oper} {md : Region.Mode} {Q : Exit → Act → World → Prop}
theorem mAny_mono {DD DD' : WP → Prop} (hDD : ∀ D, DD D → DD' D) : ∀ (f : Nat) (ls : Array Bool) (a : Act) (D D' : WP), (∀ w, D' w → D w) → mAny P md ops DD Q f ls a D → mAny P md ops DD' Q f ls a D'
  | 0, _, _, _, _, hd, h => ⟨h.1, fun w hw => h.2 w (hd w hw)⟩
  | f + 1, ls, a, D, D', hd, h => by
    refine ⟨fun h0 w hw => h.1 h0 w (hd w hw), fun i hi => ?_⟩
    have hs := h.2 i hi
    unfold mOp at *
    cases ho : ops[i]? with
    | none => simp only [ho] at hs ⊢; exact mAny_mono hDD f _ _ _ _ hd hs
    | some o =>
      simp only [ho] at hs ⊢
      by_cases hwt : Region.wanted o (yielded ops a.tmps) = true
      · rw [if_pos hwt] at hs ⊢
        intro w hw
        refine Oper.wp_mono ?_ (hs w (hd w hw))
        rintro a' w' ⟨E, e1, e2, e3⟩
        exact ⟨E, hDD E e1, e2, mAny_mono hDD f _ _ _ _ (fun _ h => h) e3⟩
      · rw [if_neg hwt] at hs ⊢
        exact mAny_mono hDD f _ _ _ _ hd hs
end

section
variable {P : Program} {w0 : World} {n : NT} {L : Slots} {H H' : List Atom} {Q : Exit → Act → World → Prop} {K : Act → World → Prop} {o : Oper} {d : Nat}

/-- more of memory stays from here on -/
theorem TriM.more (X : List Atom) {ops : Array Oper} {Hs F F' : List Atom} {m : Nat} {ls : Array Bool} (p : Pulls F X F') (h : TriM P w0 ops Q (Hs ++ X) m ls n L F') : TriM P w0 ops Q Hs m ls n L F := fun a ha => by
  refine mAny_mono (DD := Dcl w0 (Hs ++ X)) (fun D ⟨G, e⟩ => ⟨X ++ G, by rw [e]; funext w; rw [List.append_assoc]⟩) m ls a _ _ (fun w hw => ?_) (h a ha)
  rw [List.append_assoc]
  exact ⟨hw.1, satUnder Hs (fun av => Sat.pulls p av) _ hw.2⟩
where
  satUnder {w : World} : ∀ (As : List Atom) {H H' : List Atom}, (∀ av, Sat w av H → Sat w av H') → ∀ av, Sat w av (As ++ H) → Sat w av (As ++ H')
    | [], _, _, h, av, hs => h av hs
    | _ :: As, _, _, h, av, hs => Sat.under (satUnder As h) av hs
theorem TriM.setv {ops : Array Oper} {Hs F : List Atom} {m : Nat} {ls : Array Bool} (k : Nat) {u : Value} (v : Value) (h : look L k = some u) (hv : u = v) (t : TriM P w0 ops Q Hs m ls n ((k, v) :: L) F) : TriM P w0 ops Q Hs m ls n L F := fun a ha =>
  t a ⟨ha.defers, ha.size, fun t u e => by
    rw [look_cons] at e
    by_cases hk : k = t
    · subst hk; simp at e; subst e; subst hv; exact ha.get _ _ h
    · rw [if_neg hk] at e; exact ha.get _ _ e⟩
theorem TriM.setb {ops : Array Oper} {Hs F : List Atom} {m : Nat} {ls : Array Bool} (k : Nat) {i : Bool} (j : Bool) (h : look L k = some (.bool i)) (hi : i = j) (t : TriM P w0 ops Q Hs m ls n ((k, .bool j) :: L) F) : TriM P w0 ops Q Hs m ls n L F := TriM.setv k _ h (by rw [hi]) t
theorem TriM.casesB {ops : Array Oper} {Hs F : List Atom} {m : Nat} {ls : Array Bool} (k : Nat) {b : Bool} (h : look L k = some (.bool b)) (ht : b = true → TriM P w0 ops Q Hs m ls n ((k, .bool true) :: L) F) (hf : b = false → TriM P w0 ops Q Hs m ls n ((k, .bool false) :: L) F) : TriM P w0 ops Q Hs m ls n L F := by
  cases b
  · exact TriM.setv k _ h rfl (hf rfl)
  · exact TriM.setv k _ h rfl (ht rfl)

theorem TriM.aY {ops : Array Oper} {Hs F : List Atom} {m : Nat} {ls : Array Bool} (i : Nat) {g : Nat} {b b' : Bool} (ho : ops.toList[i]? = some o) (hg : o.guard = some (g, b)) (hyl : yl L ops g = some b') (hb : b' = b) (hr : decide (Region.ready .any ops ls = [i]) = true)
    (h : Tri w0 (OpG P o (MixK P w0 ops Q Hs m (ls.setIfInBounds i true)) (fun _ _ _ => False)) n L (Hs ++ F)) : TriM P w0 ops Q Hs (m + 1) ls n L F := fun a ha => by
  have hr' := of_decide_eq_true hr
  refine ⟨fun h0 => (by rw [h0] at hr'; cases hr'), fun j hj => ?_⟩
  rw [hr'] at hj
  have : j = i := by simpa using hj
  subst this
  exact mOp_of (by rw [← Array.getElem?_toList]; exact ho) (by simp [Region.wanted, hg, yl_yielded ha hyl, hb]) ha h
theorem TriM.a2Y {ops : Array Oper} {Hs F : List Atom} {m : Nat} {ls : Array Bool} (i j : Nat) {oi oj : Oper} {gi gj : Nat} {bi bi' bj bj' : Bool} (hoi : ops.toList[i]? = some oi) (hoj : ops.toList[j]? = some oj) (hgi : oi.guard = some (gi, bi)) (hgj : oj.guard = some (gj, bj)) (hyi : yl L ops gi = some bi') (hyj : yl L ops gj = some bj') (hbi : bi' = bi) (hbj : bj' = bj) (hr : decide (Region.ready .any ops ls = [i, j]) = true)
    (hi : Tri w0 (OpG P oi (MixK P w0 ops Q Hs m (ls.setIfInBounds i true)) (fun _ _ _ => False)) n L (Hs ++ F))
    (hj : Tri w0 (OpG P oj (MixK P w0 ops Q Hs m (ls.setIfInBounds j true)) (fun _ _ _ => False)) n L (Hs ++ F)) : TriM P w0 ops Q Hs (m + 1) ls n L F := fun a ha => by
  have hr' := of_decide_eq_true hr
  refine ⟨fun h0 => (by rw [h0] at hr'; cases hr'), fun k hk => ?_⟩
  rw [hr'] at hk
  simp at hk
  rcases hk with rfl | rfl
  · exact mOp_of (by rw [← Array.getElem?_toList]; exact hoi) (by simp [Region.wanted, hgi, yl_yielded ha hyi, hbi]) ha hi
  · exact mOp_of (by rw [← Array.getElem?_toList]; exact hoj) (by simp [Region.wanted, hgj, yl_yielded ha hyj, hbj]) ha hj
end
end Go.Gv
