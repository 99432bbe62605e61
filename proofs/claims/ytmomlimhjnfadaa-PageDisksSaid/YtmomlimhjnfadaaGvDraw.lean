/- Regions whose order is open. (1) Quiet ones: each operation has one value in every world of a class, and stays in the class. (2) Any other: by cases on which operation comes first. -/
import Derived.Test.YtmomlimhjnfadaaGvMore
namespace Go.Gv
open Go Go.RowKit
set_option linter.unusedVariables false
set_option linter.unusedSimpArgs false

section
variable {P : Program} {ops : Array Oper} {md : Region.Mode} {C : World → Prop}

/-- one value, and a world of the class -/
def qres (P : Program) (C : World → Prop) (v : Value) : Result Next → Prop
  | .ok (.value u) w' => u = v ∧ C w'
  | .ok .skip w' => v = undef ∧ C w'
  | .ok (.enter f args) w' => Calls P f args w' (Ret fun u w'' => u = v ∧ C w'')
  | .ok (.row r args) w' => Rows P r args w' (fun u w'' => u = v ∧ C w'')
  | _ => False

def qyield (P : Program) (ops : Array Oper) (C : World → Prop) (o : Oper) (v : Value) (a : Act) : Prop :=
  (Region.wanted o (yielded ops a.tmps) = true ∧ ∀ w, C w → qres P C v ((execOp a.eval o).run P w)) ∨
  (Region.wanted o (yielded ops a.tmps) = false ∧ v = undef)

theorem qyield.same {o : Oper} {v : Value} {a a' : Act} (h : qyield P ops C o v a) (he : execOp a'.eval o = execOp a.eval o)
    (hw : Region.wanted o (yielded ops a'.tmps) = Region.wanted o (yielded ops a.tmps)) : qyield P ops C o v a' := by
  unfold qyield at *
  rw [he, hw]; exact h

def qStep (P : Program) (ops : Array Oper) (C : World → Prop) (i : Nat) (K : Act → Prop) (a : Act) : Prop :=
  match ops[i]? with
  | none => K a
  | some o => ∃ v, qyield P ops C o v a ∧ K (a.put o.dst v)

theorem qStep.mono {i : Nat} {K K' : Act → Prop} {a : Act} (h : ∀ a, K a → K' a) (hh : qStep P ops C i K a) : qStep P ops C i K' a := by
  unfold qStep at *
  split
  · exact h _ (by simpa [*] using hh)
  · rename_i o ho
    simp only [ho] at hh
    obtain ⟨v, h1, h2⟩ := hh
    exact ⟨v, h1, h _ h2⟩

def qAny (P : Program) (md : Region.Mode) (ops : Array Oper) (C : World → Prop) (Q : Act → Prop) : Nat → Array Bool → Act → Prop
  | 0, listed, a => Region.ready md ops listed = [] ∧ Q a
  | fuel + 1, listed, a => (Region.ready md ops listed = [] → Q a) ∧ ∀ i ∈ Region.ready md ops listed, qStep P ops C i (qAny P md ops C Q fuel (listed.setIfInBounds i true)) a

theorem any_of_q {Q : Act → Prop} {Q' : Exit → Act → World → Prop} (hQ : ∀ a w, C w → Q a → Q' .normal a w) : ∀ (fuel : Nat) (listed : Array Bool) (a : Act) (w : World), C w →
    qAny P md ops C Q fuel listed a → wpAny P md ops Q' fuel listed a w
  | 0, _, _, _, hw, h => ⟨h.1, hQ _ _ hw h.2⟩
  | fuel + 1, listed, a, w, hw, h => by
    refine ⟨fun h0 => hQ _ _ hw (h.1 h0), fun i hi => ?_⟩
    have hs := h.2 i hi
    unfold qStep at hs
    unfold Go.wpOp
    cases ho : ops[i]? with
    | none => simp only [ho] at hs ⊢; exact any_of_q hQ fuel _ _ _ hw hs
    | some o =>
      simp only [ho] at hs ⊢
      obtain ⟨v, hy, hK⟩ := hs
      rcases hy with ⟨hwt, hv⟩ | ⟨hwt, rfl⟩
      · rw [if_pos hwt]
        refine .inl ?_
        unfold Oper.wp
        have hr := hv w hw
        generalize (execOp a.eval o).run P w = r at hr
        cases r with
        | halt x w' => exact hr.elim
        | ok nx w' =>
          cases nx with
          | value u =>
            obtain ⟨rfl, hc⟩ := hr
            exact any_of_q hQ fuel _ _ _ hc hK
          | skip =>
            obtain ⟨rfl, hc⟩ := hr
            exact any_of_q hQ fuel _ _ _ hc hK
          | enter f args =>
            refine Calls.mono hr ?_
            intro e w'' he
            cases e with
            | returned u => obtain ⟨rfl, hc⟩ := he; exact any_of_q hQ fuel _ _ _ hc hK
            | panicked c => exact he.elim
            | outgrown => exact he.elim
          | row r args =>
            refine Rows.mono hr ?_
            intro u w'' he
            obtain ⟨rfl, hc⟩ := he
            exact any_of_q hQ fuel _ _ _ hc hK
          | _ => exact hr.elim
      · rw [if_neg (by rw [hwt]; simp)]
        exact any_of_q hQ fuel _ _ _ hw hK

theorem qStep_put {j : Nat} {oi oj : Oper} {v : Value} (hj : ops[j]? = some oj) (hap : oi.apart ops oj = true)
    (hsi : ∀ cs b, oi.op ≠ .select cs b) (hsj : ∀ cs b, oj.op ≠ .select cs b) {K : Act → Prop} {a : Act}
    (hy : qyield P ops C oi v a) (h : qStep P ops C j K (a.put oi.dst v)) :
    qStep P ops C j (fun a' => qyield P ops C oi v a' ∧ K (a'.put oi.dst v)) a := by
  obtain ⟨h1, h2, h3⟩ := Oper.apart_spec hap
  unfold qStep at *
  simp only [hj] at *
  obtain ⟨u, hu, hn⟩ := h
  exact ⟨u, hu.same (execOp_put oj hsj a oi.dst v h1).symm (wanted_put oj a oi.dst v h1).symm,
    hy.same (execOp_put oi hsi a oj.dst u h3) (wanted_put oi a oj.dst u h3), by rw [← Act.put_comm a v u h2]; exact hn⟩

theorem qAny_first {Q : Act → Prop} {i : Nat} {oi : Oper} {v : Value} (hi : ops[i]? = some oi) (hsel : ∀ (j : Nat) (o : Oper) cs b, ops[j]? = some o → o.op ≠ .select cs b) :
    ∀ (fuel : Nat) (listed : Array Bool) (a : Act),
      (∀ j oj, ops[j]? = some oj → j ≠ i → listed.getD j true = false → (∀ e ∈ oj.after, Region.binds md e = true → e.on ≠ i) → oi.apart ops oj = true) →
      i ∈ Region.ready md ops listed → qyield P ops C oi v a →
      qAny P md ops C Q fuel (listed.setIfInBounds i true) (a.put oi.dst v) → qAny P md ops C Q (fuel + 1) listed a := by
  intro fuel
  induction fuel with
  | zero =>
    intro listed a _ hr hy G
    refine ⟨fun h => (by rw [h] at hr; cases hr), fun j hj => ?_⟩
    by_cases hji : j = i
    · subst hji
      unfold qStep; simp only [hi]; exact ⟨v, hy, G⟩
    · have := ready_mono hj hji
      rw [G.1] at this; cases this
  | succ fuel ih =>
    intro listed a hfree hr hy G
    refine ⟨fun h => (by rw [h] at hr; cases hr), fun j hj => ?_⟩
    by_cases hji : j = i
    · subst hji
      unfold qStep; simp only [hi]; exact ⟨v, hy, G⟩
    · have g1 := G.2 j (ready_mono hj hji)
      obtain ⟨hjun, oj, hoj, hall⟩ := mem_ready.1 hj
      have hnot : ∀ e ∈ oj.after, Region.binds md e = true → e.on ≠ i := fun e he hb heq => by
        have q1 := hall e he hb
        have q0 := (mem_ready.1 hr).1
        rw [heq] at q1
        rcases Nat.lt_or_ge i listed.size with h' | h'
        · simp [h'] at q0 q1; rw [q0] at q1; cases q1
        · simp [Array.getElem?_eq_none h'] at q1
      have g2 := qStep_put hoj (hfree j oj hoj hji hjun hnot) (fun cs b => hsel i oi cs b hi) (fun cs b => hsel j oj cs b hoj) hy g1
      have hfree' : ∀ k ok, ops[k]? = some ok → k ≠ i → (listed.setIfInBounds j true).getD k true = false →
          (∀ e ∈ ok.after, Region.binds md e = true → e.on ≠ i) → oi.apart ops ok = true := fun k ok hk hki hun hno => by
        refine hfree k ok hk hki ?_ hno
        by_cases hjk : j = k
        · subst hjk; exact hjun
        · rw [getD_set_ne true hjk] at hun; exact hun
      refine qStep.mono (fun a' g3 => ih (listed.setIfInBounds j true) a' hfree' (ready_mono hr (Ne.symm hji)) g3.1 ?_) g2
      rw [Array.setIfInBounds_comm _ _ hji]
      exact g3.2

/-- the text's order -/
def qLex (P : Program) (ops : Array Oper) (C : World → Prop) (Q : Act → Prop) : List Oper → Act → Prop
  | [], a => Q a
  | o :: l, a => ∃ v, qyield P ops C o v a ∧ qLex P ops C Q l (a.put o.dst v)

theorem qAny_lex {Q : Act → Prop} (hs : Region.noSelect ops = true) : ∀ (l : List Oper) (k : Nat) (listed : Array Bool) (a : Act), (∀ j, l[j]? = ops[k + j]?) →
    Region.lexFrom md ops l.length k listed = true → qLex P ops C Q l a → qAny P md ops C Q l.length listed a
  | [], _, _, _, _, hB, h => ⟨by simpa [Region.lexFrom] using hB, h⟩
  | o :: l, k, listed, a, hl, hB, h => by
    have h0 : ops[k]? = some o := by simpa using (hl 0).symm
    simp only [List.length_cons, Region.lexFrom, Bool.and_eq_true] at hB
    obtain ⟨⟨hr, hf⟩, hB'⟩ := hB
    obtain ⟨v, hy, hK⟩ := h
    exact qAny_first h0 (Region.noSelect_spec hs) l.length listed a (Region.free_spec h0 hf) (by simpa using hr) hy
      (qAny_lex hs l (k + 1) _ _ (fun j => by have := hl (j + 1); simpa [Nat.add_assoc, Nat.add_comm 1 j] using this) hB' hK)
end

section
variable {P : Program} {w0 : World} {n : NT} {L : Slots} {H H' : List Atom} {Q : Exit → Act → World → Prop} {K : Act → World → Prop} {o : Oper} {d : Nat}

/-- the judgement for a quiet region's operations, in the text's order -/
def TriQ (P : Program) (w0 : World) (ops : Array Oper) (Q : Exit → Act → World → Prop) (l : List Oper) (n : NT) (L : Slots) (H : List Atom) : Prop :=
  ∀ a, Has a n L → qLex P ops (fun w => St w0 w H) (fun a' => ∀ w, St w0 w H → Q .normal a' w) l a

class TMixed (P : Program) : Prop where
  ok : P.follows .mixedOrders = true

theorem Tri.quiet {id : Nat} {l : List Oper} [hm : TMixed P] (hB : Region.lexB .any l.toArray = true) (h : TriQ P w0 l.toArray Q l n L H) : Tri w0 ((Code.region id l.toArray true).wp P Q) n L H := fun a w ha hw => by
  simp only [Region.lexB, Bool.and_eq_true] at hB
  refine wp_region_any hm.ok (any_of_q (C := fun w => St w0 w H) (Q := fun a' => ∀ w, St w0 w H → Q .normal a' w) (fun _ w' hw' h => h w' hw') _ _ _ _ (hw.drawn _) ?_)
  have := qAny_lex (P := P) (C := fun w => St w0 w H) (Q := fun a' => ∀ w, St w0 w H → Q .normal a' w) (md := .any) hB.1 l 0 (Array.replicate l.toArray.size false) a (by simp) (by simpa using hB.2) (h a ha)
  simpa using this

theorem TriQ.nil {ops : Array Oper} (h : Tri w0 (Q .normal) n L H) : TriQ P w0 ops Q [] n L H := fun a ha w hw => h a w ha hw

theorem qres_of {v : Value} (hd : o.dst = some d) (hn : Nat.blt d n = true) (h : ∀ K : Act → World → Prop, Tri w0 K n ((d, v) :: L) H → Tri w0 (OpG P o K (fun _ _ _ => False)) n L H) {a : Act} (ha : Has a n L) {w : World} (hw : St w0 w H) :
    qres P (fun w => St w0 w H) v ((execOp a.eval o).run P w) := by
  have hlt : d < a.tmps.size := by rw [ha.size]; simpa [Nat.blt_eq] using hn
  have g := h (fun a' w' => a'.tmps[d]? = some v ∧ a'.defers = n.ds ∧ St w0 w' H) (fun a' w' ha' hw' => ⟨ha'.get d v (by rw [look_cons, if_pos rfl]), ha'.defers, hw'⟩) a w ha hw
  have put : ∀ u, ((a.put o.dst u).tmps[d]? = some v) → u = v := by
    intro u hu
    rw [hd] at hu
    simpa [Act.put, hlt] using hu
  rcases g with g | ⟨_, _, _, g⟩
  · unfold Oper.wp at g
    generalize (execOp a.eval o).run P w = r at g
    cases r with
    | halt x w' => cases x <;> exact g.elim
    | ok nx w' =>
      cases nx with
      | value u => exact ⟨put u g.1, g.2.2⟩
      | skip => exact ⟨(put undef g.1).symm, g.2.2⟩
      | enter f args =>
        refine Calls.mono g ?_
        intro e w'' he
        cases e with
        | returned u => exact ⟨put u he.1, he.2.2⟩
        | panicked c => exact he.elim
        | outgrown => obtain ⟨_, _, he⟩ := he; exact he.elim
      | defer dd =>
        have e : (({ a with defers := dd :: a.defers } : Act).put o.dst undef).defers = dd :: a.defers := by cases o.dst <;> rfl
        have g1 := g.2.1
        rw [e] at g1; rw [ha.defers] at g1; exact absurd (congrArg List.length g1) (by simp)
      | row r args => exact Rows.mono g (fun u w'' he => ⟨put u he.1, he.2.2⟩)
      | _ => exact g.elim
  · exact g.elim

theorem TriQ.op {ops : Array Oper} {rest : List Oper} {v : Value} (hg : o.guard = none) (hd : o.dst = some d) (hn : Nat.blt d n = true) (h : ∀ K : Act → World → Prop, Tri w0 K n ((d, v) :: L) H → Tri w0 (OpG P o K (fun _ _ _ => False)) n L H) (k : TriQ P w0 ops Q rest n ((d, v) :: L) H) : TriQ P w0 ops Q (o :: rest) n L H := fun a ha =>
  ⟨v, .inl ⟨by simp [Region.wanted, hg], fun w hw => qres_of hd hn h ha hw⟩, by rw [hd]; exact k _ (ha.put hn v)⟩
theorem TriQ.opYes {ops : Array Oper} {rest : List Oper} {v : Value} {j : Nat} {b b' : Bool} (hg : o.guard = some (j, b)) (hy : yl L ops j = some b') (hb : b' = b) (hd : o.dst = some d) (hn : Nat.blt d n = true) (h : ∀ K : Act → World → Prop, Tri w0 K n ((d, v) :: L) H → Tri w0 (OpG P o K (fun _ _ _ => False)) n L H) (k : TriQ P w0 ops Q rest n ((d, v) :: L) H) : TriQ P w0 ops Q (o :: rest) n L H := fun a ha =>
  ⟨v, .inl ⟨by simp [Region.wanted, hg, yl_yielded ha hy, hb], fun w hw => qres_of hd hn h ha hw⟩, by rw [hd]; exact k _ (ha.put hn v)⟩
theorem TriQ.opNo {ops : Array Oper} {rest : List Oper} {j : Nat} {b b' c : Bool} (hg : o.guard = some (j, b)) (hy : yl L ops j = some b') (hb : b' = c) (hc : (c != b) = true) (hd : o.dst = some d) (hn : Nat.blt d n = true) (k : TriQ P w0 ops Q rest n ((d, undef) :: L) H) : TriQ P w0 ops Q (o :: rest) n L H := fun a ha =>
  ⟨undef, .inr ⟨by subst hb; have hne : b' ≠ b := by simpa using hc
                   simp [Region.wanted, hg, yl_yielded ha hy, hne], rfl⟩, by rw [hd]; exact k _ (ha.put hn undef)⟩
theorem TriQ.setv {ops : Array Oper} {l : List Oper} (k : Nat) {u : Value} (v : Value) (h : look L k = some u) (hv : u = v) (t : TriQ P w0 ops Q l n ((k, v) :: L) H) : TriQ P w0 ops Q l n L H := fun a ha =>
  t a ⟨ha.defers, ha.size, fun t u e => by
    rw [look_cons] at e
    by_cases hk : k = t
    · subst hk; simp at e; subst e; subst hv; exact ha.get _ _ h
    · rw [if_neg hk] at e; exact ha.get _ _ e⟩
theorem TriQ.setb {ops : Array Oper} {l : List Oper} (k : Nat) {i : Bool} (j : Bool) (h : look L k = some (.bool i)) (hi : i = j) (t : TriQ P w0 ops Q l n ((k, .bool j) :: L) H) : TriQ P w0 ops Q l n L H := TriQ.setv k _ h (by rw [hi]) t
theorem TriQ.seti {ops : Array Oper} {l : List Oper} (k : Nat) {ik : IntKind} {i : Int} (j : Int) (h : look L k = some (.int ik i)) (hi : i = j) (t : TriQ P w0 ops Q l n ((k, .int ik j) :: L) H) : TriQ P w0 ops Q l n L H := TriQ.setv k _ h (by rw [hi]) t
/-- a test of a slot: two ways -/
theorem TriQ.casesB {ops : Array Oper} {l : List Oper} (k : Nat) {b : Bool} (h : look L k = some (.bool b)) (ht : b = true → TriQ P w0 ops Q l n ((k, .bool true) :: L) H) (hf : b = false → TriQ P w0 ops Q l n ((k, .bool false) :: L) H) : TriQ P w0 ops Q l n L H := by
  cases b
  · exact TriQ.setv k _ h rfl (hf rfl)
  · exact TriQ.setv k _ h rfl (ht rfl)
theorem Tri.casesB {G : Act → World → Prop} (k : Nat) {b : Bool} (h : look L k = some (.bool b)) (ht : b = true → Tri w0 G n ((k, .bool true) :: L) H) (hf : b = false → Tri w0 G n ((k, .bool false) :: L) H) : Tri w0 G n L H := by
  cases b
  · exact Tri.setv k _ h rfl (hf rfl)
  · exact Tri.setv k _ h rfl (ht rfl)

/-! (2) whichever comes -/
theorem Tri.any {id : Nat} {l : List Oper} [hm : TMixed P] (h : Tri w0 (wpAny P .any l.toArray Q l.length (Array.replicate l.length false)) n L H) : Tri w0 ((Code.region id l.toArray true).wp P Q) n L H := fun a w ha hw =>
  wp_region_any hm.ok (by
    have := h a _ ha (hw.drawn (w.drawn + 1))
    simp only [List.size_toArray]; exact this)
end
end Go.Gv
