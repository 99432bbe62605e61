/- Regions whose order is open, where some operations turn memory: quiet ones are taken as soon as they may be; of the others each order is shown. -/
import Derived.Test.YtmomlimhjnfadaaGvTail
namespace Go.Gv
open Go Go.RowKit
set_option linter.unusedVariables false
set_option linter.unusedSimpArgs false

abbrev WP := World → Prop

section
variable {P : Program} {ops : Array Oper} {md : Region.Mode} {DD : WP → Prop} {Q : Exit → Act → World → Prop}

theorem wp_false_mono {o : Oper} {a : Act} {w : World} {K : Act → World → Prop} (h : o.wp P a w K (fun _ _ _ => False)) : o.wp P a w K Q := by
  unfold Oper.wp at *
  generalize (execOp a.eval o).run P w = r at *
  cases r with
  | halt x w' => cases x <;> exact h.elim
  | ok nx w' =>
    cases nx with
    | enter f args =>
      refine Calls.mono h ?_
      intro e w'' he
      cases e with
      | returned u => exact he
      | panicked c => exact he.elim
      | outgrown => obtain ⟨_, _, he⟩ := he; exact he.elim
    | _ => exact h

/-- an operation, from a class of worlds -/
def mOp (P : Program) (ops : Array Oper) (DD : WP → Prop) (i : Nat) (K : Act → WP → Prop) (a : Act) (D : WP) : Prop :=
  match ops[i]? with
  | none => K a D
  | some o => if Region.wanted o (yielded ops a.tmps) = true then ∀ w, D w → o.wp P a w (fun a' w' => ∃ D', DD D' ∧ D' w' ∧ K a' D') (fun _ _ _ => False) else K (a.put o.dst undef) D

def mAny (P : Program) (md : Region.Mode) (ops : Array Oper) (DD : WP → Prop) (Q : Exit → Act → World → Prop) : Nat → Array Bool → Act → WP → Prop
  | 0, listed, a, D => Region.ready md ops listed = [] ∧ ∀ w, D w → Q .normal a w
  | f + 1, listed, a, D => (Region.ready md ops listed = [] → ∀ w, D w → Q .normal a w) ∧ ∀ i ∈ Region.ready md ops listed, mOp P ops DD i (mAny P md ops DD Q f (listed.setIfInBounds i true)) a D

theorem any_of_m : ∀ (f : Nat) (listed : Array Bool) (a : Act) (D : WP) (w : World), D w → mAny P md ops DD Q f listed a D → wpAny P md ops Q f listed a w
  | 0, _, _, _, w, hw, h => ⟨h.1, h.2 w hw⟩
  | f + 1, listed, a, D, w, hw, h => by
    refine ⟨fun h0 => h.1 h0 w hw, fun i hi => ?_⟩
    have hs := h.2 i hi
    unfold mOp at hs
    unfold Go.wpOp
    cases ho : ops[i]? with
    | none => simp only [ho] at hs ⊢; exact any_of_m f _ _ _ _ hw hs
    | some o =>
      simp only [ho] at hs ⊢
      by_cases hwt : Region.wanted o (yielded ops a.tmps) = true
      · rw [if_pos hwt] at hs ⊢
        refine .inl (Oper.wp_mono ?_ (wp_false_mono (hs w hw)))
        rintro a' w' ⟨D', _, hd, hk⟩
        exact any_of_m f _ _ _ _ hd hk
      · rw [if_neg hwt] at hs ⊢
        exact any_of_m f _ _ _ _ hw hs

/-- an operation with one value, that leaves every class as it is -/
def myield (P : Program) (ops : Array Oper) (DD : WP → Prop) (o : Oper) (v : Value) (a : Act) : Prop :=
  (Region.wanted o (yielded ops a.tmps) = true ∧ ∀ D, DD D → ∀ w, D w → qres P D v ((execOp a.eval o).run P w)) ∨
  (Region.wanted o (yielded ops a.tmps) = false ∧ v = undef)

theorem myield.same {o : Oper} {v : Value} {a a' : Act} (h : myield P ops DD o v a) (he : execOp a'.eval o = execOp a.eval o)
    (hw : Region.wanted o (yielded ops a'.tmps) = Region.wanted o (yielded ops a.tmps)) : myield P ops DD o v a' := by
  unfold myield at *
  rw [he, hw]; exact h

theorem myield.mOp {i : Nat} {o : Oper} {v : Value} {a : Act} {D : WP} {K : Act → WP → Prop} (hi : ops[i]? = some o) (h : myield P ops DD o v a) (hD : DD D) (hK : K (a.put o.dst v) D) : mOp P ops DD i K a D := by
  unfold Gv.mOp
  simp only [hi]
  rcases h with ⟨hw, h⟩ | ⟨hw, rfl⟩
  · rw [if_pos hw]
    intro w hd
    have hr := h D hD w hd
    unfold Oper.wp
    generalize (execOp a.eval o).run P w = r at hr
    cases r with
    | halt x w' => exact hr.elim
    | ok nx w' =>
      cases nx with
      | value u => obtain ⟨rfl, hc⟩ := hr; exact ⟨D, hD, hc, hK⟩
      | skip => obtain ⟨rfl, hc⟩ := hr; exact ⟨D, hD, hc, hK⟩
      | enter f args =>
        refine Calls.mono hr ?_
        intro e w'' he
        cases e with
        | returned u => obtain ⟨rfl, hc⟩ := he; exact ⟨D, hD, hc, hK⟩
        | panicked c => exact he.elim
        | outgrown => exact he.elim
      | row r args =>
        refine Rows.mono hr ?_
        intro u w'' he
        obtain ⟨rfl, hc⟩ := he
        exact ⟨D, hD, hc, hK⟩
      | _ => exact hr.elim
  · rw [if_neg (by rw [hw]; simp)]; exact hK

theorem mOp_put {j : Nat} {oi oj : Oper} {v : Value} (hj : ops[j]? = some oj) (hap : oi.apart ops oj = true)
    (hsi : ∀ cs b, oi.op ≠ .select cs b) (hsj : ∀ cs b, oj.op ≠ .select cs b) {K K' : Act → WP → Prop} {a : Act} {D : WP}
    (hy : myield P ops DD oi v a) (hD : DD D) (hKK : ∀ a' D', myield P ops DD oi v a' → DD D' → K (a'.put oi.dst v) D' → K' a' D') (h : mOp P ops DD j K (a.put oi.dst v) D) : mOp P ops DD j K' a D := by
  obtain ⟨h1, h2, h3⟩ := Oper.apart_spec hap
  have keep : ∀ u, myield P ops DD oi v (a.put oj.dst u) := fun u => hy.same (execOp_put oi hsi a oj.dst u h3) (wanted_put oi a oj.dst u h3)
  have keepD : ∀ d, myield P ops DD oi v { a with defers := d :: a.defers } := fun d => hy.same rfl rfl
  have keepDD : ∀ d u, myield P ops DD oi v (({ a with defers := d :: a.defers } : Act).put oj.dst u) := fun d u => (keepD d).same (execOp_put oi hsi _ oj.dst u h3) (wanted_put oi _ oj.dst u h3)
  unfold mOp at *
  simp only [hj] at *
  rw [wanted_put oj a oi.dst v h1] at h
  split
  · rename_i hw
    rw [if_pos hw] at h
    intro w hd
    have hh := h w hd
    unfold Oper.wp at *
    rw [execOp_put oj hsj a oi.dst v h1] at hh
    generalize (execOp a.eval oj).run P w = r at *
    cases r with
    | halt x w' => cases x <;> exact hh.elim
    | ok nx w' =>
      cases nx <;> simp only [Oper.upon] at hh ⊢
      case value u =>
        obtain ⟨D', e1, e2, e3⟩ := hh
        exact ⟨D', e1, e2, hKK _ _ (keep u) e1 (by rw [Act.put_comm a u v (fun d hd he => h2 d he hd)]; exact e3)⟩
      case skip =>
        obtain ⟨D', e1, e2, e3⟩ := hh
        exact ⟨D', e1, e2, hKK _ _ (keep _) e1 (by rw [Act.put_comm a undef v (fun d hd he => h2 d he hd)]; exact e3)⟩
      case defer d =>
        obtain ⟨D', e1, e2, e3⟩ := hh
        refine ⟨D', e1, e2, hKK _ _ (keepDD d _) e1 ?_⟩
        rw [Act.put_comm _ undef v (fun d hd he => h2 d he hd), ← Act.put_defers]
        exact e3
      case enter f args =>
        refine Calls.mono hh fun e w'' he => ?_
        cases e with
        | returned u =>
          obtain ⟨D', e1, e2, e3⟩ := he
          exact ⟨D', e1, e2, hKK _ _ (keep u) e1 (by rw [Act.put_comm a u v (fun d hd he => h2 d he hd)]; exact e3)⟩
        | panicked c => exact he
        | outgrown => exact he
      case row row args =>
        exact Rows.mono hh fun u w'' he => by
          obtain ⟨D', e1, e2, e3⟩ := he
          exact ⟨D', e1, e2, hKK _ _ (keep u) e1 (by rw [Act.put_comm a u v (fun d hd he => h2 d he hd)]; exact e3)⟩
  · rename_i hw
    rw [if_neg hw] at h
    exact hKK _ _ (keep _) hD (by rw [Act.put_comm a undef v (fun d hd he => h2 d he hd)]; exact h)

theorem mAny_first {i : Nat} {oi : Oper} {v : Value} (hi : ops[i]? = some oi) (hsel : ∀ (j : Nat) (o : Oper) cs b, ops[j]? = some o → o.op ≠ .select cs b) :
    ∀ (f : Nat) (listed : Array Bool) (a : Act) (D : WP), DD D →
      (∀ j oj, ops[j]? = some oj → j ≠ i → listed.getD j true = false → (∀ e ∈ oj.after, Region.binds md e = true → e.on ≠ i) → oi.apart ops oj = true) →
      i ∈ Region.ready md ops listed → myield P ops DD oi v a →
      mAny P md ops DD Q f (listed.setIfInBounds i true) (a.put oi.dst v) D → mAny P md ops DD Q (f + 1) listed a D := by
  intro f
  induction f with
  | zero =>
    intro listed a D hD _ hr hy G
    refine ⟨fun h => (by rw [h] at hr; cases hr), fun j hj => ?_⟩
    by_cases hji : j = i
    · subst hji; exact hy.mOp hi hD G
    · have := ready_mono hj hji
      rw [G.1] at this
      cases this
  | succ f ih =>
    intro listed a D hD hfree hr hy G
    refine ⟨fun h => (by rw [h] at hr; cases hr), fun j hj => ?_⟩
    by_cases hji : j = i
    · subst hji; exact hy.mOp hi hD G
    · have h1 := G.2 j (ready_mono hj hji)
      obtain ⟨hjun, oj, hoj, hall⟩ := mem_ready.1 hj
      have hnot : ∀ e ∈ oj.after, Region.binds md e = true → e.on ≠ i := fun e he hb heq => by
        have h1 := hall e he hb
        rw [heq, getD_both (mem_ready.1 hr).1] at h1
        cases h1
      refine mOp_put hoj (hfree j oj hoj hji hjun hnot) (fun cs b => hsel i oi cs b hi) (fun cs b => hsel j oj cs b hoj) hy hD (fun a' D' hy' hD' hk => ?_) h1
      have hfree' : ∀ k ok, ops[k]? = some ok → k ≠ i → (listed.setIfInBounds j true).getD k true = false →
          (∀ e ∈ ok.after, Region.binds md e = true → e.on ≠ i) → oi.apart ops ok = true := fun k ok hk hki hun hno => by
        refine hfree k ok hk hki ?_ hno
        by_cases hjk : j = k
        · subst hjk; exact hjun
        · rw [getD_set_ne true hjk] at hun; exact hun
      refine ih (listed.setIfInBounds j true) a' D' hD' hfree' (ready_mono hr (Ne.symm hji)) hy' ?_
      rw [Array.setIfInBounds_comm _ _ hji]
      exact hk
end

section
variable {P : Program} {w0 : World} {n : NT} {L : Slots} {H H' : List Atom} {Q : Exit → Act → World → Prop} {K : Act → World → Prop} {o : Oper} {d : Nat}

/-- the classes: what stays, and some more -/
def Dcl (w0 : World) (Hs : List Atom) (D : WP) : Prop := ∃ F, D = fun w => St w0 w (Hs ++ F)

/-- the judgement inside such a region: 'm' operations are to come; 'ls' are done; 'Hs' stays; 'F' is the rest of memory -/
def TriM (P : Program) (w0 : World) (ops : Array Oper) (Q : Exit → Act → World → Prop) (Hs : List Atom) (m : Nat) (ls : Array Bool) (n : NT) (L : Slots) (F : List Atom) : Prop :=
  ∀ a, Has a n L → mAny P .any ops (Dcl w0 Hs) Q m ls a (fun w => St w0 w (Hs ++ F))

/-- what is shown of an operation that turns memory -/
def MixK (P : Program) (w0 : World) (ops : Array Oper) (Q : Exit → Act → World → Prop) (Hs : List Atom) (m : Nat) (ls : Array Bool) : Act → World → Prop :=
  fun a w => ∃ D', Dcl w0 Hs D' ∧ D' w ∧ mAny P .any ops (Dcl w0 Hs) Q m ls a D'

theorem Tri.mix (Hs : List Atom) {id : Nat} {l : List Oper} {F : List Atom} [hm : TMixed P] (p : Pulls H Hs F) (h : TriM P w0 l.toArray Q Hs l.length (Array.replicate l.length false) n L F) : Tri w0 ((Code.region id l.toArray true).wp P Q) n L H := fun a w ha hw => by
  refine wp_region_any hm.ok ?_
  have := any_of_m _ _ _ _ { w with drawn := w.drawn + 1 } ((hw.pulls p).drawn (w.drawn + 1)) (h a ha)
  simp only [List.size_toArray]; exact this

theorem TriM.back {ops : Array Oper} {Hs F : List Atom} {m : Nat} {ls : Array Bool} (p : Pulls H Hs F) (h : TriM P w0 ops Q Hs m ls n L F) : Tri w0 (MixK P w0 ops Q Hs m ls) n L H := fun a w ha hw =>
  ⟨_, ⟨F, rfl⟩, hw.pulls p, h a ha⟩

theorem TriM.nil {ops : Array Oper} {Hs F : List Atom} {ls : Array Bool} (hr : (Region.ready .any ops ls).isEmpty = true) (h : Tri w0 (Q .normal) n L (Hs ++ F)) : TriM P w0 ops Q Hs 0 ls n L F := fun a ha => by
  refine ⟨by simpa using hr, fun w hw => h a w ha hw⟩

/-- may operation i be taken ahead of all others? -/
def takeB (ops : Array Oper) (ls : Array Bool) (i : Nat) : Bool := Region.noSelect ops && (Region.ready .any ops ls).contains i && Region.free .any ops ls i

theorem TriM.take {ops : Array Oper} {Hs F : List Atom} {m : Nat} {ls : Array Bool} (i : Nat) {v : Value} (ho : ops[i]? = some o) (hB : takeB ops ls i = true) (hd : o.dst = some d) (hn : Nat.blt d n = true)
    (hy : ∀ a, Has a n L → myield P ops (Dcl w0 Hs) o v a) (k : TriM P w0 ops Q Hs m (ls.setIfInBounds i true) n ((d, v) :: L) F) : TriM P w0 ops Q Hs (m + 1) ls n L F := fun a ha => by
  simp only [takeB, Bool.and_eq_true] at hB
  refine mAny_first ho (Region.noSelect_spec hB.1.1) m ls a _ ⟨F, rfl⟩ (Region.free_spec ho hB.2) (by simpa using hB.1.2) (hy a ha) ?_
  rw [hd]; exact k _ (ha.put hn v)

theorem myield_of {ops : Array Oper} {Hs : List Atom} {v : Value} (hw : ∀ a, Has a n L → Region.wanted o (yielded ops a.tmps) = true) (hd : o.dst = some d) (hn : Nat.blt d n = true)
    (h : ∀ (F : List Atom) (K : Act → World → Prop), Tri w0 K n ((d, v) :: L) (Hs ++ F) → Tri w0 (OpG P o K (fun _ _ _ => False)) n L (Hs ++ F)) : ∀ a, Has a n L → myield P ops (Dcl w0 Hs) o v a := fun a ha =>
  .inl ⟨hw a ha, fun D hD w hDw => by obtain ⟨F, rfl⟩ := hD; exact qres_of hd hn (h F) ha hDw⟩

theorem TriM.q {ops : Array Oper} {Hs F : List Atom} {m : Nat} {ls : Array Bool} (i : Nat) {v : Value} (ho : ops.toList[i]? = some o) (hg : o.guard = none) (hB : takeB ops ls i = true) (hd : o.dst = some d) (hn : Nat.blt d n = true)
    (h : ∀ (F : List Atom) (K : Act → World → Prop), Tri w0 K n ((d, v) :: L) (Hs ++ F) → Tri w0 (OpG P o K (fun _ _ _ => False)) n L (Hs ++ F)) (k : TriM P w0 ops Q Hs m (ls.setIfInBounds i true) n ((d, v) :: L) F) : TriM P w0 ops Q Hs (m + 1) ls n L F :=
  TriM.take i (by rw [← Array.getElem?_toList]; exact ho) hB hd hn (myield_of (fun a _ => by simp [Region.wanted, hg]) hd hn h) k
theorem TriM.qYes {ops : Array Oper} {Hs F : List Atom} {m : Nat} {ls : Array Bool} (i : Nat) {v : Value} {j : Nat} {b b' : Bool} (ho : ops.toList[i]? = some o) (hg : o.guard = some (j, b)) (hyl : yl L ops j = some b') (hb : b' = b) (hB : takeB ops ls i = true) (hd : o.dst = some d) (hn : Nat.blt d n = true)
    (h : ∀ (F : List Atom) (K : Act → World → Prop), Tri w0 K n ((d, v) :: L) (Hs ++ F) → Tri w0 (OpG P o K (fun _ _ _ => False)) n L (Hs ++ F)) (k : TriM P w0 ops Q Hs m (ls.setIfInBounds i true) n ((d, v) :: L) F) : TriM P w0 ops Q Hs (m + 1) ls n L F :=
  TriM.take i (by rw [← Array.getElem?_toList]; exact ho) hB hd hn (myield_of (fun a ha => by simp [Region.wanted, hg, yl_yielded ha hyl, hb]) hd hn h) k
theorem TriM.qNo {ops : Array Oper} {Hs F : List Atom} {m : Nat} {ls : Array Bool} (i : Nat) {j : Nat} {b b' c : Bool} (ho : ops.toList[i]? = some o) (hg : o.guard = some (j, b)) (hyl : yl L ops j = some b') (hb : b' = c) (hc : (c != b) = true) (hB : takeB ops ls i = true) (hd : o.dst = some d) (hn : Nat.blt d n = true)
    (k : TriM P w0 ops Q Hs m (ls.setIfInBounds i true) n ((d, undef) :: L) F) : TriM P w0 ops Q Hs (m + 1) ls n L F :=
  TriM.take i (by rw [← Array.getElem?_toList]; exact ho) hB hd hn (fun a ha => .inr ⟨by
    subst hb
    have hne : b' ≠ b := by simpa using hc
    simp [Region.wanted, hg, yl_yielded ha hyl, hne], rfl⟩) k

theorem mOp_of {ops : Array Oper} {Hs F : List Atom} {m : Nat} {ls : Array Bool} {i : Nat} (ho : ops[i]? = some o) {a : Act} (hw : Region.wanted o (yielded ops a.tmps) = true) (ha : Has a n L)
    (h : Tri w0 (OpG P o (MixK P w0 ops Q Hs m ls) (fun _ _ _ => False)) n L (Hs ++ F)) : mOp P ops (Dcl w0 Hs) i (mAny P .any ops (Dcl w0 Hs) Q m ls) a (fun w => St w0 w (Hs ++ F)) := by
  unfold mOp
  simp only [ho]
  rw [if_pos hw]
  intro w hD
  rcases h a w ha hD with g | ⟨_, _, _, g⟩
  · exact g
  · exact g.elim

/-- the only operation that may come -/
theorem TriM.a {ops : Array Oper} {Hs F : List Atom} {m : Nat} {ls : Array Bool} (i : Nat) (ho : ops.toList[i]? = some o) (hg : o.guard = none) (hr : Nat.beq (Region.ready .any ops ls).length 1 && (Region.ready .any ops ls).contains i = true)
    (h : Tri w0 (OpG P o (MixK P w0 ops Q Hs m (ls.setIfInBounds i true)) (fun _ _ _ => False)) n L (Hs ++ F)) : TriM P w0 ops Q Hs (m + 1) ls n L F := fun a ha => by
  simp only [Bool.and_eq_true] at hr
  have h1 := Nat.eq_of_beq_eq_true hr.1
  have h2 : i ∈ Region.ready .any ops ls := by simpa using hr.2
  refine ⟨fun h0 => (by rw [h0] at h2; cases h2), fun j hj => ?_⟩
  have : j = i := by
    match hq : Region.ready .any ops ls, h1 with
    | [x], _ =>
      rw [hq] at hj h2
      simp at hj h2
      rw [hj, h2]
  subst this
  exact mOp_of (by rw [← Array.getElem?_toList]; exact ho) (by simp [Region.wanted, hg]) ha h
/-- two that may come -/
theorem TriM.a2 {ops : Array Oper} {Hs F : List Atom} {m : Nat} {ls : Array Bool} (i j : Nat) {oi oj : Oper} (hoi : ops.toList[i]? = some oi) (hoj : ops.toList[j]? = some oj) (hgi : oi.guard = none) (hgj : oj.guard = none) (hr : decide (Region.ready .any ops ls = [i, j]) = true)
    (hi : Tri w0 (OpG P oi (MixK P w0 ops Q Hs m (ls.setIfInBounds i true)) (fun _ _ _ => False)) n L (Hs ++ F))
    (hj : Tri w0 (OpG P oj (MixK P w0 ops Q Hs m (ls.setIfInBounds j true)) (fun _ _ _ => False)) n L (Hs ++ F)) : TriM P w0 ops Q Hs (m + 1) ls n L F := fun a ha => by
  have hr' := of_decide_eq_true hr
  refine ⟨fun h0 => (by rw [h0] at hr'; cases hr'), fun k hk => ?_⟩
  rw [hr'] at hk
  simp at hk
  rcases hk with rfl | rfl
  · exact mOp_of (by rw [← Array.getElem?_toList]; exact hoi) (by simp [Region.wanted, hgi]) ha hi
  · exact mOp_of (by rw [← Array.getElem?_toList]; exact hoj) (by simp [Region.wanted, hgj]) ha hj

/-- a guard that was not run itself -/
def yu (L : Slots) (ops : Array Oper) (j : Nat) : Bool :=
  match (ops[j]?).bind (·.dst) with
  | some d => match look L d with
    | some (.tuple _) => true
    | _ => false
  | none => false
theorem yu_wanted {ops : Array Oper} {a : Act} {j : Nat} {b : Bool} (ha : Has a n L) (hg : o.guard = some (j, b)) (h : yu L ops j = true) : Region.wanted o (yielded ops a.tmps) = false := by
  have hy : yielded ops a.tmps j = none := by
    unfold yu at h
    cases hd : (ops[j]?).bind (·.dst) with
    | none => simp [hd] at h
    | some d =>
      simp only [hd] at h
      cases hl : look L d with
      | none => simp [hl] at h
      | some v =>
        have hv := ha.get d v hl
        cases v <;> simp [hl] at h
        unfold yielded
        rw [hd]
        simp [hv]
  simp [Region.wanted, hg, hy]
theorem Tri.opNoU {ops : Array Oper} {rest : List Oper} {j : Nat} {b : Bool} (hg : o.guard = some (j, b)) (hyu : yu L ops j = true) (hd : o.dst = some d) (hn : Nat.blt d n = true) (h : Tri w0 (wpList P ops Q rest) n ((d, undef) :: L) H) : Tri w0 (wpList P ops Q (o :: rest)) n L H := fun a w ha hw => by
  unfold wpList
  rw [if_neg (by rw [yu_wanted ha hg hyu]; simp), hd]
  exact h _ w (ha.put hn _) hw
theorem TriQ.opNoU {ops : Array Oper} {rest : List Oper} {j : Nat} {b : Bool} (hg : o.guard = some (j, b)) (hyu : yu L ops j = true) (hd : o.dst = some d) (hn : Nat.blt d n = true) (k : TriQ P w0 ops Q rest n ((d, undef) :: L) H) : TriQ P w0 ops Q (o :: rest) n L H := fun a ha =>
  ⟨undef, .inr ⟨yu_wanted ha hg hyu, rfl⟩, by rw [hd]; exact k _ (ha.put hn undef)⟩
theorem TriM.qNoU {ops : Array Oper} {Hs F : List Atom} {m : Nat} {ls : Array Bool} (i : Nat) {j : Nat} {b : Bool} (ho : ops.toList[i]? = some o) (hg : o.guard = some (j, b)) (hyu : yu L ops j = true) (hB : takeB ops ls i = true) (hd : o.dst = some d) (hn : Nat.blt d n = true)
    (k : TriM P w0 ops Q Hs m (ls.setIfInBounds i true) n ((d, undef) :: L) F) : TriM P w0 ops Q Hs (m + 1) ls n L F :=
  TriM.take i (by rw [← Array.getElem?_toList]; exact ho) hB hd hn (fun a ha => .inr ⟨yu_wanted ha hg hyu, rfl⟩) k
end
end Go.Gv
