import Derived.Test.YtckdlfbbkemklaaZB
/- Regions whose order is open, in which a late operation turns what quiet operations ahead of it have read. -/
namespace Go.Gv
open Go Go.RowKit
set_option linter.unusedVariables false
set_option linter.unusedSimpArgs false

section
variable {P : Program} {ops : Array Oper} {md : Region.Mode} {Q : Exit → Act → World → Prop}

theorem getD_set_self {listed : Array Bool} {i : Nat} (h : listed.getD i true = false) : (listed.setIfInBounds i true).getD i false = true := by
  rcases Nat.lt_or_ge i listed.size with h' | h'
  · simp [h']
  · simp [Array.getElem?_eq_none h'] at h
/-- two classes: one as long as operation s is to come, one behind it -/
def D2 (s : Nat) (Ds Dw : WP → Prop) (ls : Array Bool) (D : WP) : Prop := if ls.getD s false = true then Dw D else Ds D

def mAny2 (P : Program) (md : Region.Mode) (ops : Array Oper) (s : Nat) (Ds Dw : WP → Prop) (Q : Exit → Act → World → Prop) : Nat → Array Bool → Act → WP → Prop
  | 0, listed, a, D => Region.ready md ops listed = [] ∧ ∀ w, D w → Q .normal a w
  | f + 1, listed, a, D => (Region.ready md ops listed = [] → ∀ w, D w → Q .normal a w) ∧ ∀ i ∈ Region.ready md ops listed, mOp P ops (D2 s Ds Dw (listed.setIfInBounds i true)) i (mAny2 P md ops s Ds Dw Q f (listed.setIfInBounds i true)) a D

variable {s : Nat} {Ds Dw : WP → Prop}

theorem any_of_m2 : ∀ (f : Nat) (listed : Array Bool) (a : Act) (D : WP) (w : World), D w → mAny2 P md ops s Ds Dw Q f listed a D → wpAny P md ops Q f listed a w
  | 0, _, _, _, w, hw, h => ⟨h.1, h.2 w hw⟩
  | f + 1, listed, a, D, w, hw, h => by
    refine ⟨fun h0 => h.1 h0 w hw, fun i hi => ?_⟩
    have hs := h.2 i hi
    unfold mOp at hs
    unfold Go.wpOp
    cases ho : ops[i]? with
    | none => simp only [ho] at hs ⊢; exact any_of_m2 f _ _ _ _ hw hs
    | some o =>
      simp only [ho] at hs ⊢
      by_cases hwt : Region.wanted o (yielded ops a.tmps) = true
      · rw [if_pos hwt] at hs ⊢
        refine .inl (Oper.wp_mono ?_ (wp_false_mono (hs w hw)))
        rintro a' w' ⟨D', _, hd, hk⟩
        exact any_of_m2 f _ _ _ _ hd hk
      · rw [if_neg hwt] at hs ⊢
        exact any_of_m2 f _ _ _ _ hw hs

/-- behind s there is one class only -/
theorem m2_of_m : ∀ (f : Nat) (listed : Array Bool) (a : Act) (D : WP), listed.getD s false = true → mAny P md ops Dw Q f listed a D → mAny2 P md ops s Ds Dw Q f listed a D
  | 0, _, _, _, _, h => h
  | f + 1, listed, a, D, hl, h => by
    refine ⟨h.1, fun i hi => ?_⟩
    have hs := h.2 i hi
    have hl' : (listed.setIfInBounds i true).getD s false = true := getD_set_true hl
    have hDD : D2 s Ds Dw (listed.setIfInBounds i true) = Dw := by funext D; unfold D2; rw [if_pos hl']
    rw [hDD]
    unfold mOp at *
    cases ho : ops[i]? with
    | none => simp only [ho] at hs ⊢; exact m2_of_m f _ _ _ hl' hs
    | some o =>
      simp only [ho] at hs ⊢
      by_cases hwt : Region.wanted o (yielded ops a.tmps) = true
      · rw [if_pos hwt] at hs ⊢
        intro w hw
        refine Oper.wp_mono ?_ (hs w hw)
        rintro a' w' ⟨E, e1, e2, e3⟩
        exact ⟨E, e1, e2, m2_of_m f _ _ _ hl' e3⟩
      · rw [if_neg hwt] at hs ⊢
        exact m2_of_m f _ _ _ hl' hs

theorem mOp_putY {DD : WP → Prop} {j : Nat} {oi oj : Oper} {v : Value} (hj : ops[j]? = some oj) (hap : oi.apart ops oj = true)
    (hsi : ∀ cs b, oi.op ≠ .select cs b) (hsj : ∀ cs b, oj.op ≠ .select cs b) {K K' : Act → WP → Prop} {a : Act} {D : WP} {Y : Act → Prop}
    (hYs : ∀ a a', Y a → execOp a'.eval oi = execOp a.eval oi → Region.wanted oi (yielded ops a'.tmps) = Region.wanted oi (yielded ops a.tmps) → Y a')
    (hy : Y a) (hD : DD D) (hKK : ∀ a' D', Y a' → DD D' → K (a'.put oi.dst v) D' → K' a' D') (h : mOp P ops DD j K (a.put oi.dst v) D) : mOp P ops DD j K' a D := by
  obtain ⟨h1, h2, h3⟩ := Oper.apart_spec hap
  have keep : ∀ u, Y (a.put oj.dst u) := fun u => hYs _ _ hy (execOp_put oi hsi a oj.dst u h3) (wanted_put oi a oj.dst u h3)
  have keepD : ∀ d, Y { a with defers := d :: a.defers } := fun d => hYs _ _ hy rfl rfl
  have keepDD : ∀ d u, Y (({ a with defers := d :: a.defers } : Act).put oj.dst u) := fun d u => hYs _ _ (keepD d) (execOp_put oi hsi _ oj.dst u h3) (wanted_put oi _ oj.dst u h3)
  unfold mOp at *
  simp only [hj] at *
  rw [wanted_put oj a oi.dst v h1] at h
  split
  · rename_i hw
    rw [if_pos hw] at h
    intro w hd
    have hh := h w hd
    unfold Oper.wp at *
    rw [execOp_put oj hsj a oi.dst v h1] at hh
    generalize (execOp a.eval oj).run P w = r at *
    cases r with
    | halt x w' => cases x <;> exact hh.elim
    | ok nx w' =>
      cases nx <;> simp only [Oper.upon] at hh ⊢
      case value u =>
        obtain ⟨D', e1, e2, e3⟩ := hh
        exact ⟨D', e1, e2, hKK _ _ (keep u) e1 (by rw [Act.put_comm a u v (fun d hd he => h2 d he hd)]; exact e3)⟩
      case skip =>
        obtain ⟨D', e1, e2, e3⟩ := hh
        exact ⟨D', e1, e2, hKK _ _ (keep _) e1 (by rw [Act.put_comm a undef v (fun d hd he => h2 d he hd)]; exact e3)⟩
      case defer d =>
        obtain ⟨D', e1, e2, e3⟩ := hh
        refine ⟨D', e1, e2, hKK _ _ (keepDD d _) e1 ?_⟩
        rw [Act.put_comm _ undef v (fun d hd he => h2 d he hd), ← Act.put_defers]
        exact e3
      case enter f args =>
        refine Calls.mono hh fun e w'' he => ?_
        cases e with
        | returned u =>
          obtain ⟨D', e1, e2, e3⟩ := he
          exact ⟨D', e1, e2, hKK _ _ (keep u) e1 (by rw [Act.put_comm a u v (fun d hd he => h2 d he hd)]; exact e3)⟩
        | panicked c => exact he
        | outgrown => exact he
      case row row args =>
        exact Rows.mono hh fun u w'' he => by
          obtain ⟨D', e1, e2, e3⟩ := he
          exact ⟨D', e1, e2, hKK _ _ (keep u) e1 (by rw [Act.put_comm a u v (fun d hd he => h2 d he hd)]; exact e3)⟩
  · rename_i hw
    rw [if_neg hw] at h
    exact hKK _ _ (keep _) hD (by rw [Act.put_comm a undef v (fun d hd he => h2 d he hd)]; exact h)

/-- what is listed is closed: what it waits for is listed, too -/
def Closed (md : Region.Mode) (ops : Array Oper) (ls : Array Bool) : Prop := ∀ k o, ops[k]? = some o → ls.getD k false = true → ∀ e ∈ o.after, Region.binds md e = true → ls.getD e.on false = true
theorem Closed.set {ls : Array Bool} {j : Nat} (h : Closed md ops ls) (hj : j ∈ Region.ready md ops ls) : Closed md ops (ls.setIfInBounds j true) := by
  obtain ⟨hjun, oj, hoj, hall⟩ := mem_ready.1 hj
  intro k o ho hk e he hb
  by_cases hjk : j = k
  · subst hjk
    rw [hoj] at ho; cases ho
    exact getD_set_true (hall e he hb)
  · rw [getD_set_ne false hjk] at hk
    exact getD_set_true (h k o ho hk e he hb)
def closedB (ops : Array Oper) (ls : Array Bool) : Bool := (List.range ops.size).all fun k => match ops[k]? with
  | none => true
  | some o => !(ls.getD k false) || o.after.toList.all fun e => !(Region.binds .any e) || ls.getD e.on false
theorem closedB_spec {ls : Array Bool} (h : closedB ops ls = true) : Closed .any ops ls := by
  intro k o ho hk e he hb
  have hlt : k < ops.size := by
    rcases Nat.lt_or_ge k ops.size with q | q
    · exact q
    · rw [Array.getElem?_eq_none q] at ho; cases ho
  have h1 := (List.all_eq_true.1 h) k (List.mem_range.2 hlt)
  simp only [ho, hk, Bool.not_true, Bool.false_or] at h1
  have h2 := (List.all_eq_true.1 h1) e (Array.mem_toList_iff.2 he)
  simpa [hb] using h2
/-- does s wait for i, by what it waits for? -/
def ancB (ops : Array Oper) : Nat → Nat → Nat → Bool
  | 0, _, _ => false
  | f + 1, s, i => match ops[s]? with
    | none => false
    | some o => o.after.toList.any fun e => Region.binds .any e && (e.on == i || ancB ops f e.on i)
theorem anc_listed {ls : Array Bool} (hc : Closed .any ops ls) : ∀ (f s i : Nat), ancB ops f s i = true → ls.getD s false = true → ls.getD i false = true
  | 0, _, _, h, _ => by simp [ancB] at h
  | f + 1, s, i, h, hs => by
    unfold ancB at h
    cases ho : ops[s]? with
    | none => simp [ho] at h
    | some o =>
      simp only [ho, List.any_eq_true, Bool.and_eq_true, Bool.or_eq_true, beq_iff_eq] at h
      obtain ⟨e, he, hb, h⟩ := h
      have h1 := hc s o ho hs e (Array.mem_toList_iff.1 he) hb
      rcases h with rfl | h
      · exact h1
      · exact anc_listed hc f _ _ h h1

/-- what a quiet operation must show: of the one class, where it is done ahead of s; else of both -/
def Yq (P : Program) (ops : Array Oper) (Ds Dw : WP → Prop) (anc : Bool) (o : Oper) (v : Value) (a : Act) : Prop := if anc = true then myield P ops Ds o v a else myield P ops Dw o v a

theorem mAny2_first (hsub : ∀ D, Ds D → Dw D) {i : Nat} {oi : Oper} {v : Value} {fu : Nat} (hi : ops[i]? = some oi) (his : i ≠ s) (hsel : ∀ (j : Nat) (o : Oper) cs b, ops[j]? = some o → o.op ≠ .select cs b) :
    ∀ (f : Nat) (listed : Array Bool) (a : Act) (D : WP), D2 s Ds Dw listed D → Closed .any ops listed →
      (∀ j oj, ops[j]? = some oj → j ≠ i → listed.getD j true = false → (∀ e ∈ oj.after, Region.binds .any e = true → e.on ≠ i) → oi.apart ops oj = true) →
      i ∈ Region.ready .any ops listed → Yq P ops Ds Dw (ancB ops fu s i) oi v a →
      mAny2 P .any ops s Ds Dw Q f (listed.setIfInBounds i true) (a.put oi.dst v) D → mAny2 P .any ops s Ds Dw Q (f + 1) listed a D := by
  have hmy : ∀ (listed : Array Bool) (a : Act), Closed .any ops listed → i ∈ Region.ready .any ops listed → Yq P ops Ds Dw (ancB ops fu s i) oi v a → myield P ops (D2 s Ds Dw (listed.setIfInBounds i true)) oi v a := by
    intro listed a hc hr hy
    have hun := (mem_ready.1 hr).1
    have hset : (listed.setIfInBounds i true).getD s false = listed.getD s false := getD_set_ne false his
    unfold Yq at hy
    by_cases ha : ancB ops fu s i = true
    · rw [if_pos ha] at hy
      have hs : listed.getD s false ≠ true := fun hs => by
        have := anc_listed hc fu s i ha hs
        rw [getD_both hun] at this; cases this
      have : D2 s Ds Dw (listed.setIfInBounds i true) = Ds := by funext D; unfold D2; rw [hset, if_neg hs]
      rw [this]; exact hy
    · rw [if_neg ha] at hy
      have hle : ∀ D, D2 s Ds Dw (listed.setIfInBounds i true) D → Dw D := fun D h => by
        unfold D2 at h
        split at h
        · exact h
        · exact hsub D h
      rcases hy with ⟨h1, h2⟩ | hy
      · exact .inl ⟨h1, fun D hD => h2 D (hle D hD)⟩
      · exact .inr hy
  have hsame : ∀ a a', Yq P ops Ds Dw (ancB ops fu s i) oi v a → execOp a'.eval oi = execOp a.eval oi → Region.wanted oi (yielded ops a'.tmps) = Region.wanted oi (yielded ops a.tmps) → Yq P ops Ds Dw (ancB ops fu s i) oi v a' := by
    intro a a' h he hw
    unfold Yq at *
    split
    · rename_i q; rw [if_pos q] at h; exact h.same he hw
    · rename_i q; rw [if_neg q] at h; exact h.same he hw
  have hset : ∀ (listed : Array Bool) D, D2 s Ds Dw listed D → D2 s Ds Dw (listed.setIfInBounds i true) D := fun listed D h => by
    unfold D2 at *
    rw [getD_set_ne false his]; exact h
  intro f
  induction f with
  | zero =>
    intro listed a D hD hc _ hr hy G
    refine ⟨fun h => (by rw [h] at hr; cases hr), fun j hj => ?_⟩
    by_cases hji : j = i
    · subst hji; exact (hmy listed a hc hr hy).mOp hi (hset _ _ hD) G
    · have := ready_mono hj hji
      rw [G.1] at this
      cases this
  | succ f ih =>
    intro listed a D hD hc hfree hr hy G
    refine ⟨fun h => (by rw [h] at hr; cases hr), fun j hj => ?_⟩
    by_cases hji : j = i
    · subst hji; exact (hmy listed a hc hr hy).mOp hi (hset _ _ hD) G
    · have h1 := G.2 j (ready_mono hj hji)
      obtain ⟨hjun, oj, hoj, hall⟩ := mem_ready.1 hj
      have hnot : ∀ e ∈ oj.after, Region.binds .any e = true → e.on ≠ i := fun e he hb heq => by
        have h1 := hall e he hb
        rw [heq, getD_both (mem_ready.1 hr).1] at h1
        cases h1
      have hcl : D2 s Ds Dw ((listed.setIfInBounds i true).setIfInBounds j true) = D2 s Ds Dw (listed.setIfInBounds j true) := by
        funext E
        unfold D2
        rw [Array.setIfInBounds_comm _ _ (Ne.symm hji), getD_set_ne false his]
      rw [hcl] at h1
      have hDj : D2 s Ds Dw (listed.setIfInBounds j true) D := by
        unfold D2 at *
        by_cases hjs : j = s
        · subst hjs
          rw [if_pos (getD_set_self hjun)]
          rw [if_neg (by rw [getD_both hjun]; simp)] at hD
          exact hsub D hD
        · rw [getD_set_ne false hjs]; exact hD
      refine mOp_putY hoj (hfree j oj hoj hji hjun hnot) (fun cs b => hsel i oi cs b hi) (fun cs b => hsel j oj cs b hoj) hsame hy hDj (fun a' D' hy' hD' hk => ?_) h1
      have hfree' : ∀ k ok, ops[k]? = some ok → k ≠ i → (listed.setIfInBounds j true).getD k true = false →
          (∀ e ∈ ok.after, Region.binds .any e = true → e.on ≠ i) → oi.apart ops ok = true := fun k ok hk hki hun hno => by
        refine hfree k ok hk hki ?_ hno
        by_cases hjk : j = k
        · subst hjk; exact hjun
        · rw [getD_set_ne true hjk] at hun; exact hun
      refine ih (listed.setIfInBounds j true) a' D' hD' (hc.set hj) hfree' (ready_mono hr (Ne.symm hji)) hy' ?_
      rw [Array.setIfInBounds_comm _ _ hji]
      exact hk
end

section
variable {P : Program} {w0 : World} {n : NT} {L : Slots} {H H' : List Atom} {Q : Exit → Act → World → Prop} {K : Act → World → Prop} {o : Oper} {d : Nat}

/-- as TriM; 'Hs' stays till operation s, 'Hk' also behind it -/
def TriN (P : Program) (w0 : World) (ops : Array Oper) (Q : Exit → Act → World → Prop) (s : Nat) (Hk Hs : List Atom) (m : Nat) (ls : Array Bool) (n : NT) (L : Slots) (F : List Atom) : Prop :=
  (∃ X, Hs = Hk ++ X) → ∀ a, Has a n L → mAny2 P .any ops s (Dcl w0 Hs) (Dcl w0 Hk) Q m ls a (fun w => St w0 w (Hs ++ F))
def MixN (P : Program) (w0 : World) (ops : Array Oper) (Q : Exit → Act → World → Prop) (s : Nat) (Hk Hs : List Atom) (m : Nat) (ls : Array Bool) : Act → World → Prop :=
  fun a w => ∃ D', Dcl w0 Hs D' ∧ D' w ∧ mAny2 P .any ops s (Dcl w0 Hs) (Dcl w0 Hk) Q m ls a D'

theorem Tri.mixN (s : Nat) (Hk Hs : List Atom) {id : Nat} {l : List Oper} {F : List Atom} [hm : TMixed P] (hp : ∃ X, Hs = Hk ++ X) (p : Pulls H Hs F) (h : TriN P w0 l.toArray Q s Hk Hs l.length (Array.replicate l.length false) n L F) : Tri w0 ((Code.region id l.toArray true).wp P Q) n L H := fun a w ha hw => by
  refine wp_region_any hm.ok ?_
  have := any_of_m2 _ _ _ _ { w with drawn := w.drawn + 1 } ((hw.pulls p).drawn (w.drawn + 1)) (h hp a ha)
  simp only [List.size_toArray]; exact this
theorem TriN.back {ops : Array Oper} {s : Nat} {Hk Hs F : List Atom} {m : Nat} {ls : Array Bool} (hp : ∃ X, Hs = Hk ++ X) (p : Pulls H Hs F) (h : TriN P w0 ops Q s Hk Hs m ls n L F) : Tri w0 (MixN P w0 ops Q s Hk Hs m ls) n L H := fun a w ha hw =>
  ⟨_, ⟨F, rfl⟩, hw.pulls p, h hp a ha⟩
theorem Dcl.less {Hk Hs : List Atom} (hp : ∃ X, Hs = Hk ++ X) (D : WP) (h : Dcl w0 Hs D) : Dcl w0 Hk D := by
  obtain ⟨X, rfl⟩ := hp
  obtain ⟨F, rfl⟩ := h
  exact ⟨X ++ F, by rw [List.append_assoc]⟩
/-- an operation that is ahead of s, and so may read all that stays till there -/
def takeN (ops : Array Oper) (ls : Array Bool) (s i : Nat) : Bool := takeB ops ls i && closedB ops ls && !(ls.getD s false) && ancB ops ops.size s i && !(i == s)
/-- an operation that may come behind s -/
def takeP (ops : Array Oper) (ls : Array Bool) (s i : Nat) : Bool := takeB ops ls i && closedB ops ls && !(ls.getD s false) && !(i == s)
theorem TriN.take {ops : Array Oper} {s : Nat} {Hk Hs F : List Atom} {m : Nat} {ls : Array Bool} (i : Nat) {v : Value} (ho : ops[i]? = some o) (hB : takeN ops ls s i = true) (hd : o.dst = some d) (hn : Nat.blt d n = true)
    (hy : ∀ a, Has a n L → myield P ops (Dcl w0 Hs) o v a) (k : TriN P w0 ops Q s Hk Hs m (ls.setIfInBounds i true) n ((d, v) :: L) F) : TriN P w0 ops Q s Hk Hs (m + 1) ls n L F := fun hp a ha => by
  simp only [takeN, takeB, Bool.and_eq_true, Bool.not_eq_true', beq_eq_false_iff_ne] at hB
  obtain ⟨⟨⟨⟨⟨⟨b1, b2⟩, b3⟩, b4⟩, b5⟩, b6⟩, b7⟩ := hB
  refine mAny2_first (v := v) (fu := ops.size) (Dcl.less hp) ho b7 (Region.noSelect_spec b1) m ls a _ ?_ (closedB_spec b4) (Region.free_spec ho b3) (by simpa using b2) ?_ ?_
  · unfold D2; rw [if_neg (by rw [b5]; simp)]; exact ⟨F, rfl⟩
  · unfold Yq; rw [if_pos b6]; exact hy a ha
  · rw [hd]; exact k hp _ (ha.put hn v)
theorem TriN.takeP {ops : Array Oper} {s : Nat} {Hk Hs F : List Atom} {m : Nat} {ls : Array Bool} (i : Nat) {v : Value} (ho : ops[i]? = some o) (hB : Gv.takeP ops ls s i = true) (hd : o.dst = some d) (hn : Nat.blt d n = true)
    (hy : ∀ a, Has a n L → myield P ops (Dcl w0 Hk) o v a) (k : TriN P w0 ops Q s Hk Hs m (ls.setIfInBounds i true) n ((d, v) :: L) F) : TriN P w0 ops Q s Hk Hs (m + 1) ls n L F := fun hp a ha => by
  simp only [Gv.takeP, takeB, Bool.and_eq_true, Bool.not_eq_true', beq_eq_false_iff_ne] at hB
  obtain ⟨⟨⟨⟨⟨b1, b2⟩, b3⟩, b4⟩, b5⟩, b7⟩ := hB
  refine mAny2_first (v := v) (fu := 0) (Dcl.less hp) ho b7 (Region.noSelect_spec b1) m ls a _ ?_ (closedB_spec b4) (Region.free_spec ho b3) (by simpa using b2) ?_ ?_
  · unfold D2; rw [if_neg (by rw [b5]; simp)]; exact ⟨F, rfl⟩
  · unfold Yq; rw [if_neg (by simp [ancB])]; exact hy a ha
  · rw [hd]; exact k hp _ (ha.put hn v)
theorem TriN.q {ops : Array Oper} {s : Nat} {Hk Hs F : List Atom} {m : Nat} {ls : Array Bool} (i : Nat) {v : Value} (ho : ops.toList[i]? = some o) (hg : o.guard = none) (hB : takeN ops ls s i = true) (hd : o.dst = some d) (hn : Nat.blt d n = true)
    (h : ∀ (F : List Atom) (K : Act → World → Prop), Tri w0 K n ((d, v) :: L) (Hs ++ F) → Tri w0 (OpG P o K (fun _ _ _ => False)) n L (Hs ++ F)) (k : TriN P w0 ops Q s Hk Hs m (ls.setIfInBounds i true) n ((d, v) :: L) F) : TriN P w0 ops Q s Hk Hs (m + 1) ls n L F :=
  TriN.take i (by rw [← Array.getElem?_toList]; exact ho) hB hd hn (myield_of (fun a _ => by simp [Region.wanted, hg]) hd hn h) k
theorem TriN.p {ops : Array Oper} {s : Nat} {Hk Hs F : List Atom} {m : Nat} {ls : Array Bool} (i : Nat) {v : Value} (ho : ops.toList[i]? = some o) (hg : o.guard = none) (hB : Gv.takeP ops ls s i = true) (hd : o.dst = some d) (hn : Nat.blt d n = true)
    (h : ∀ (F : List Atom) (K : Act → World → Prop), Tri w0 K n ((d, v) :: L) (Hk ++ F) → Tri w0 (OpG P o K (fun _ _ _ => False)) n L (Hk ++ F)) (k : TriN P w0 ops Q s Hk Hs m (ls.setIfInBounds i true) n ((d, v) :: L) F) : TriN P w0 ops Q s Hk Hs (m + 1) ls n L F :=
  TriN.takeP i (by rw [← Array.getElem?_toList]; exact ho) hB hd hn (myield_of (fun a _ => by simp [Region.wanted, hg]) hd hn h) k
theorem mOp_of2 {DD : WP → Prop} {K' : Act → WP → Prop} {ops : Array Oper} {H : List Atom} {i : Nat} (ho : ops[i]? = some o) {a : Act} (hw : Region.wanted o (yielded ops a.tmps) = true) (ha : Has a n L)
    (h : Tri w0 (OpG P o (fun a w => ∃ D', DD D' ∧ D' w ∧ K' a D') (fun _ _ _ => False)) n L H) : mOp P ops DD i K' a (fun w => St w0 w H) := by
  unfold mOp
  simp only [ho]
  rw [if_pos hw]
  intro w hD
  rcases h a w ha hD with g | ⟨_, _, _, g⟩
  · exact g
  · exact g.elim
/-- the only operation that may come, ahead of s -/
theorem TriN.a {ops : Array Oper} {s : Nat} {Hk Hs F : List Atom} {m : Nat} {ls : Array Bool} (i : Nat) (ho : ops.toList[i]? = some o) (hg : o.guard = none) (hr : decide (Region.ready .any ops ls = [i]) && (!(i == s) && !(ls.getD s false)) = true)
    (h : Tri w0 (OpG P o (MixN P w0 ops Q s Hk Hs m (ls.setIfInBounds i true)) (fun _ _ _ => False)) n L (Hs ++ F)) : TriN P w0 ops Q s Hk Hs (m + 1) ls n L F := fun hp a ha => by
  simp only [Bool.and_eq_true, decide_eq_true_eq, Bool.not_eq_true', beq_eq_false_iff_ne] at hr
  obtain ⟨hr, his, hls⟩ := hr
  refine ⟨fun h0 => (by rw [h0] at hr; cases hr), fun j hj => ?_⟩
  rw [hr] at hj
  have : j = i := by simpa using hj
  subst this
  have hcl : D2 s (Dcl w0 Hs) (Dcl w0 Hk) (ls.setIfInBounds j true) = Dcl w0 Hs := by
    funext D; unfold D2; rw [getD_set_ne false his, if_neg (by rw [hls]; simp)]
  rw [hcl]
  exact mOp_of2 (by rw [← Array.getElem?_toList]; exact ho) (by simp [Region.wanted, hg]) ha h
/-- two or three that may come, ahead of s -/
theorem TriN.one {ops : Array Oper} {s : Nat} {Hk Hs F : List Atom} {m : Nat} {ls : Array Bool} {i : Nat} (ho : ops.toList[i]? = some o) (hg : o.guard = none) (hb : (!(i == s) && !(ls.getD s false)) = true)
    (h : Tri w0 (OpG P o (MixN P w0 ops Q s Hk Hs m (ls.setIfInBounds i true)) (fun _ _ _ => False)) n L (Hs ++ F)) (hp : ∃ X, Hs = Hk ++ X) (a : Act) (ha : Has a n L) :
    mOp P ops (D2 s (Dcl w0 Hs) (Dcl w0 Hk) (ls.setIfInBounds i true)) i (mAny2 P .any ops s (Dcl w0 Hs) (Dcl w0 Hk) Q m (ls.setIfInBounds i true)) a (fun w => St w0 w (Hs ++ F)) := by
  simp only [Bool.and_eq_true, Bool.not_eq_true', beq_eq_false_iff_ne] at hb
  obtain ⟨his, hls⟩ := hb
  have hcl : D2 s (Dcl w0 Hs) (Dcl w0 Hk) (ls.setIfInBounds i true) = Dcl w0 Hs := by
    funext D; unfold D2; rw [getD_set_ne false his, if_neg (by rw [hls]; simp)]
  rw [hcl]
  exact mOp_of2 (by rw [← Array.getElem?_toList]; exact ho) (by simp [Region.wanted, hg]) ha h
theorem TriN.a2 {ops : Array Oper} {s : Nat} {Hk Hs F : List Atom} {m : Nat} {ls : Array Bool} (i j : Nat) {oi oj : Oper} (hoi : ops.toList[i]? = some oi) (hoj : ops.toList[j]? = some oj) (hgi : oi.guard = none) (hgj : oj.guard = none) (hr : (decide (Region.ready .any ops ls = [i, j]) && ((!(i == s) && !(ls.getD s false)) && (!(j == s) && !(ls.getD s false)))) = true)
    (hi : Tri w0 (OpG P oi (MixN P w0 ops Q s Hk Hs m (ls.setIfInBounds i true)) (fun _ _ _ => False)) n L (Hs ++ F))
    (hj : Tri w0 (OpG P oj (MixN P w0 ops Q s Hk Hs m (ls.setIfInBounds j true)) (fun _ _ _ => False)) n L (Hs ++ F)) : TriN P w0 ops Q s Hk Hs (m + 1) ls n L F := fun hp a ha => by
  rw [Bool.and_eq_true, Bool.and_eq_true, decide_eq_true_eq] at hr
  obtain ⟨hr, b1, b2⟩ := hr
  refine ⟨fun h0 => (by rw [h0] at hr; cases hr), fun k hk => ?_⟩
  rw [hr] at hk
  simp at hk
  rcases hk with rfl | rfl
  · exact TriN.one hoi hgi b1 hi hp a ha
  · exact TriN.one hoj hgj b2 hj hp a ha
theorem TriN.a3 {ops : Array Oper} {s : Nat} {Hk Hs F : List Atom} {m : Nat} {ls : Array Bool} (i j l : Nat) {oi oj ol : Oper} (hoi : ops.toList[i]? = some oi) (hoj : ops.toList[j]? = some oj) (hok : ops.toList[l]? = some ol) (hgi : oi.guard = none) (hgj : oj.guard = none) (hgk : ol.guard = none) (hr : (decide (Region.ready .any ops ls = [i, j, l]) && ((!(i == s) && !(ls.getD s false)) && ((!(j == s) && !(ls.getD s false)) && (!(l == s) && !(ls.getD s false))))) = true)
    (hi : Tri w0 (OpG P oi (MixN P w0 ops Q s Hk Hs m (ls.setIfInBounds i true)) (fun _ _ _ => False)) n L (Hs ++ F))
    (hj : Tri w0 (OpG P oj (MixN P w0 ops Q s Hk Hs m (ls.setIfInBounds j true)) (fun _ _ _ => False)) n L (Hs ++ F))
    (hk : Tri w0 (OpG P ol (MixN P w0 ops Q s Hk Hs m (ls.setIfInBounds l true)) (fun _ _ _ => False)) n L (Hs ++ F)) : TriN P w0 ops Q s Hk Hs (m + 1) ls n L F := fun hp a ha => by
  rw [Bool.and_eq_true, decide_eq_true_eq] at hr
  obtain ⟨hr, hb⟩ := hr
  rw [Bool.and_eq_true] at hb
  obtain ⟨b1, hb⟩ := hb
  rw [Bool.and_eq_true] at hb
  obtain ⟨b2, b3⟩ := hb
  refine ⟨fun h0 => (by rw [h0] at hr; cases hr), fun q hq => ?_⟩
  rw [hr] at hq
  simp at hq
  rcases hq with rfl | rfl | rfl
  · exact TriN.one hoi hgi b1 hi hp a ha
  · exact TriN.one hoj hgj b2 hj hp a ha
  · exact TriN.one hok hgk b3 hk hp a ha
/-- operation s, the only one that may come -/
theorem TriN.less {ops : Array Oper} {s : Nat} {Hk Hs F : List Atom} {m : Nat} {ls : Array Bool} (ho : ops.toList[s]? = some o) (hg : o.guard = none) (hr : decide (Region.ready .any ops ls = [s]) = true)
    (h : Tri w0 (OpG P o (MixK P w0 ops Q Hk m (ls.setIfInBounds s true)) (fun _ _ _ => False)) n L (Hs ++ F)) : TriN P w0 ops Q s Hk Hs (m + 1) ls n L F := fun hp a ha => by
  have hr' := of_decide_eq_true hr
  refine ⟨fun h0 => (by rw [h0] at hr'; cases hr'), fun j hj => ?_⟩
  have hj0 := hj
  rw [hr'] at hj
  have : j = s := by simpa using hj
  subst this
  have hset : (ls.setIfInBounds j true).getD j false = true := getD_set_self (mem_ready.1 hj0).1
  have hcl : D2 j (Dcl w0 Hs) (Dcl w0 Hk) (ls.setIfInBounds j true) = Dcl w0 Hk := by
    funext D; unfold D2; rw [if_pos hset]
  rw [hcl]
  refine mOp_of2 (by rw [← Array.getElem?_toList]; exact ho) (by simp [Region.wanted, hg]) ha (fun a' w' ha' hw' => ?_)
  rcases h a' w' ha' hw' with g | ⟨_, _, _, g⟩
  · refine .inl (Oper.wp_mono ?_ g)
    rintro a'' w'' ⟨D', e1, e2, e3⟩
    exact ⟨D', e1, e2, m2_of_m _ _ _ _ hset e3⟩
  · exact g.elim
end
end Go.Gv
