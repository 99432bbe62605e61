/- Texts of this claim, put together: GvMix4, TvWalk2, TvWalk3, TvWalk4, ChWalk2. -/
import Derived.Test.YtckdlfbbkemklaaZ00
import Derived.Test.YtckdlfbbkemklaaZ07
import Derived.Test.YtckdlfbbkemklaaZ06
import Derived.Test.YtckdlfbbkemklaaZ01
import Derived.Test.YtckdlfbbkemklaaZ02
section
/- Regions whose order is open, in which a late operation turns what quiet operations ahead of it have read. -/
namespace Go.Gv
open Go Go.RowKit
set_option linter.unusedVariables false
set_option linter.unusedSimpArgs false

section
variable {P : Program} {ops : Array Oper} {md : Region.Mode} {Q : Exit → Act → World → Prop}

theorem getD_set_self {listed : Array Bool} {i : Nat} (h : listed.getD i true = false) : (listed.setIfInBounds i true).getD i false = true := by
  rcases Nat.lt_or_ge i listed.size with h' | h'
  · simp [h']
  · simp [Array.getElem?_eq_none h'] at h
/-- two classes: one as long as operation s is to come, one behind it -/
def D2 (s : Nat) (Ds Dw : WP → Prop) (ls : Array Bool) (D : WP) : Prop := if ls.getD s false = true then Dw D else Ds D

def mAny2 (P : Program) (md : Region.Mode) (ops : Array Oper) (s : Nat) (Ds Dw : WP → Prop) (Q : Exit → Act → World → Prop) : Nat → Array Bool → Act → WP → Prop
  | 0, listed, a, D => Region.ready md ops listed = [] ∧ ∀ w, D w → Q .normal a w
  | f + 1, listed, a, D => (Region.ready md ops listed = [] → ∀ w, D w → Q .normal a w) ∧ ∀ i ∈ Region.ready md ops listed, mOp P ops (D2 s Ds Dw (listed.setIfInBounds i true)) i (mAny2 P md ops s Ds Dw Q f (listed.setIfInBounds i true)) a D

variable {s : Nat} {Ds Dw : WP → Prop}

theorem any_of_m2 : ∀ (f : Nat) (listed : Array Bool) (a : Act) (D : WP) (w : World), D w → mAny2 P md ops s Ds Dw Q f listed a D → wpAny P md ops Q f listed a w
  | 0, _, _, _, w, hw, h => ⟨h.1, h.2 w hw⟩
  | f + 1, listed, a, D, w, hw, h => by
    refine ⟨fun h0 => h.1 h0 w hw, fun i hi => ?_⟩
    have hs := h.2 i hi
    unfold mOp at hs
    unfold Go.wpOp
    cases ho : ops[i]? with
    | none => simp only [ho] at hs ⊢; exact any_of_m2 f _ _ _ _ hw hs
    | some o =>
      simp only [ho] at hs ⊢
      by_cases hwt : Region.wanted o (yielded ops a.tmps) = true
      · rw [if_pos hwt] at hs ⊢
        refine .inl (Oper.wp_mono ?_ (wp_false_mono (hs w hw)))
        rintro a' w' ⟨D', _, hd, hk⟩
        exact any_of_m2 f _ _ _ _ hd hk
      · rw [if_neg hwt] at hs ⊢
        exact any_of_m2 f _ _ _ _ hw hs

/-- behind s there is one class only -/
theorem m2_of_m : ∀ (f : Nat) (listed : Array Bool) (a : Act) (D : WP), listed.getD s false = true → mAny P md ops Dw Q f listed a D → mAny2 P md ops s Ds Dw Q f listed a D
  | 0, _, _, _, _, h => h
  | f + 1, listed, a, D, hl, h => by
    refine ⟨h.1, fun i hi => ?_⟩
    have hs := h.2 i hi
    have hl' : (listed.setIfInBounds i true).getD s false = true := getD_set_true hl
    have hDD : D2 s Ds Dw (listed.setIfInBounds i true) = Dw := by funext D; unfold D2; rw [if_pos hl']
    rw [hDD]
    unfold mOp at *
    cases ho : ops[i]? with
    | none => simp only [ho] at hs ⊢; exact m2_of_m f _ _ _ hl' hs
    | some o =>
      simp only [ho] at hs ⊢
      by_cases hwt : Region.wanted o (yielded ops a.tmps) = true
      · rw [if_pos hwt] at hs ⊢
        intro w hw
        refine Oper.wp_mono ?_ (hs w hw)
        rintro a' w' ⟨E, e1, e2, e3⟩
        exact ⟨E, e1, e2, m2_of_m f _ _ _ hl' e3⟩
      · rw [if_neg hwt] at hs ⊢
        exact m2_of_m f _ _ _ hl' hs

theorem mOp_putY {DD : WP → Prop} {j : Nat} {oi oj : Oper} {v : Value} (hj : ops[j]? = some oj) (hap : oi.apart ops oj = true)
    (hsi : ∀ cs b, oi.op ≠ .select cs b) (hsj : ∀ cs b, oj.op ≠ .select cs b) {K K' : Act → WP → Prop} {a : Act} {D : WP} {Y : Act → Prop}
    (hYs : ∀ a a', Y a → execOp a'.eval oi = execOp a.eval oi → Region.wanted oi (yielded ops a'.tmps) = Region.wanted oi (yielded ops a.tmps) → Y a')
    (hy : Y a) (hD : DD D) (hKK : ∀ a' D', Y a' → DD D' → K (a'.put oi.dst v) D' → K' a' D') (h : mOp P ops DD j K (a.put oi.dst v) D) : mOp P ops DD j K' a D := by
  obtain ⟨h1, h2, h3⟩ := Oper.apart_spec hap
  have keep : ∀ u, Y (a.put oj.dst u) := fun u => hYs _ _ hy (execOp_put oi hsi a oj.dst u h3) (wanted_put oi a oj.dst u h3)
  have keepD : ∀ d, Y { a with defers := d :: a.defers } := fun d => hYs _ _ hy rfl rfl
  have keepDD : ∀ d u, Y (({ a with defers := d :: a.defers } : Act).put oj.dst u) := fun d u => hYs _ _ (keepD d) (execOp_put oi hsi _ oj.dst u h3) (wanted_put oi _ oj.dst u h3)
  unfold mOp at *
  simp only [hj] at *
  rw [wanted_put oj a oi.dst v h1] at h
  split
  · rename_i hw
    rw [if_pos hw] at h
    intro w hd
    have hh := h w hd
    unfold Oper.wp at *
    rw [execOp_put oj hsj a oi.dst v h1] at hh
    generalize (execOp a.eval oj).run P w = r at *
    cases r with
    | halt x w' => cases x <;> exact hh.elim
    | ok nx w' =>
      cases nx <;> simp only [Oper.upon] at hh ⊢
      case value u =>
        obtain ⟨D', e1, e2, e3⟩ := hh
        exact ⟨D', e1, e2, hKK _ _ (keep u) e1 (by rw [Act.put_comm a u v (fun d hd he => h2 d he hd)]; exact e3)⟩
      case skip =>
        obtain ⟨D', e1, e2, e3⟩ := hh
        exact ⟨D', e1, e2, hKK _ _ (keep _) e1 (by rw [Act.put_comm a undef v (fun d hd he => h2 d he hd)]; exact e3)⟩
      case defer d =>
        obtain ⟨D', e1, e2, e3⟩ := hh
        refine ⟨D', e1, e2, hKK _ _ (keepDD d _) e1 ?_⟩
        rw [Act.put_comm _ undef v (fun d hd he => h2 d he hd), ← Act.put_defers]
        exact e3
      case enter f args =>
        refine Calls.mono hh fun e w'' he => ?_
        cases e with
        | returned u =>
          obtain ⟨D', e1, e2, e3⟩ := he
          exact ⟨D', e1, e2, hKK _ _ (keep u) e1 (by rw [Act.put_comm a u v (fun d hd he => h2 d he hd)]; exact e3)⟩
        | panicked c => exact he
        | outgrown => exact he
      case row row args =>
        exact Rows.mono hh fun u w'' he => by
          obtain ⟨D', e1, e2, e3⟩ := he
          exact ⟨D', e1, e2, hKK _ _ (keep u) e1 (by rw [Act.put_comm a u v (fun d hd he => h2 d he hd)]; exact e3)⟩
  · rename_i hw
    rw [if_neg hw] at h
    exact hKK _ _ (keep _) hD (by rw [Act.put_comm a undef v (fun d hd he => h2 d he hd)]; exact h)

/-- what is listed is closed: what it waits for is listed, too -/
def Closed (md : Region.Mode) (ops : Array Oper) (ls : Array Bool) : Prop := ∀ k o, ops[k]? = some o → ls.getD k false = true → ∀ e ∈ o.after, Region.binds md e = true → ls.getD e.on false = true
theorem Closed.set {ls : Array Bool} {j : Nat} (h : Closed md ops ls) (hj : j ∈ Region.ready md ops ls) : Closed md ops (ls.setIfInBounds j true) := by
  obtain ⟨hjun, oj, hoj, hall⟩ := mem_ready.1 hj
  intro k o ho hk e he hb
  by_cases hjk : j = k
  · subst hjk
    rw [hoj] at ho; cases ho
    exact getD_set_true (hall e he hb)
  · rw [getD_set_ne false hjk] at hk
    exact getD_set_true (h k o ho hk e he hb)
def closedB (ops : Array Oper) (ls : Array Bool) : Bool := (List.range ops.size).all fun k => match ops[k]? with
  | none => true
  | some o => !(ls.getD k false) || o.after.toList.all fun e => !(Region.binds .any e) || ls.getD e.on false
theorem closedB_spec {ls : Array Bool} (h : closedB ops ls = true) : Closed .any ops ls := by
  intro k o ho hk e he hb
  have hlt : k < ops.size := by
    rcases Nat.lt_or_ge k ops.size with q | q
    · exact q
    · rw [Array.getElem?_eq_none q] at ho; cases ho
  have h1 := (List.all_eq_true.1 h) k (List.mem_range.2 hlt)
  simp only [ho, hk, Bool.not_true, Bool.false_or] at h1
  have h2 := (List.all_eq_true.1 h1) e (Array.mem_toList_iff.2 he)
  simpa [hb] using h2
/-- does s wait for i, by what it waits for? -/
def ancB (ops : Array Oper) : Nat → Nat → Nat → Bool
  | 0, _, _ => false
  | f + 1, s, i => match ops[s]? with
    | none => false
    | some o => o.after.toList.any fun e => Region.binds .any e && (e.on == i || ancB ops f e.on i)
theorem anc_listed {ls : Array Bool} (hc : Closed .any ops ls) : ∀ (f s i : Nat), ancB ops f s i = true → ls.getD s false = true → ls.getD i false = true
  | 0, _, _, h, _ => by simp [ancB] at h
  | f + 1, s, i, h, hs => by
    unfold ancB at h
    cases ho : ops[s]? with
    | none => simp [ho] at h
    | some o =>
      simp only [ho, List.any_eq_true, Bool.and_eq_true, Bool.or_eq_true, beq_iff_eq] at h
      obtain ⟨e, he, hb, h⟩ := h
      have h1 := hc s o ho hs e (Array.mem_toList_iff.1 he) hb
      rcases h with rfl | h
      · exact h1
      · exact anc_listed hc f _ _ h h1

/-- what a quiet operation must show: of the one class, where it is done ahead of s; else of both -/
def Yq (P : Program) (ops : Array Oper) (Ds Dw : WP → Prop) (anc : Bool) (o : Oper) (v : Value) (a : Act) : Prop := if anc = true then myield P ops Ds o v a else myield P ops Dw o v a

theorem mAny2_first (hsub : ∀ D, Ds D → Dw D) {i : Nat} {oi : Oper} {v : Value} {fu : Nat} (hi : ops[i]? = some oi) (his : i ≠ s) (hsel : ∀ (j : Nat) (o : Oper) cs b, ops[j]? = some o → o.op ≠ .select cs b) :
    ∀ (f : Nat) (listed : Array Bool) (a : Act) (D : WP), D2 s Ds Dw listed D → Closed .any ops listed →
      (∀ j oj, ops[j]? = some oj → j ≠ i → listed.getD j true = false → (∀ e ∈ oj.after, Region.binds .any e = true → e.on ≠ i) → oi.apart ops oj = true) →
      i ∈ Region.ready .any ops listed → Yq P ops Ds Dw (ancB ops fu s i) oi v a →
      mAny2 P .any ops s Ds Dw Q f (listed.setIfInBounds i true) (a.put oi.dst v) D → mAny2 P .any ops s Ds Dw Q (f + 1) listed a D := by
  have hmy : ∀ (listed : Array Bool) (a : Act), Closed .any ops listed → i ∈ Region.ready .any ops listed → Yq P ops Ds Dw (ancB ops fu s i) oi v a → myield P ops (D2 s Ds Dw (listed.setIfInBounds i true)) oi v a := by
    intro listed a hc hr hy
    have hun := (mem_ready.1 hr).1
    have hset : (listed.setIfInBounds i true).getD s false = listed.getD s false := getD_set_ne false his
    unfold Yq at hy
    by_cases ha : ancB ops fu s i = true
    · rw [if_pos ha] at hy
      have hs : listed.getD s false ≠ true := fun hs => by
        have := anc_listed hc fu s i ha hs
        rw [getD_both hun] at this; cases this
      have : D2 s Ds Dw (listed.setIfInBounds i true) = Ds := by funext D; unfold D2; rw [hset, if_neg hs]
      rw [this]; exact hy
    · rw [if_neg ha] at hy
      have hle : ∀ D, D2 s Ds Dw (listed.setIfInBounds i true) D → Dw D := fun D h => by
        unfold D2 at h
        split at h
        · exact h
        · exact hsub D h
      rcases hy with ⟨h1, h2⟩ | hy
      · exact .inl ⟨h1, fun D hD => h2 D (hle D hD)⟩
      · exact .inr hy
  have hsame : ∀ a a', Yq P ops Ds Dw (ancB ops fu s i) oi v a → execOp a'.eval oi = execOp a.eval oi → Region.wanted oi (yielded ops a'.tmps) = Region.wanted oi (yielded ops a.tmps) → Yq P ops Ds Dw (ancB ops fu s i) oi v a' := by
    intro a a' h he hw
    unfold Yq at *
    split
    · rename_i q; rw [if_pos q] at h; exact h.same he hw
    · rename_i q; rw [if_neg q] at h; exact h.same he hw
  have hset : ∀ (listed : Array Bool) D, D2 s Ds Dw listed D → D2 s Ds Dw (listed.setIfInBounds i true) D := fun listed D h => by
    unfold D2 at *
    rw [getD_set_ne false his]; exact h
  intro f
  induction f with
  | zero =>
    intro listed a D hD hc _ hr hy G
    refine ⟨fun h => (by rw [h] at hr; cases hr), fun j hj => ?_⟩
    by_cases hji : j = i
    · subst hji; exact (hmy listed a hc hr hy).mOp hi (hset _ _ hD) G
    · have := ready_mono hj hji
      rw [G.1] at this
      cases this
  | succ f ih =>
    intro listed a D hD hc hfree hr hy G
    refine ⟨fun h => (by rw [h] at hr; cases hr), fun j hj => ?_⟩
    by_cases hji : j = i
    · subst hji; exact (hmy listed a hc hr hy).mOp hi (hset _ _ hD) G
    · have h1 := G.2 j (ready_mono hj hji)
      obtain ⟨hjun, oj, hoj, hall⟩ := mem_ready.1 hj
      have hnot : ∀ e ∈ oj.after, Region.binds .any e = true → e.on ≠ i := fun e he hb heq => by
        have h1 := hall e he hb
        rw [heq, getD_both (mem_ready.1 hr).1] at h1
        cases h1
      have hcl : D2 s Ds Dw ((listed.setIfInBounds i true).setIfInBounds j true) = D2 s Ds Dw (listed.setIfInBounds j true) := by
        funext E
        unfold D2
        rw [Array.setIfInBounds_comm _ _ (Ne.symm hji), getD_set_ne false his]
      rw [hcl] at h1
      have hDj : D2 s Ds Dw (listed.setIfInBounds j true) D := by
        unfold D2 at *
        by_cases hjs : j = s
        · subst hjs
          rw [if_pos (getD_set_self hjun)]
          rw [if_neg (by rw [getD_both hjun]; simp)] at hD
          exact hsub D hD
        · rw [getD_set_ne false hjs]; exact hD
      refine mOp_putY hoj (hfree j oj hoj hji hjun hnot) (fun cs b => hsel i oi cs b hi) (fun cs b => hsel j oj cs b hoj) hsame hy hDj (fun a' D' hy' hD' hk => ?_) h1
      have hfree' : ∀ k ok, ops[k]? = some ok → k ≠ i → (listed.setIfInBounds j true).getD k true = false →
          (∀ e ∈ ok.after, Region.binds .any e = true → e.on ≠ i) → oi.apart ops ok = true := fun k ok hk hki hun hno => by
        refine hfree k ok hk hki ?_ hno
        by_cases hjk : j = k
        · subst hjk; exact hjun
        · rw [getD_set_ne true hjk] at hun; exact hun
      refine ih (listed.setIfInBounds j true) a' D' hD' (hc.set hj) hfree' (ready_mono hr (Ne.symm hji)) hy' ?_
      rw [Array.setIfInBounds_comm _ _ hji]
      exact hk
end

section
variable {P : Program} {w0 : World} {n : NT} {L : Slots} {H H' : List Atom} {Q : Exit → Act → World → Prop} {K : Act → World → Prop} {o : Oper} {d : Nat}

/-- as TriM; 'Hs' stays till operation s, 'Hk' also behind it -/
def TriN (P : Program) (w0 : World) (ops : Array Oper) (Q : Exit → Act → World → Prop) (s : Nat) (Hk Hs : List Atom) (m : Nat) (ls : Array Bool) (n : NT) (L : Slots) (F : List Atom) : Prop :=
  (∃ X, Hs = Hk ++ X) → ∀ a, Has a n L → mAny2 P .any ops s (Dcl w0 Hs) (Dcl w0 Hk) Q m ls a (fun w => St w0 w (Hs ++ F))
def MixN (P : Program) (w0 : World) (ops : Array Oper) (Q : Exit → Act → World → Prop) (s : Nat) (Hk Hs : List Atom) (m : Nat) (ls : Array Bool) : Act → World → Prop :=
  fun a w => ∃ D', Dcl w0 Hs D' ∧ D' w ∧ mAny2 P .any ops s (Dcl w0 Hs) (Dcl w0 Hk) Q m ls a D'

theorem Tri.mixN (s : Nat) (Hk Hs : List Atom) {id : Nat} {l : List Oper} {F : List Atom} [hm : TMixed P] (hp : ∃ X, Hs = Hk ++ X) (p : Pulls H Hs F) (h : TriN P w0 l.toArray Q s Hk Hs l.length (Array.replicate l.length false) n L F) : Tri w0 ((Code.region id l.toArray true).wp P Q) n L H := fun a w ha hw => by
  refine wp_region_any hm.ok ?_
  have := any_of_m2 _ _ _ _ { w with drawn := w.drawn + 1 } ((hw.pulls p).drawn (w.drawn + 1)) (h hp a ha)
  simp only [List.size_toArray]; exact this
theorem TriN.back {ops : Array Oper} {s : Nat} {Hk Hs F : List Atom} {m : Nat} {ls : Array Bool} (hp : ∃ X, Hs = Hk ++ X) (p : Pulls H Hs F) (h : TriN P w0 ops Q s Hk Hs m ls n L F) : Tri w0 (MixN P w0 ops Q s Hk Hs m ls) n L H := fun a w ha hw =>
  ⟨_, ⟨F, rfl⟩, hw.pulls p, h hp a ha⟩
theorem Dcl.less {Hk Hs : List Atom} (hp : ∃ X, Hs = Hk ++ X) (D : WP) (h : Dcl w0 Hs D) : Dcl w0 Hk D := by
  obtain ⟨X, rfl⟩ := hp
  obtain ⟨F, rfl⟩ := h
  exact ⟨X ++ F, by rw [List.append_assoc]⟩
/-- an operation that is ahead of s, and so may read all that stays till there -/
def takeN (ops : Array Oper) (ls : Array Bool) (s i : Nat) : Bool := takeB ops ls i && closedB ops ls && !(ls.getD s false) && ancB ops ops.size s i && !(i == s)
/-- an operation that may come behind s -/
def takeP (ops : Array Oper) (ls : Array Bool) (s i : Nat) : Bool := takeB ops ls i && closedB ops ls && !(ls.getD s false) && !(i == s)
theorem TriN.take {ops : Array Oper} {s : Nat} {Hk Hs F : List Atom} {m : Nat} {ls : Array Bool} (i : Nat) {v : Value} (ho : ops[i]? = some o) (hB : takeN ops ls s i = true) (hd : o.dst = some d) (hn : Nat.blt d n = true)
    (hy : ∀ a, Has a n L → myield P ops (Dcl w0 Hs) o v a) (k : TriN P w0 ops Q s Hk Hs m (ls.setIfInBounds i true) n ((d, v) :: L) F) : TriN P w0 ops Q s Hk Hs (m + 1) ls n L F := fun hp a ha => by
  simp only [takeN, takeB, Bool.and_eq_true, Bool.not_eq_true', beq_eq_false_iff_ne] at hB
  obtain ⟨⟨⟨⟨⟨⟨b1, b2⟩, b3⟩, b4⟩, b5⟩, b6⟩, b7⟩ := hB
  refine mAny2_first (v := v) (fu := ops.size) (Dcl.less hp) ho b7 (Region.noSelect_spec b1) m ls a _ ?_ (closedB_spec b4) (Region.free_spec ho b3) (by simpa using b2) ?_ ?_
  · unfold D2; rw [if_neg (by rw [b5]; simp)]; exact ⟨F, rfl⟩
  · unfold Yq; rw [if_pos b6]; exact hy a ha
  · rw [hd]; exact k hp _ (ha.put hn v)
theorem TriN.takeP {ops : Array Oper} {s : Nat} {Hk Hs F : List Atom} {m : Nat} {ls : Array Bool} (i : Nat) {v : Value} (ho : ops[i]? = some o) (hB : Gv.takeP ops ls s i = true) (hd : o.dst = some d) (hn : Nat.blt d n = true)
    (hy : ∀ a, Has a n L → myield P ops (Dcl w0 Hk) o v a) (k : TriN P w0 ops Q s Hk Hs m (ls.setIfInBounds i true) n ((d, v) :: L) F) : TriN P w0 ops Q s Hk Hs (m + 1) ls n L F := fun hp a ha => by
  simp only [Gv.takeP, takeB, Bool.and_eq_true, Bool.not_eq_true', beq_eq_false_iff_ne] at hB
  obtain ⟨⟨⟨⟨⟨b1, b2⟩, b3⟩, b4⟩, b5⟩, b7⟩ := hB
  refine mAny2_first (v := v) (fu := 0) (Dcl.less hp) ho b7 (Region.noSelect_spec b1) m ls a _ ?_ (closedB_spec b4) (Region.free_spec ho b3) (by simpa using b2) ?_ ?_
  · unfold D2; rw [if_neg (by rw [b5]; simp)]; exact ⟨F, rfl⟩
  · unfold Yq; rw [if_neg (by simp [ancB])]; exact hy a ha
  · rw [hd]; exact k hp _ (ha.put hn v)
theorem TriN.q {ops : Array Oper} {s : Nat} {Hk Hs F : List Atom} {m : Nat} {ls : Array Bool} (i : Nat) {v : Value} (ho : ops.toList[i]? = some o) (hg : o.guard = none) (hB : takeN ops ls s i = true) (hd : o.dst = some d) (hn : Nat.blt d n = true)
    (h : ∀ (F : List Atom) (K : Act → World → Prop), Tri w0 K n ((d, v) :: L) (Hs ++ F) → Tri w0 (OpG P o K (fun _ _ _ => False)) n L (Hs ++ F)) (k : TriN P w0 ops Q s Hk Hs m (ls.setIfInBounds i true) n ((d, v) :: L) F) : TriN P w0 ops Q s Hk Hs (m + 1) ls n L F :=
  TriN.take i (by rw [← Array.getElem?_toList]; exact ho) hB hd hn (myield_of (fun a _ => by simp [Region.wanted, hg]) hd hn h) k
theorem TriN.p {ops : Array Oper} {s : Nat} {Hk Hs F : List Atom} {m : Nat} {ls : Array Bool} (i : Nat) {v : Value} (ho : ops.toList[i]? = some o) (hg : o.guard = none) (hB : Gv.takeP ops ls s i = true) (hd : o.dst = some d) (hn : Nat.blt d n = true)
    (h : ∀ (F : List Atom) (K : Act → World → Prop), Tri w0 K n ((d, v) :: L) (Hk ++ F) → Tri w0 (OpG P o K (fun _ _ _ => False)) n L (Hk ++ F)) (k : TriN P w0 ops Q s Hk Hs m (ls.setIfInBounds i true) n ((d, v) :: L) F) : TriN P w0 ops Q s Hk Hs (m + 1) ls n L F :=
  TriN.takeP i (by rw [← Array.getElem?_toList]; exact ho) hB hd hn (myield_of (fun a _ => by simp [Region.wanted, hg]) hd hn h) k
theorem mOp_of2 {DD : WP → Prop} {K' : Act → WP → Prop} {ops : Array Oper} {H : List Atom} {i : Nat} (ho : ops[i]? = some o) {a : Act} (hw : Region.wanted o (yielded ops a.tmps) = true) (ha : Has a n L)
    (h : Tri w0 (OpG P o (fun a w => ∃ D', DD D' ∧ D' w ∧ K' a D') (fun _ _ _ => False)) n L H) : mOp P ops DD i K' a (fun w => St w0 w H) := by
  unfold mOp
  simp only [ho]
  rw [if_pos hw]
  intro w hD
  rcases h a w ha hD with g | ⟨_, _, _, g⟩
  · exact g
  · exact g.elim
/-- the only operation that may come, ahead of s -/
theorem TriN.a {ops : Array Oper} {s : Nat} {Hk Hs F : List Atom} {m : Nat} {ls : Array Bool} (i : Nat) (ho : ops.toList[i]? = some o) (hg : o.guard = none) (hr : decide (Region.ready .any ops ls = [i]) && (!(i == s) && !(ls.getD s false)) = true)
    (h : Tri w0 (OpG P o (MixN P w0 ops Q s Hk Hs m (ls.setIfInBounds i true)) (fun _ _ _ => False)) n L (Hs ++ F)) : TriN P w0 ops Q s Hk Hs (m + 1) ls n L F := fun hp a ha => by
  simp only [Bool.and_eq_true, decide_eq_true_eq, Bool.not_eq_true', beq_eq_false_iff_ne] at hr
  obtain ⟨hr, his, hls⟩ := hr
  refine ⟨fun h0 => (by rw [h0] at hr; cases hr), fun j hj => ?_⟩
  rw [hr] at hj
  have : j = i := by simpa using hj
  subst this
  have hcl : D2 s (Dcl w0 Hs) (Dcl w0 Hk) (ls.setIfInBounds j true) = Dcl w0 Hs := by
    funext D; unfold D2; rw [getD_set_ne false his, if_neg (by rw [hls]; simp)]
  rw [hcl]
  exact mOp_of2 (by rw [← Array.getElem?_toList]; exact ho) (by simp [Region.wanted, hg]) ha h
/-- two or three that may come, ahead of s -/
theorem TriN.one {ops : Array Oper} {s : Nat} {Hk Hs F : List Atom} {m : Nat} {ls : Array Bool} {i : Nat} (ho : ops.toList[i]? = some o) (hg : o.guard = none) (hb : (!(i == s) && !(ls.getD s false)) = true)
    (h : Tri w0 (OpG P o (MixN P w0 ops Q s Hk Hs m (ls.setIfInBounds i true)) (fun _ _ _ => False)) n L (Hs ++ F)) (hp : ∃ X, Hs = Hk ++ X) (a : Act) (ha : Has a n L) :
    mOp P ops (D2 s (Dcl w0 Hs) (Dcl w0 Hk) (ls.setIfInBounds i true)) i (mAny2 P .any ops s (Dcl w0 Hs) (Dcl w0 Hk) Q m (ls.setIfInBounds i true)) a (fun w => St w0 w (Hs ++ F)) := by
  simp only [Bool.and_eq_true, Bool.not_eq_true', beq_eq_false_iff_ne] at hb
  obtain ⟨his, hls⟩ := hb
  have hcl : D2 s (Dcl w0 Hs) (Dcl w0 Hk) (ls.setIfInBounds i true) = Dcl w0 Hs := by
    funext D; unfold D2; rw [getD_set_ne false his, if_neg (by rw [hls]; simp)]
  rw [hcl]
  exact mOp_of2 (by rw [← Array.getElem?_toList]; exact ho) (by simp [Region.wanted, hg]) ha h
theorem TriN.a2 {ops : Array Oper} {s : Nat} {Hk Hs F : List Atom} {m : Nat} {ls : Array Bool} (i j : Nat) {oi oj : Oper} (hoi : ops.toList[i]? = some oi) (hoj : ops.toList[j]? = some oj) (hgi : oi.guard = none) (hgj : oj.guard = none) (hr : (decide (Region.ready .any ops ls = [i, j]) && ((!(i == s) && !(ls.getD s false)) && (!(j == s) && !(ls.getD s false)))) = true)
    (hi : Tri w0 (OpG P oi (MixN P w0 ops Q s Hk Hs m (ls.setIfInBounds i true)) (fun _ _ _ => False)) n L (Hs ++ F))
    (hj : Tri w0 (OpG P oj (MixN P w0 ops Q s Hk Hs m (ls.setIfInBounds j true)) (fun _ _ _ => False)) n L (Hs ++ F)) : TriN P w0 ops Q s Hk Hs (m + 1) ls n L F := fun hp a ha => by
  rw [Bool.and_eq_true, Bool.and_eq_true, decide_eq_true_eq] at hr
  obtain ⟨hr, b1, b2⟩ := hr
  refine ⟨fun h0 => (by rw [h0] at hr; cases hr), fun k hk => ?_⟩
  rw [hr] at hk
  simp at hk
  rcases hk with rfl | rfl
  · exact TriN.one hoi hgi b1 hi hp a ha
  · exact TriN.one hoj hgj b2 hj hp a ha
theorem TriN.a3 {ops : Array Oper} {s : Nat} {Hk Hs F : List Atom} {m : Nat} {ls : Array Bool} (i j l : Nat) {oi oj ol : Oper} (hoi : ops.toList[i]? = some oi) (hoj : ops.toList[j]? = some oj) (hok : ops.toList[l]? = some ol) (hgi : oi.guard = none) (hgj : oj.guard = none) (hgk : ol.guard = none) (hr : (decide (Region.ready .any ops ls = [i, j, l]) && ((!(i == s) && !(ls.getD s false)) && ((!(j == s) && !(ls.getD s false)) && (!(l == s) && !(ls.getD s false))))) = true)
    (hi : Tri w0 (OpG P oi (MixN P w0 ops Q s Hk Hs m (ls.setIfInBounds i true)) (fun _ _ _ => False)) n L (Hs ++ F))
    (hj : Tri w0 (OpG P oj (MixN P w0 ops Q s Hk Hs m (ls.setIfInBounds j true)) (fun _ _ _ => False)) n L (Hs ++ F))
    (hk : Tri w0 (OpG P ol (MixN P w0 ops Q s Hk Hs m (ls.setIfInBounds l true)) (fun _ _ _ => False)) n L (Hs ++ F)) : TriN P w0 ops Q s Hk Hs (m + 1) ls n L F := fun hp a ha => by
  rw [Bool.and_eq_true, decide_eq_true_eq] at hr
  obtain ⟨hr, hb⟩ := hr
  rw [Bool.and_eq_true] at hb
  obtain ⟨b1, hb⟩ := hb
  rw [Bool.and_eq_true] at hb
  obtain ⟨b2, b3⟩ := hb
  refine ⟨fun h0 => (by rw [h0] at hr; cases hr), fun q hq => ?_⟩
  rw [hr] at hq
  simp at hq
  rcases hq with rfl | rfl | rfl
  · exact TriN.one hoi hgi b1 hi hp a ha
  · exact TriN.one hoj hgj b2 hj hp a ha
  · exact TriN.one hok hgk b3 hk hp a ha
/-- operation s, the only one that may come -/
theorem TriN.less {ops : Array Oper} {s : Nat} {Hk Hs F : List Atom} {m : Nat} {ls : Array Bool} (ho : ops.toList[s]? = some o) (hg : o.guard = none) (hr : decide (Region.ready .any ops ls = [s]) = true)
    (h : Tri w0 (OpG P o (MixK P w0 ops Q Hk m (ls.setIfInBounds s true)) (fun _ _ _ => False)) n L (Hs ++ F)) : TriN P w0 ops Q s Hk Hs (m + 1) ls n L F := fun hp a ha => by
  have hr' := of_decide_eq_true hr
  refine ⟨fun h0 => (by rw [h0] at hr'; cases hr'), fun j hj => ?_⟩
  have hj0 := hj
  rw [hr'] at hj
  have : j = s := by simpa using hj
  subst this
  have hset : (ls.setIfInBounds j true).getD j false = true := getD_set_self (mem_ready.1 hj0).1
  have hcl : D2 j (Dcl w0 Hs) (Dcl w0 Hk) (ls.setIfInBounds j true) = Dcl w0 Hk := by
    funext D; unfold D2; rw [if_pos hset]
  rw [hcl]
  refine mOp_of2 (by rw [← Array.getElem?_toList]; exact ho) (by simp [Region.wanted, hg]) ha (fun a' w' ha' hw' => ?_)
  rcases h a' w' ha' hw' with g | ⟨_, _, _, g⟩
  · refine .inl (Oper.wp_mono ?_ g)
    rintro a'' w'' ⟨D', e1, e2, e3⟩
    exact ⟨D', e1, e2, m2_of_m _ _ _ _ hset e3⟩
  · exact g.elim
end
end Go.Gv
end
section
/- tree: a view's write: the walk. -/
namespace Go.Proofs.Ytckdlfbbkemklaa
open Go Go.RowKit Go.Gv
set_option linter.unusedVariables false
set_option linter.unusedSimpArgs false

theorem z513' : (Value.int .i64 0 :: List.replicate 512 (Value.bool false)).length = 513 := by rw [List.length_cons, List.length_replicate]
set_option maxHeartbeats 8000000 in
theorem view_write (pv d : Nat) (v : VS) (leaf : Bool) (ev kv dv : Value) (x : ND3) (l : List (Value × Nat × List Value)) (hv : v.ok) (hl : v.S.W.length ≤ 800000)
    (mE : (ev, x.E.length, EL x.E) ∈ l) (mK : (kv, x.K.length, KL x.K) ∈ l) (mD : (dv, x.D.length, NL x.D) ∈ l) (hR : ∀ e ∈ x.E, entR e) :
    Gv.Spec Try.prog 125 #[.pointer (some ⟨pv, 0, none⟩), ndW leaf ev kv dv] [blk pv 194 (viewL d v), DSK d v.S, manyRd l]
    (fun r H' => r = .tuple #[.int .i64 (wrN v leaf x).2.1, .int .i64 ((wrN v leaf x).2.2 : Int)] ∧ H' = [blk pv 194 (viewL d (wrN v leaf x).1), DSK d (wrN v leaf x).1.S, manyRd l]) := by
  refine Gv.Spec.of (fun w h0 hw => ?_)
  refine Calls.enter Try.func125 rfl rfl rfl hw ?_
  simp only [argSlots]
  (try dsimp only [List.cons_append, List.nil_append])
  (refine Tri.seq (Tri.region ?_); apply Tri.op; rfl)
  (first | (apply o_boxA; (case hx => rfl); (case hn => rfl); intro b3) | (apply o_box1; (case hx => rfl); (case h1 => rfl); (case hn => rfl); intro b3))
  (apply Tri.op; rfl; apply o_assign; rfl; rfl; apply Tri.op; rfl; apply o_assign; rfl; rfl; refine Tri.nil (Tri.thenN (Tri.seq (Tri.region ?_))); apply Tri.op; rfl)
  (apply o_loadAll (cs := ndLL leaf ev kv dv); (case hx => rfl); (case p => exact (by (with_reducible repeat constructor))); (case hl => rfl); (case hn => rfl))
  (apply Tri.op; rfl)
  by_cases hrt : rightN leaf x.E x.K x.D = true
  · (apply o_callR (hs := node_PutN leaf ev kv dv x.E x.K x.D hrt hR); (case hargs => (repeat first | exact evs.nil | (apply evs.cons; case a => rfl))); (case hpre => exact fun w' hw' => ⟨rdw_many (by (with_reducible repeat constructor)) mE w' hw', rdw_many (by (with_reducible repeat constructor)) mK w' hw', rdw_many (by (with_reducible repeat constructor)) mD w' hw'⟩); (case hn => rfl))
    rintro r1 H1 ⟨u, rfl, rfl⟩
    (try dsimp only [List.cons_append, List.nil_append])
    (apply Tri.op; rfl; apply o_move; rfl; rfl; apply Tri.op; rfl; apply o_extract; rfl; rfl; rfl; apply Tri.op; rfl; apply o_extract; rfl; rfl; rfl; apply Tri.op; rfl; apply o_assign; rfl; rfl; apply Tri.op; rfl; apply o_assign; rfl; rfl; refine Tri.nil (Tri.thenN (Tri.seq (Tri.seq (Tri.region ?_)))); apply Tri.op; rfl; apply o_move; rfl; rfl; apply Tri.op; rfl; apply o_neq; rfl; rfl; rfl; refine Tri.nil (Tri.thenN ?_))
    ((with_reducible apply Tri.setb 17 (false)); (case h => rfl); (case hi => rfl))
    (apply Tri.condF; rfl; rfl; refine Tri.skip (Tri.thenN ?_))
    obtain ⟨T, hT⟩ : ∃ T, T = takeM v.m v.old 1 := ⟨_, rfl⟩
    have hTl : T.1.u.length = 512 := by rw [hT]; exact takeM_length _ _ _ hv.m
    have htk := bm_Take v.m v.old 1 hv.m hv.o
    rw [← hT] at htk
    (apply Tri.seqMeet (α := Nat) (Lx := fun x => [(0, .pointer (some ⟨pv, 0, none⟩)), (3, .pointer (some ⟨b3, 0, none⟩)), (6, u), (7, .int .i64 (T.2.2 : Int)), (8, .pointer (some ⟨x, 0, none⟩)), (9, .int .i64 T.2.1)]) (Hx := fun y => [own 5 1 u (putN leaf x.E x.K x.D).length (B8 (putN leaf x.E x.K x.D)), blk b3 33 (ndLL leaf ev kv dv), blk pv 194 (viewL d v), DSK d v.S, manyRd l, blk y 149 (bmL T.1), Ex h0]); rotate_left; (rintro b8; (try dsimp only)); rotate_left)
    · skip
      ((first | with_reducible apply Tri.mix [blk pv 194 (viewL d v)] | (apply TriR.mix [blk pv 194 (viewL d v)]; (case hnd => rfl))); (case p => (repeat first | with_reducible constructor | constructor)); (dsimp only [List.length]))
      ((first | (apply TriM.q 0; rfl; rfl) | (apply TriM.qYes 0; rfl; rfl; rfl; with_reducible rfl)); kernel_rfl; rfl; rfl; (intro F K hK; apply o_move; rfl; rfl; exact hK); (first | (apply TriM.q 1; rfl; rfl) | (apply TriM.qYes 1; rfl; rfl; rfl; with_reducible rfl)); kernel_rfl; rfl; rfl; (intro F K hK; apply o_nilCheck; rfl; rfl; exact hK); (first | (apply TriM.q 2; rfl; rfl) | (apply TriM.qYes 2; rfl; rfl; rfl; with_reducible rfl)); kernel_rfl; rfl; rfl; (intro F K hK; apply o_fieldAddr; rfl; rfl; exact hK))
      ((first | (apply TriM.q 3; (case ho => rfl); (case hg => rfl)) | (apply TriM.qYes 3; (case ho => rfl); (case hg => rfl); (case hyl => rfl); (case hb => with_reducible rfl))); (case hB => kernel_rfl); (case hd => rfl); (case hn => rfl); (case h => (intro F K hK; (try dsimp only [List.cons_append, List.nil_append]); (apply o_loadAgg; (case hx => rfl); (case p => (with_reducible repeat constructor)); (case hv => exact viewL_m hv); (case hl => exact bmL_len hv.m); (case hn => rfl)); exact hK)))
      ((first | (apply TriM.q 4; rfl; rfl) | (apply TriM.qYes 4; rfl; rfl; rfl; with_reducible rfl)); kernel_rfl; rfl; rfl; (intro F K hK; apply o_move; rfl; rfl; exact hK); (first | (apply TriM.q 5; rfl; rfl) | (apply TriM.qYes 5; rfl; rfl; rfl; with_reducible rfl)); kernel_rfl; rfl; rfl; (intro F K hK; apply o_nilCheck; rfl; rfl; exact hK); (first | (apply TriM.q 6; rfl; rfl) | (apply TriM.qYes 6; rfl; rfl; rfl; with_reducible rfl)); kernel_rfl; rfl; rfl; (intro F K hK; apply o_fieldAddr; rfl; rfl; exact hK))
      ((first | (apply TriM.q 7; (case ho => rfl); (case hg => rfl)) | (apply TriM.qYes 7; (case ho => rfl); (case hg => rfl); (case hyl => rfl); (case hb => with_reducible rfl))); (case hB => kernel_rfl); (case hd => rfl); (case hn => rfl); (case h => (intro F K hK; (try dsimp only [List.cons_append, List.nil_append]); (apply o_loadAgg; (case hx => rfl); (case p => (with_reducible repeat constructor)); (case hv => exact viewL_o hv); (case hl => exact bmL_len hv.o); (case hn => rfl)); exact hK)))
      ((first | (apply TriM.q 8; (case ho => rfl); (case hg => rfl)) | (apply TriM.qYes 8; (case ho => rfl); (case hg => rfl); (case hyl => rfl); (case hb => with_reducible rfl))); (case hB => kernel_rfl); (case hd => rfl); (case hn => rfl); (case h => (intro F K hK; (try dsimp only [List.cons_append, List.nil_append]); apply o_callV (hs := htk); (case hargs => (repeat first | exact evs.nil | (apply evs.cons; case a => rfl))); (case hpre => exact fun _ _ => trivial); (case hn => rfl); exact hK)))
      ((first | (apply TriM.q 9; rfl; rfl) | (apply TriM.qYes 9; rfl; rfl; rfl; with_reducible rfl)); kernel_rfl; rfl; rfl; (intro F K hK; apply o_move; rfl; rfl; exact hK); (first | (apply TriM.q 10; rfl; rfl) | (apply TriM.qYes 10; rfl; rfl; rfl; with_reducible rfl)); kernel_rfl; rfl; rfl; (intro F K hK; apply o_extract; rfl; rfl; rfl; exact hK); (first | (apply TriM.q 11; rfl; rfl) | (apply TriM.qYes 11; rfl; rfl; rfl; with_reducible rfl)); kernel_rfl; rfl; rfl; (intro F K hK; apply o_extract; rfl; rfl; rfl; exact hK); (first | (apply TriM.q 12; rfl; rfl) | (apply TriM.qYes 12; rfl; rfl; rfl; with_reducible rfl)); kernel_rfl; rfl; rfl; (intro F K hK; apply o_extract; rfl; rfl; rfl; exact hK))
      (apply TriM.a 13; (case ho => rfl); (case hg => rfl); (case hr => kernel_rfl); (try dsimp only [List.cons_append, List.nil_append]))
      (apply o_alloc; (case hn => rfl); intro b8)
      (apply TriM.back; (case p => (repeat first | with_reducible constructor | constructor)))
      (apply TriM.a 14; (case ho => rfl); (case hg => rfl); (case hr => kernel_rfl); (try dsimp only [List.cons_append, List.nil_append]))
      (apply o_storeAll (ys := bmL T.1); (case hx => rfl); (case hy => rfl); (case p => (with_reducible repeat constructor)); (case hl => exact bmL_len hTl); (case hc => exact z513'); (case h1 => exact bmL_one _))
      (apply TriM.back; (case p => (repeat first | with_reducible constructor | constructor)))
      ((first | (apply TriM.q 15; rfl; rfl) | (apply TriM.qYes 15; rfl; rfl; rfl; with_reducible rfl)); kernel_rfl; rfl; rfl; (intro F K hK; apply o_assign; rfl; rfl; exact hK); (first | (apply TriM.q 16; rfl; rfl) | (apply TriM.qYes 16; rfl; rfl; rfl; with_reducible rfl)); kernel_rfl; rfl; rfl; (intro F K hK; apply o_assign; rfl; rfl; exact hK))
      (apply TriM.nil; (case hr => kernel_rfl); (try dsimp only [List.cons_append, List.nil_append]))
      (refine Tri.thenN ?_)
      (apply Tri.reach (y := b8); (case hL => ((try dsimp only); (repeat (first | exact trivial | refine And.intro (by rfl) ?_)))); (case p => ((try dsimp only); (repeat (first | exact Pulls.nil | (apply Pulls.cons; (case a => (first | ((repeat (first | with_reducible exact Gv.Pull.head | with_reducible apply Gv.Pull.tail)); done) | (repeat (first | exact Gv.Pull.head | apply Gv.Pull.tail))))))))))
    by_cases hz : T.2.2 = 0
    · (refine Tri.seq (Tri.seq (Tri.region ?_)); apply Tri.op; rfl; apply o_move; rfl; rfl; apply Tri.op; rfl; apply o_neq; rfl; rfl; rfl; refine Tri.nil (Tri.thenN ?_))
      ((with_reducible apply Tri.setb 33 (false)); (case h => rfl); (case hi => (rw [hz]; rfl)))
      (apply Tri.condF; rfl; rfl; refine Tri.skip (Tri.thenN (Tri.seq (Tri.region ?_))); apply Tri.op; rfl; apply o_move; rfl; rfl; apply Tri.op; rfl)
      (apply o_loadAll (cs := bmL T.1); (case hx => rfl); (case p => exact (by (with_reducible repeat constructor))); (case hl => exact bmL_len hTl); (case hn => rfl))
      (apply Tri.op; rfl; apply o_nilCheck; rfl; rfl; apply Tri.op; rfl; apply o_fieldAddr; rfl; rfl; apply Tri.op; rfl)
      (apply o_storeAgg (ys := bmL T.1); (case hx => rfl); (case hy => rfl); (case hl => exact bmL_len hTl); (case h1 => exact bmL_one _); (case p => (with_reducible repeat constructor)); (case hi => (rw [viewL_len hv]; omega)))
      ((with_reducible apply Tri.eqA (A := blk pv _ _) (B := blk pv 194 (viewL d ⟨v.S, v.gen, T.1, v.old⟩))); (case p => (with_reducible repeat constructor)); (case e => (rw [viewL_set hv T.1 v.S])))
      (refine Tri.nil (Tri.thenN ?_))
      refine Tri.seq ?_
      (refine Tri.region ?_; apply Tri.op; rfl; apply o_assign; rfl; rfl; refine Tri.nil (Tri.thenN ?_))
      (apply Tri.seqMeet (α := Unit) (Lx := fun _ => [(0, .pointer (some ⟨pv, 0, none⟩)), (6, u), (9, .int .i64 T.2.1), (10, .int .u8 ((kindN leaf).toNat : Int))]) (Hx := fun _ => [own 5 1 u (putN leaf x.E x.K x.D).length (B8 (putN leaf x.E x.K x.D)), blk pv 194 (viewL d ⟨v.S, v.gen, T.1, v.old⟩), DSK d v.S, manyRd l, Ex h0]); rotate_left; (rintro ⟨⟩; (try dsimp only)); rotate_left)
      · cases leaf
        · (refine Tri.seq (Tri.region ?_); apply Tri.op; rfl; apply o_fieldAddr; rfl; rfl; apply Tri.op; rfl; apply o_load; rfl; (with_reducible repeat constructor); rfl; rfl; refine Tri.nil (Tri.thenN ?_); apply Tri.condF; rfl; rfl; refine Tri.skip (Tri.thenN ?_))
          ((with_reducible apply Tri.seti 10 (((kindN false).toNat : Int))); (case h => rfl); (case hi => rfl))
          (apply Tri.reach (y := ()); (case hL => ((try dsimp only); (repeat (first | exact trivial | refine And.intro (by rfl) ?_)))); (case p => ((try dsimp only); (repeat (first | exact Pulls.nil | (apply Pulls.cons; (case a => (first | ((repeat (first | with_reducible exact Gv.Pull.head | with_reducible apply Gv.Pull.tail)); done) | (repeat (first | exact Gv.Pull.head | apply Gv.Pull.tail))))))))))
        · (refine Tri.seq (Tri.region ?_); apply Tri.op; rfl; apply o_fieldAddr; rfl; rfl; apply Tri.op; rfl; apply o_load; rfl; (with_reducible repeat constructor); rfl; rfl; refine Tri.nil (Tri.thenN ?_); apply Tri.condT; rfl; rfl; refine Tri.region ?_; apply Tri.op; rfl; apply o_assign; rfl; rfl; refine Tri.nil (Tri.thenN ?_))
          ((with_reducible apply Tri.seti 10 (((kindN true).toNat : Int))); (case h => rfl); (case hi => rfl))
          (apply Tri.reach (y := ()); (case hL => ((try dsimp only); (repeat (first | exact trivial | refine And.intro (by rfl) ?_)))); (case p => ((try dsimp only); (repeat (first | exact Pulls.nil | (apply Pulls.cons; (case a => (first | ((repeat (first | with_reducible exact Gv.Pull.head | with_reducible apply Gv.Pull.tail)); done) | (repeat (first | exact Gv.Pull.head | apply Gv.Pull.tail))))))))))
      obtain ⟨q, hq⟩ : ∃ q : PG, q = ⟨kindN leaf, T.2.1, v.gen, putN leaf x.E x.K x.D⟩ := ⟨_, rfl⟩
      refine Tri.shut (e := 5) (size := 1) (v := u) (by (with_reducible repeat constructor)) (fun h2 ho => ?_)
      have hr2 : Rd h2 u q.b.length (B8 q.b) := by rw [hq]; exact own_Rd ho
      have hgp : q.g < 18446744073709551616 := by rw [hq]; exact hv.g
      obtain ⟨Au, cu, hu, _⟩ := (own_Rd ho).slice
      subst hu
      have hw1 : wrN v leaf x = (⟨(wrPg v.S q).1, v.gen, T.1, v.old⟩, T.2.1, (wrPg v.S q).2) := by rw [wrN, if_neg (by rw [hrt]; simp), ← hT, if_neg (by omega), ← hq]
      rw [hw1]
      obtain ⟨v1, hv1⟩ : ∃ v1 : VS, v1 = ⟨v.S, v.gen, T.1, v.old⟩ := ⟨_, rfl⟩
      have hvl : viewL d ⟨(wrPg v.S q).1, v.gen, T.1, v.old⟩ = viewL d v1 := by rw [hv1]; rfl
      have hgl : (v1.gen : Int) = v.gen := by rw [hv1]
      have hqL : ∀ w', [.int .u8 ((kindN leaf).toNat : Int), .int .i64 T.2.1, .int .u64 (v1.gen : Int), w'] = pgL q w' := fun w' => by rw [hq, hv1]; rfl
      rw [hvl]
      rw [← hv1]
      (refine Tri.seq ?_)
      ((first | with_reducible apply Tri.mix [blk pv 194 (viewL d v1)] | (apply TriR.mix [blk pv 194 (viewL d v1)]; (case hnd => rfl))); (case p => (repeat first | with_reducible constructor | constructor)); (dsimp only [List.length]))
      ((first | (apply TriM.q 0; rfl; rfl) | (apply TriM.qYes 0; rfl; rfl; rfl; with_reducible rfl)); kernel_rfl; rfl; rfl; (intro F K hK; apply o_move; rfl; rfl; exact hK); (first | (apply TriM.q 1; rfl; rfl) | (apply TriM.qYes 1; rfl; rfl; rfl; with_reducible rfl)); kernel_rfl; rfl; rfl; (intro F K hK; apply o_move; rfl; rfl; exact hK); (first | (apply TriM.q 2; rfl; rfl) | (apply TriM.qYes 2; rfl; rfl; rfl; with_reducible rfl)); kernel_rfl; rfl; rfl; (intro F K hK; apply o_nilCheck; rfl; rfl; exact hK); (first | (apply TriM.q 3; rfl; rfl) | (apply TriM.qYes 3; rfl; rfl; rfl; with_reducible rfl)); kernel_rfl; rfl; rfl; (intro F K hK; apply o_fieldAddr; rfl; rfl; exact hK))
      ((first | (apply TriM.q 4; (case ho => rfl); (case hg => rfl)) | (apply TriM.qYes 4; (case ho => rfl); (case hg => rfl); (case hyl => rfl); (case hb => with_reducible rfl))); (case hB => kernel_rfl); (case hd => rfl); (case hn => rfl); (case h => (intro F K hK; (try dsimp only [List.cons_append, List.nil_append]); (apply o_loadAgg; (case hx => rfl); (case p => (with_reducible repeat constructor)); (case hv => exact viewL_tab d v1); (case hl => exact tabL_length); (case hn => rfl)); exact hK)))
      ((first | (apply TriM.q 5; rfl; rfl) | (apply TriM.qYes 5; rfl; rfl; rfl; with_reducible rfl)); kernel_rfl; rfl; rfl; (intro F K hK; apply o_move; rfl; rfl; exact hK); (first | (apply TriM.q 6; rfl; rfl) | (apply TriM.qYes 6; rfl; rfl; rfl; with_reducible rfl)); kernel_rfl; rfl; rfl; (intro F K hK; apply o_nilCheck; rfl; rfl; exact hK); (first | (apply TriM.q 7; rfl; rfl) | (apply TriM.qYes 7; rfl; rfl; rfl; with_reducible rfl)); kernel_rfl; rfl; rfl; (intro F K hK; apply o_fieldAddr; rfl; rfl; exact hK))
      ((first | (apply TriM.q 8; (case ho => rfl); (case hg => rfl)) | (apply TriM.qYes 8; (case ho => rfl); (case hg => rfl); (case hyl => rfl); (case hb => with_reducible rfl))); (case hB => kernel_rfl); (case hd => rfl); (case hn => rfl); (case h => (intro F K hK; (try dsimp only [List.cons_append, List.nil_append]); (apply o_load; (case hx => rfl); (case p => (with_reducible repeat constructor)); (case hv => exact viewL_d d v1); (case hn => rfl)); exact hK)))
      ((first | (apply TriM.q 9; rfl; rfl) | (apply TriM.qYes 9; rfl; rfl; rfl; with_reducible rfl)); kernel_rfl; rfl; rfl; (intro F K hK; apply o_move; rfl; rfl; exact hK); (first | (apply TriM.q 10; rfl; rfl) | (apply TriM.qYes 10; rfl; rfl; rfl; with_reducible rfl)); kernel_rfl; rfl; rfl; (intro F K hK; apply o_move; rfl; rfl; exact hK); (first | (apply TriM.q 11; rfl; rfl) | (apply TriM.qYes 11; rfl; rfl; rfl; with_reducible rfl)); kernel_rfl; rfl; rfl; (intro F K hK; apply o_move; rfl; rfl; exact hK); (first | (apply TriM.q 12; rfl; rfl) | (apply TriM.qYes 12; rfl; rfl; rfl; with_reducible rfl)); kernel_rfl; rfl; rfl; (intro F K hK; apply o_nilCheck; rfl; rfl; exact hK); (first | (apply TriM.q 13; rfl; rfl) | (apply TriM.qYes 13; rfl; rfl; rfl; with_reducible rfl)); kernel_rfl; rfl; rfl; (intro F K hK; apply o_fieldAddr; rfl; rfl; exact hK))
      ((first | (apply TriM.q 14; (case ho => rfl); (case hg => rfl)) | (apply TriM.qYes 14; (case ho => rfl); (case hg => rfl); (case hyl => rfl); (case hb => with_reducible rfl))); (case hB => kernel_rfl); (case hd => rfl); (case hn => rfl); (case h => (intro F K hK; (try dsimp only [List.cons_append, List.nil_append]); (apply o_load; (case hx => rfl); (case p => (with_reducible repeat constructor)); (case hv => exact viewL_g d v1); (case hn => rfl)); exact hK)))
      ((first | (apply TriM.q 15; rfl; rfl) | (apply TriM.qYes 15; rfl; rfl; rfl; with_reducible rfl)); kernel_rfl; rfl; rfl; (intro F K hK; apply o_move; rfl; rfl; exact hK))
      ((first | (apply TriM.q 16; (case ho => rfl); (case hg => rfl)) | (apply TriM.qYes 16; (case ho => rfl); (case hg => rfl); (case hyl => rfl); (case hb => with_reducible rfl))); (case hB => kernel_rfl); (case hd => rfl); (case hn => rfl); (case h => (intro F K hK; (try dsimp only [List.cons_append, List.nil_append]); (apply o_build (ys := [.int .u8 ((kindN leaf).toNat : Int), .int .i64 T.2.1, .int .u64 (v1.gen : Int), .slice Au (putN leaf x.E x.K x.D).length cu]); (case hp => (repeat first | exact pev.nil | (apply pev.cons; case a => rfl))); (case hf => rfl); (case hn => rfl)); exact hK)))
      ((with_reducible apply TriM.setv 57 ((pgV q (.slice Au (putN leaf x.E x.K x.D).length cu)))); (case h => rfl); (case hv => (rw [hqL]; rfl)))
      (apply TriM.a 17; (case ho => rfl); (case hg => rfl); (case hr => kernel_rfl); (try dsimp only [List.cons_append, List.nil_append]))
      (apply o_callS (hs := page_Write d v.S q (.slice Au (putN leaf x.E x.K x.D).length cu) h2 hr2 hgp hv.S hl); (case hargs => (repeat first | exact evs.nil | (apply evs.cons; case a => rfl))); (case p => (repeat first | with_reducible constructor | constructor)); (case hn => rfl))
      rintro r9 H9 ⟨rfl, rfl⟩
      (try dsimp only [List.cons_append, List.nil_append])
      (apply TriM.back; (case p => (repeat first | with_reducible constructor | constructor)))
      ((first | (apply TriM.q 18; rfl; rfl) | (apply TriM.qYes 18; rfl; rfl; rfl; with_reducible rfl)); kernel_rfl; rfl; rfl; (intro F K hK; apply o_assign; rfl; rfl; exact hK); (first | (apply TriM.q 19; rfl; rfl) | (apply TriM.qYes 19; rfl; rfl; rfl; with_reducible rfl)); kernel_rfl; rfl; rfl; (intro F K hK; apply o_assign; rfl; rfl; exact hK))
      (apply TriM.nil; (case hr => kernel_rfl); (try dsimp only [List.cons_append, List.nil_append]))
      (refine Tri.thenN (Tri.ret ?_))
      (apply Tri.fin; (case hr => rfl); (case h => exact ResL.cons (Res1.tmp rfl) (ResL.cons (Res1.tmp rfl) (ResL.nil))); (apply fin_R (Hn := [blk pv 194 (viewL d v1), DSK d (wrPg v.S q).1, manyRd l])); (case p => exact (by (repeat first | with_reducible constructor | constructor))); exact ⟨rfl, rfl⟩)
    · (refine Tri.seq (Tri.seq (Tri.region ?_)); apply Tri.op; rfl; apply o_move; rfl; rfl; apply Tri.op; rfl; apply o_neq; rfl; rfl; rfl; refine Tri.nil (Tri.thenN ?_))
      ((with_reducible apply Tri.setb 33 (true)); (case h => rfl); (case hi => (rw [decide_eq_true]; omega)))
      (apply Tri.condT; rfl; rfl; refine Tri.seq (Tri.region ?_); apply Tri.op; rfl; apply o_move; rfl; rfl; apply Tri.op; rfl; apply o_assign; rfl; rfl; apply Tri.op; rfl; apply o_assign; rfl; rfl; refine Tri.nil (Tri.thenN (Tri.ret (Tri.thenR ?_))))
      have hw1 : wrN v leaf x = (v, 0, T.2.2) := by rw [wrN, if_neg (by rw [hrt]; simp), ← hT, if_pos hz]
      rw [hw1]
      (apply Tri.fin; (case hr => rfl); (case h => exact ResL.cons (Res1.tmp rfl) (ResL.cons (Res1.tmp rfl) (ResL.nil))); (apply fin_R (Hn := [blk pv 194 (viewL d v), DSK d v.S, manyRd l])); (case p => exact (by (repeat first | with_reducible constructor | constructor))); exact ⟨rfl, rfl⟩)
  · have hrt' : rightN leaf x.E x.K x.D = false := by simpa using hrt
    (apply o_callR (hs := node_PutN_no leaf ev kv dv x.E x.K x.D hrt'); (case hargs => (repeat first | exact evs.nil | (apply evs.cons; case a => rfl))); (case hpre => exact fun w' hw' => ⟨rdw_many (by (with_reducible repeat constructor)) mE w' hw', rdw_many (by (with_reducible repeat constructor)) mK w' hw', rdw_many (by (with_reducible repeat constructor)) mD w' hw'⟩); (case hn => rfl))
    rintro r1 H1 ⟨rfl, rfl⟩
    (try dsimp only [List.cons_append, List.nil_append])
    (apply Tri.op; rfl; apply o_move; rfl; rfl; apply Tri.op; rfl; apply o_extract; rfl; rfl; rfl; apply Tri.op; rfl; apply o_extract; rfl; rfl; rfl; apply Tri.op; rfl; apply o_assign; rfl; rfl; apply Tri.op; rfl; apply o_assign; rfl; rfl; refine Tri.nil (Tri.thenN (Tri.seq (Tri.seq (Tri.region ?_)))); apply Tri.op; rfl; apply o_move; rfl; rfl; apply Tri.op; rfl; apply o_neq; rfl; rfl; rfl; refine Tri.nil (Tri.thenN ?_))
    ((with_reducible apply Tri.setb 17 (true)); (case h => rfl); (case hi => rfl))
    (apply Tri.condT; rfl; rfl; refine Tri.seq (Tri.region ?_); apply Tri.op; rfl; apply o_move; rfl; rfl; apply Tri.op; rfl; apply o_assign; rfl; rfl; apply Tri.op; rfl; apply o_assign; rfl; rfl; refine Tri.nil (Tri.thenN (Tri.ret (Tri.thenR ?_))))
    have hw1 : wrN v leaf x = (v, 0, 1) := by rw [wrN, if_pos hrt']
    rw [hw1]
    (apply Tri.fin; (case hr => rfl); (case h => exact ResL.cons (Res1.tmp rfl) (ResL.cons (Res1.tmp rfl) (ResL.nil))); (apply fin_R (Hn := [blk pv 194 (viewL d v), DSK d v.S, manyRd l])); (case p => exact (by (repeat first | with_reducible constructor | constructor))); exact ⟨rfl, rfl⟩)
end Go.Proofs.Ytckdlfbbkemklaa
end
section
/- tree: a view's under: the walk. -/
namespace Go.Proofs.Ytckdlfbbkemklaa
open Go Go.RowKit Go.Gv
set_option linter.unusedVariables false
set_option linter.unusedSimpArgs false

theorem one_int (n : Int) : ∀ y ∈ [Value.int .i64 n], y.oneCell' = true := fun y hy => by rw [List.mem_singleton.1 hy]; rfl
set_option maxHeartbeats 16000000 in
theorem view_under (pv d : Nat) (v : VS) (leaf : Bool) (AR : Option Addr) (cr : Nat) (VV : List (Value × Value × Value)) (xs : List ND3) (hv : v.ok) (hxl : VV.length = xs.length) (hn : xs.length ≤ 100000) (hl : v.S.W.length + 4 * xs.length ≤ 800000)
    (hW : ∀ v ∈ VV, ∃ A a B b C c i j k, v = (Value.slice A i a, Value.slice B j b, Value.slice C k c)) (hR : ∀ x ∈ xs, ∀ e ∈ x.E, entR e) :
    Gv.Spec Try.prog 110 #[.pointer (some ⟨pv, 0, none⟩), .slice AR VV.length cr] [blk pv 194 (viewL d v), DSK d v.S, own 33 4 (.slice AR VV.length cr) VV.length (NDL leaf VV), manyRd (RDS VV xs)]
    (fun r H' => ∃ A a B b, r = .tuple #[ndW false (.slice none 0 0) (.slice A (unN leaf v xs).2.1.K.length a) (.slice B (unN leaf v xs).2.1.D.length b), .int .i64 ((unN leaf v xs).2.2 : Int)]
      ∧ H' = [blk pv 194 (viewL d (unN leaf v xs).1), DSK d (unN leaf v xs).1.S, own 33 4 (.slice AR VV.length cr) VV.length (NDL leaf VV), manyRd (RDS VV xs), own 98 2 (.slice A (unN leaf v xs).2.1.K.length a) (unN leaf v xs).2.1.K.length (KL (unN leaf v xs).2.1.K), own 3 1 (.slice B (unN leaf v xs).2.1.D.length b) (unN leaf v xs).2.1.D.length (NL (unN leaf v xs).2.1.D)]) := by
  refine Gv.Spec.of (fun w h0 hw => ?_)
  refine Calls.enter Try.func110 rfl rfl rfl hw ?_
  simp only [argSlots]
  (try dsimp only [List.cons_append, List.nil_append])
  (refine Tri.seq (Tri.region ?_); apply Tri.op; rfl)
  (apply o_alloc; (case hn => rfl); intro b4)
  (apply Tri.op; rfl; apply o_assign; rfl; rfl; refine Tri.nil (Tri.thenN (Tri.seq (Tri.region ?_))); apply Tri.op; rfl)
  (apply o_alloc; (case hn => rfl); intro b6)
  (refine Tri.nil (Tri.thenN (Tri.seq (Tri.seq (Tri.region ?_)))); apply Tri.op; rfl; apply o_move; rfl; rfl; apply Tri.op; rfl; apply o_len; rfl; rfl; apply Tri.op; rfl; apply o_move; rfl; rfl; refine Tri.nil (Tri.thenN (Tri.block ?_)))
  (with_reducible apply Tri.ownNil 98 2)
  (with_reducible apply Tri.ownNil 3 1)
  ((with_reducible apply Tri.eqA (A := own 98 2 (.slice none 0 0) 0 []) (B := own 98 2 (.slice none 0 0) 0 (KL ((xs.take 0).map (least3 leaf))))); (case p => (with_reducible repeat constructor)); (case e => rfl))
  ((with_reducible apply Tri.eqA (A := own 3 1 (.slice none 0 0) 0 []) (B := own 3 1 (.slice none 0 0) 0 (NL (unGo leaf v (xs.take 0)).2.1))); (case p => (with_reducible repeat constructor)); (case e => rfl))
  ((with_reducible apply Tri.eqA (A := blk pv _ _) (B := blk pv 194 (viewL d (unGo leaf v (xs.take 0)).1))); (case p => (with_reducible repeat constructor)); (case e => rfl))
  ((with_reducible apply Tri.eqA (A := DSK d _) (B := DSK d (unGo leaf v (xs.take 0)).1.S)); (case p => (with_reducible repeat constructor)); (case e => rfl))
  ((with_reducible apply Tri.eqA (A := blk b6 _ _) (B := blk b6 33 (ndLL false (.slice none 0 0) (.slice none 0 0) (.slice none 0 0)))); (case p => (with_reducible repeat constructor)); (case e => rfl))
  ((with_reducible apply Tri.eqA (A := blk b4 _ _) (B := blk b4 33 (ndLL false (.slice none 0 0) (.slice none 0 0) (.slice none 0 0)))); (case p => (with_reducible repeat constructor)); (case e => rfl))
  (apply Tri.loop (α := Σ' (i : Nat) (_ : Option Addr) (_ : Nat) (_ : Option Addr) (_ : Nat), i ≤ xs.length ∧ (unGo leaf v (xs.take i)).2.2 = 0) (m := fun x => xs.length - x.1) (Lx := fun x => [(0, .pointer (some ⟨pv, 0, none⟩)), (4, .pointer (some ⟨b4, 0, none⟩)), (6, .pointer (some ⟨b6, 0, none⟩)), (11, .slice AR VV.length cr), (12, .int .i64 (VV.length : Int)), (13, .int .i64 (x.1 : Int))]) (Hx := fun x => [blk b6 33 (ndLL false (.slice none 0 0) (.slice x.2.1 x.1 x.2.2.1) (.slice x.2.2.2.1 x.1 x.2.2.2.2.1)), blk b4 33 (ndLL false (.slice none 0 0) (.slice none 0 0) (.slice none 0 0)), blk pv 194 (viewL d (unGo leaf v (xs.take x.1)).1), DSK d (unGo leaf v (xs.take x.1)).1.S, own 33 4 (.slice AR VV.length cr) VV.length (NDL leaf VV), manyRd (RDS VV xs), own 98 2 (.slice x.2.1 x.1 x.2.2.1) x.1 (KL ((xs.take x.1).map (least3 leaf))), own 3 1 (.slice x.2.2.2.1 x.1 x.2.2.2.2.1) x.1 (NL (unGo leaf v (xs.take x.1)).2.1), Ex h0]) (x0 := ⟨0, none, 0, none, 0, Nat.zero_le _, rfl⟩); (case hL => ((try dsimp only); (repeat (first | exact trivial | refine And.intro (by rfl) ?_)))); (case hH => ((try dsimp only); apply St.all; (repeat first | with_reducible constructor | constructor)))); (rintro ⟨i, A, a, B, b, hi, he⟩ mx hmx; (try dsimp only at hmx ⊢))
  (refine Tri.seq (Tri.region ?_); apply Tri.op; rfl; apply o_lss; rfl; rfl; rfl; refine Tri.nil (Tri.thenN (Tri.seq ?_)))
  (apply Tri.condD; (case hc => rfl); (all_goals intro hc))
  · have hix : i < xs.length := by omega
    have hiv : i < VV.length := by omega
    obtain ⟨y, hy⟩ : ∃ y, xs[i]? = some y := ⟨_, List.getElem?_eq_getElem hix⟩
    obtain ⟨vv, hvv⟩ : ∃ v, VV[i]? = some v := ⟨_, List.getElem?_eq_getElem hiv⟩
    obtain ⟨A1, a1, B1, b1, C1, c1, i1, j1, k1, rfl⟩ := hW vv (List.mem_of_getElem? hvv)
    have hRy := hR y (List.mem_of_getElem? hy)
    have hmem := rds_at VV xs i _ y hvv hy
    have htk : xs.take (i + 1) = xs.take i ++ [y] := by rw [List.take_add_one, hy]; rfl
    have hsn := unGo_snoc leaf (xs.take i) v y he
    rw [← htk] at hsn
    have hok := unGo_ok leaf (xs.take i) hv
    have hok2 := unGo_ok leaf (xs.take (i + 1)) hv
    have hln := unGo_len leaf (xs.take i) v
    have hlt : (xs.take i).length = i := by rw [List.length_take]; omega
    rw [hlt] at hln
    obtain ⟨U, hU⟩ : ∃ U, U = unGo leaf v (xs.take i) := ⟨_, rfl⟩
    rw [← hU] at he hsn hok hln ⊢
    (refine Tri.skip (Tri.thenN (Tri.seq (Tri.block (Tri.seq (Tri.region ?_))))); apply Tri.op; rfl)
    (apply o_ixOwn (j := i); (case hx => rfl); (case hy => rfl); (case p => (with_reducible repeat constructor)); (case hj => rfl); (case hlt => exact hiv); (case hn => rfl))
    (apply Tri.op; rfl)
    (apply o_loadAggOwn; (case hx => rfl); (case p => (with_reducible repeat constructor)); (case hv => exact NDL_at VV i _ hvv); (case hl => rfl); (case hn => rfl))
    (apply Tri.op; rfl)
    (apply o_alloc; (case hn => rfl); intro b8)
    (apply Tri.op; rfl)
    (apply o_storeAll (ys := ndLL leaf (.slice A1 i1 a1) (.slice B1 j1 b1) (.slice C1 k1 c1)); (case hx => rfl); (case hy => rfl); (case p => (with_reducible repeat constructor)); (case hl => rfl); (case hc => rfl); (case h1 => exact ndLL_one leaf A1 B1 C1 i1 a1 j1 b1 k1 c1))
    (refine Tri.nil (Tri.thenN (Tri.seq (Tri.region ?_))); apply Tri.op; rfl; apply o_move; rfl; rfl; apply Tri.op; rfl)
    (apply o_loadAll (cs := ndLL leaf (.slice A1 i1 a1) (.slice B1 j1 b1) (.slice C1 k1 c1)); (case hx => rfl); (case p => exact (by (with_reducible repeat constructor))); (case hl => rfl); (case hn => rfl))
    (apply Tri.op; rfl)
    (apply o_callS (hs := view_write pv d U.1 leaf (.slice A1 i1 a1) (.slice B1 j1 b1) (.slice C1 k1 c1) y (RDS VV xs) hok (by omega) hmem.1 hmem.2.1 hmem.2.2 hRy); (case hargs => (repeat first | exact evs.nil | (apply evs.cons; case a => rfl))); (case p => (repeat first | with_reducible constructor | constructor)); (case hn => rfl))
    rintro r1 H1 ⟨rfl, rfl⟩
    (try dsimp only [List.cons_append, List.nil_append])
    obtain ⟨W, hWd⟩ : ∃ W, W = wrN U.1 leaf y := ⟨_, rfl⟩
    rw [← hWd] at hsn ⊢
    by_cases hz : W.2.2 = 0
    · have he' : (unGo leaf v (xs.take (i + 1))).2.2 = 0 := by rw [hsn.2.1]; exact hz
      have hix' : i + 1 ≤ xs.length := hix
      have hkl : KL ((xs.take i).map (least3 leaf)) ++ keyL (leastN leaf y.E y.K) = KL ((xs.take (i + 1)).map (least3 leaf)) := by
        rw [htk, List.map_append, KL_app]; simp [KL, least3]
      have hnl : NL U.2.1 ++ [.int .i64 W.2.1] = NL (unGo leaf v (xs.take (i + 1))).2.1 := by
        rw [hsn.2.2 hz, NL_app]; rfl
      (apply Tri.op; rfl; apply o_move; rfl; rfl; apply Tri.op; rfl; apply o_extract; rfl; rfl; rfl; apply Tri.op; rfl; apply o_extract; rfl; rfl; rfl; apply Tri.op; rfl; apply o_assign; rfl; rfl; apply Tri.op; rfl; apply o_assign; rfl; rfl; refine Tri.nil (Tri.thenN (Tri.seq (Tri.seq (Tri.region ?_)))); apply Tri.op; rfl; apply o_move; rfl; rfl; apply Tri.op; rfl; apply o_neq; rfl; rfl; rfl; refine Tri.nil (Tri.thenN ?_))
      ((with_reducible apply Tri.setb 24 (false)); (case h => rfl); (case hi => (rw [hz]; rfl)))
      (apply Tri.condF; rfl; rfl; refine Tri.skip (Tri.thenN ?_))
      (apply Tri.mixN 12 [blk b8 33 (ndLL leaf (.slice A1 i1 a1) (.slice B1 j1 b1) (.slice C1 k1 c1)), manyRd (RDS VV xs)] [blk b8 33 (ndLL leaf (.slice A1 i1 a1) (.slice B1 j1 b1) (.slice C1 k1 c1)), manyRd (RDS VV xs), blk b6 33 (ndLL false (.slice none 0 0) (.slice A i a) (.slice B i b))]; (case hp => exact ⟨_, rfl⟩); (case p => (repeat first | with_reducible constructor | constructor)); (dsimp only [List.length]))
      ((apply TriN.q 0; (case ho => rfl); (case hg => rfl); (case hB => kernel_rfl); (case hd => rfl); (case hn => rfl); (case h => (intro F K hK; (try dsimp only [List.cons_append, List.nil_append]); apply o_fieldAddr; rfl; rfl; exact hK))); (apply TriN.q 1; (case ho => rfl); (case hg => rfl); (case hB => kernel_rfl); (case hd => rfl); (case hn => rfl); (case h => (intro F K hK; (try dsimp only [List.cons_append, List.nil_append]); apply o_load; rfl; (with_reducible repeat constructor); rfl; rfl; exact hK))))
      (apply TriN.q 2; (case ho => rfl); (case hg => rfl); (case hB => kernel_rfl); (case hd => rfl); (case hn => rfl); (case h => (intro F K hK; (try dsimp only [List.cons_append, List.nil_append]); (apply o_loadAll (cs := ndLL leaf (.slice A1 i1 a1) (.slice B1 j1 b1) (.slice C1 k1 c1)); (case hx => rfl); (case p => exact (by (with_reducible repeat constructor))); (case hl => rfl); (case hn => rfl)); exact hK)))
      (apply TriN.q 3; (case ho => rfl); (case hg => rfl); (case hB => kernel_rfl); (case hd => rfl); (case hn => rfl); (case h => (intro F K hK; (try dsimp only [List.cons_append, List.nil_append]); apply o_callV (hs := node_Least leaf (.slice A1 i1 a1) (.slice B1 j1 b1) (.slice C1 k1 c1) y.E y.K y.D); (case hargs => (repeat first | exact evs.nil | (apply evs.cons; case a => rfl))); (case hpre => exact fun w' hw' => ⟨rdw_many (by (with_reducible repeat constructor)) hmem.1 w' hw', rdw_many (by (with_reducible repeat constructor)) hmem.2.1 w' hw', rdw_many (by (with_reducible repeat constructor)) hmem.2.2 w' hw'⟩); (case hn => rfl); exact hK)))
      ((apply TriN.q 6; (case ho => rfl); (case hg => rfl); (case hB => kernel_rfl); (case hd => rfl); (case hn => rfl); (case h => (intro F K hK; (try dsimp only [List.cons_append, List.nil_append]); apply o_fieldAddr; rfl; rfl; exact hK))); (apply TriN.q 7; (case ho => rfl); (case hg => rfl); (case hB => kernel_rfl); (case hd => rfl); (case hn => rfl); (case h => (intro F K hK; (try dsimp only [List.cons_append, List.nil_append]); apply o_load; rfl; (with_reducible repeat constructor); rfl; rfl; exact hK))); (apply TriN.q 8; (case ho => rfl); (case hg => rfl); (case hB => kernel_rfl); (case hd => rfl); (case hn => rfl); (case h => (intro F K hK; (try dsimp only [List.cons_append, List.nil_append]); apply o_move; rfl; rfl; exact hK))))
      (apply TriN.a2 4 9; (case hoi => rfl); (case hoj => rfl); (case hgi => rfl); (case hgj => rfl); (case hr => kernel_rfl); (all_goals (try dsimp only [List.cons_append, List.nil_append])))
      · (apply o_litSl (ys := keyL (leastN leaf y.E y.K)); (case hp => (repeat first | exact pev.nil | (apply pev.cons; case a => rfl))); (case hm => rfl); (case hf => rfl); (case hn => rfl); intro v4)
        (apply TriN.back; (case hp => exact ⟨_, rfl⟩); (case p => (repeat first | with_reducible constructor | constructor)))
        (apply TriN.a2 5 9; (case hoi => rfl); (case hoj => rfl); (case hgi => rfl); (case hgj => rfl); (case hr => kernel_rfl); (all_goals (try dsimp only [List.cons_append, List.nil_append])))
        · (apply o_append (m2 := 1) (news := keyL (leastN leaf y.E y.K)); (case hx => rfl); (case hy => rfl); (case p => (with_reducible repeat constructor)); (case hr => exact rdw_own (v := v4) (by (with_reducible repeat constructor))); (case hl => rfl); (case h1 => exact keyL_one _); (case hb => omega); (case hn => rfl))
          intro v5
          (refine Tri.shape (e := 98) (size := 2) (v := v5) (by (with_reducible repeat constructor)) ?_; rintro ⟨A2, a2, rfl⟩)
          (apply TriN.back; (case hp => exact ⟨_, rfl⟩); (case p => (repeat first | with_reducible constructor | constructor)))
          ((apply TriN.p 11; (case ho => rfl); (case hg => rfl); (case hB => kernel_rfl); (case hd => rfl); (case hn => rfl); (case h => (intro F K hK; (try dsimp only [List.cons_append, List.nil_append]); apply o_fieldAddr; rfl; rfl; exact hK))))
          (apply TriN.a 9; (case ho => rfl); (case hg => rfl); (case hr => kernel_rfl); (try dsimp only [List.cons_append, List.nil_append]))
          (apply o_litSl (ys := [.int .i64 W.2.1]); (case hp => (repeat first | exact pev.nil | (apply pev.cons; case a => rfl))); (case hm => rfl); (case hf => rfl); (case hn => rfl); intro v9)
          (apply TriN.back; (case hp => exact ⟨_, rfl⟩); (case p => (repeat first | with_reducible constructor | constructor)))
          (apply TriN.a 10; (case ho => rfl); (case hg => rfl); (case hr => kernel_rfl); (try dsimp only [List.cons_append, List.nil_append]))
          (apply o_append (m2 := 1) (news := [.int .i64 W.2.1]); (case hx => rfl); (case hy => rfl); (case p => (with_reducible repeat constructor)); (case hr => exact rdw_own (v := v9) (by (with_reducible repeat constructor))); (case hl => rfl); (case h1 => exact one_int _); (case hb => omega); (case hn => rfl))
          intro v10
          (refine Tri.shape (e := 3) (size := 1) (v := v10) (by (with_reducible repeat constructor)) ?_; rintro ⟨B2, b2, rfl⟩)
          (apply TriN.back; (case hp => exact ⟨_, rfl⟩); (case p => (repeat first | with_reducible constructor | constructor)))
          (apply TriN.less; (case ho => rfl); (case hg => rfl); (case hr => kernel_rfl); (try dsimp only [List.cons_append, List.nil_append]))
          (apply o_store; (case hx => rfl); (case hy => rfl); (case h1 => rfl); (case p => (with_reducible repeat constructor)); (case hi => exact (by decide : 2 < 4)))
          (apply TriM.back; (case p => (repeat first | with_reducible constructor | constructor)))
          ((first | (apply TriM.q 13; rfl; rfl) | (apply TriM.qYes 13; rfl; rfl; rfl; with_reducible rfl)); kernel_rfl; rfl; rfl; (intro F K hK; apply o_fieldAddr; rfl; rfl; exact hK))
          (apply TriM.a 14; (case ho => rfl); (case hg => rfl); (case hr => kernel_rfl); (try dsimp only [List.cons_append, List.nil_append]))
          (apply o_store; (case hx => rfl); (case hy => rfl); (case h1 => rfl); (case p => (with_reducible repeat constructor)); (case hi => exact (by decide : 3 < 4)))
          (apply TriM.back; (case p => (repeat first | with_reducible constructor | constructor)))
          (apply TriM.nil; (case hr => kernel_rfl); (try dsimp only [List.cons_append, List.nil_append]))
          (refine Tri.blockN (Tri.thenN (Tri.region ?_)); apply Tri.op; rfl; apply o_add64; rfl; rfl; rfl; (omega); apply Tri.op; rfl; apply o_move; rfl; rfl; refine Tri.nil (Tri.thenN ?_))
          ((with_reducible apply Tri.eqA (A := own 98 2 (.slice A2 (i + 1) a2) _ _) (B := own 98 2 (.slice A2 (i + 1) a2) (i + 1) (KL ((xs.take (i + 1)).map (least3 leaf))))); (case p => (with_reducible repeat constructor)); (case e => (rw [hkl])))
          ((with_reducible apply Tri.eqA (A := own 3 1 (.slice B2 (i + 1) b2) _ _) (B := own 3 1 (.slice B2 (i + 1) b2) (i + 1) (NL (unGo leaf v (xs.take (i + 1))).2.1))); (case p => (with_reducible repeat constructor)); (case e => (rw [hnl])))
          ((with_reducible apply Tri.eqA (A := blk pv _ _) (B := blk pv 194 (viewL d (unGo leaf v (xs.take (i + 1))).1))); (case p => (with_reducible repeat constructor)); (case e => (rw [hsn.1])))
          ((with_reducible apply Tri.eqA (A := DSK d _) (B := DSK d (unGo leaf v (xs.take (i + 1))).1.S)); (case p => (with_reducible repeat constructor)); (case e => (rw [hsn.1])))
          ((with_reducible apply Tri.eqA (A := blk b6 _ _) (B := blk b6 33 (ndLL false (.slice none 0 0) (.slice A2 (i + 1) a2) (.slice B2 (i + 1) b2)))); (case p => (with_reducible repeat constructor)); (case e => rfl))
          ((with_reducible apply Tri.seti 13 (((i + 1 : Nat) : Int))); (case h => rfl); (case hi => omega))
          (apply Tri.again (y := ⟨i + 1, A2, a2, B2, b2, hix', he'⟩); (case p => ((try dsimp only); (repeat (first | exact Pulls.nil | (apply Pulls.cons; (case a => (first | ((repeat (first | with_reducible exact Gv.Pull.head | with_reducible apply Gv.Pull.tail)); done) | (repeat (first | exact Gv.Pull.head | apply Gv.Pull.tail))))))))); (case hm => ((try dsimp only); omega)); (try dsimp only))
          (repeat (first | exact trivial | refine And.intro (by rfl) ?_))
        · (apply o_litSl (ys := [.int .i64 W.2.1]); (case hp => (repeat first | exact pev.nil | (apply pev.cons; case a => rfl))); (case hm => rfl); (case hf => rfl); (case hn => rfl); intro v9)
          (apply TriN.back; (case hp => exact ⟨_, rfl⟩); (case p => (repeat first | with_reducible constructor | constructor)))
          (apply TriN.a 5; (case ho => rfl); (case hg => rfl); (case hr => kernel_rfl); (try dsimp only [List.cons_append, List.nil_append]))
          (apply o_append (m2 := 1) (news := keyL (leastN leaf y.E y.K)); (case hx => rfl); (case hy => rfl); (case p => (with_reducible repeat constructor)); (case hr => exact rdw_own (v := v4) (by (with_reducible repeat constructor))); (case hl => rfl); (case h1 => exact keyL_one _); (case hb => omega); (case hn => rfl))
          intro v5
          (refine Tri.shape (e := 98) (size := 2) (v := v5) (by (with_reducible repeat constructor)) ?_; rintro ⟨A2, a2, rfl⟩)
          (apply TriN.back; (case hp => exact ⟨_, rfl⟩); (case p => (repeat first | with_reducible constructor | constructor)))
          ((apply TriN.p 11; (case ho => rfl); (case hg => rfl); (case hB => kernel_rfl); (case hd => rfl); (case hn => rfl); (case h => (intro F K hK; (try dsimp only [List.cons_append, List.nil_append]); apply o_fieldAddr; rfl; rfl; exact hK))))
          (apply TriN.a 10; (case ho => rfl); (case hg => rfl); (case hr => kernel_rfl); (try dsimp only [List.cons_append, List.nil_append]))
          (apply o_append (m2 := 1) (news := [.int .i64 W.2.1]); (case hx => rfl); (case hy => rfl); (case p => (with_reducible repeat constructor)); (case hr => exact rdw_own (v := v9) (by (with_reducible repeat constructor))); (case hl => rfl); (case h1 => exact one_int _); (case hb => omega); (case hn => rfl))
          intro v10
          (refine Tri.shape (e := 3) (size := 1) (v := v10) (by (with_reducible repeat constructor)) ?_; rintro ⟨B2, b2, rfl⟩)
          (apply TriN.back; (case hp => exact ⟨_, rfl⟩); (case p => (repeat first | with_reducible constructor | constructor)))
          (apply TriN.less; (case ho => rfl); (case hg => rfl); (case hr => kernel_rfl); (try dsimp only [List.cons_append, List.nil_append]))
          (apply o_store; (case hx => rfl); (case hy => rfl); (case h1 => rfl); (case p => (with_reducible repeat constructor)); (case hi => exact (by decide : 2 < 4)))
          (apply TriM.back; (case p => (repeat first | with_reducible constructor | constructor)))
          ((first | (apply TriM.q 13; rfl; rfl) | (apply TriM.qYes 13; rfl; rfl; rfl; with_reducible rfl)); kernel_rfl; rfl; rfl; (intro F K hK; apply o_fieldAddr; rfl; rfl; exact hK))
          (apply TriM.a 14; (case ho => rfl); (case hg => rfl); (case hr => kernel_rfl); (try dsimp only [List.cons_append, List.nil_append]))
          (apply o_store; (case hx => rfl); (case hy => rfl); (case h1 => rfl); (case p => (with_reducible repeat constructor)); (case hi => exact (by decide : 3 < 4)))
          (apply TriM.back; (case p => (repeat first | with_reducible constructor | constructor)))
          (apply TriM.nil; (case hr => kernel_rfl); (try dsimp only [List.cons_append, List.nil_append]))
          (refine Tri.blockN (Tri.thenN (Tri.region ?_)); apply Tri.op; rfl; apply o_add64; rfl; rfl; rfl; (omega); apply Tri.op; rfl; apply o_move; rfl; rfl; refine Tri.nil (Tri.thenN ?_))
          ((with_reducible apply Tri.eqA (A := own 98 2 (.slice A2 (i + 1) a2) _ _) (B := own 98 2 (.slice A2 (i + 1) a2) (i + 1) (KL ((xs.take (i + 1)).map (least3 leaf))))); (case p => (with_reducible repeat constructor)); (case e => (rw [hkl])))
          ((with_reducible apply Tri.eqA (A := own 3 1 (.slice B2 (i + 1) b2) _ _) (B := own 3 1 (.slice B2 (i + 1) b2) (i + 1) (NL (unGo leaf v (xs.take (i + 1))).2.1))); (case p => (with_reducible repeat constructor)); (case e => (rw [hnl])))
          ((with_reducible apply Tri.eqA (A := blk pv _ _) (B := blk pv 194 (viewL d (unGo leaf v (xs.take (i + 1))).1))); (case p => (with_reducible repeat constructor)); (case e => (rw [hsn.1])))
          ((with_reducible apply Tri.eqA (A := DSK d _) (B := DSK d (unGo leaf v (xs.take (i + 1))).1.S)); (case p => (with_reducible repeat constructor)); (case e => (rw [hsn.1])))
          ((with_reducible apply Tri.eqA (A := blk b6 _ _) (B := blk b6 33 (ndLL false (.slice none 0 0) (.slice A2 (i + 1) a2) (.slice B2 (i + 1) b2)))); (case p => (with_reducible repeat constructor)); (case e => rfl))
          ((with_reducible apply Tri.seti 13 (((i + 1 : Nat) : Int))); (case h => rfl); (case hi => omega))
          (apply Tri.again (y := ⟨i + 1, A2, a2, B2, b2, hix', he'⟩); (case p => ((try dsimp only); (repeat (first | exact Pulls.nil | (apply Pulls.cons; (case a => (first | ((repeat (first | with_reducible exact Gv.Pull.head | with_reducible apply Gv.Pull.tail)); done) | (repeat (first | exact Gv.Pull.head | apply Gv.Pull.tail))))))))); (case hm => ((try dsimp only); omega)); (try dsimp only))
          (repeat (first | exact trivial | refine And.intro (by rfl) ?_))
      · (apply o_litSl (ys := [.int .i64 W.2.1]); (case hp => (repeat first | exact pev.nil | (apply pev.cons; case a => rfl))); (case hm => rfl); (case hf => rfl); (case hn => rfl); intro v9)
        (apply TriN.back; (case hp => exact ⟨_, rfl⟩); (case p => (repeat first | with_reducible constructor | constructor)))
        (apply TriN.a 4; (case ho => rfl); (case hg => rfl); (case hr => kernel_rfl); (try dsimp only [List.cons_append, List.nil_append]))
        (apply o_litSl (ys := keyL (leastN leaf y.E y.K)); (case hp => (repeat first | exact pev.nil | (apply pev.cons; case a => rfl))); (case hm => rfl); (case hf => rfl); (case hn => rfl); intro v4)
        (apply TriN.back; (case hp => exact ⟨_, rfl⟩); (case p => (repeat first | with_reducible constructor | constructor)))
        (apply TriN.a 5; (case ho => rfl); (case hg => rfl); (case hr => kernel_rfl); (try dsimp only [List.cons_append, List.nil_append]))
        (apply o_append (m2 := 1) (news := keyL (leastN leaf y.E y.K)); (case hx => rfl); (case hy => rfl); (case p => (with_reducible repeat constructor)); (case hr => exact rdw_own (v := v4) (by (with_reducible repeat constructor))); (case hl => rfl); (case h1 => exact keyL_one _); (case hb => omega); (case hn => rfl))
        intro v5
        (refine Tri.shape (e := 98) (size := 2) (v := v5) (by (with_reducible repeat constructor)) ?_; rintro ⟨A2, a2, rfl⟩)
        (apply TriN.back; (case hp => exact ⟨_, rfl⟩); (case p => (repeat first | with_reducible constructor | constructor)))
        ((apply TriN.p 11; (case ho => rfl); (case hg => rfl); (case hB => kernel_rfl); (case hd => rfl); (case hn => rfl); (case h => (intro F K hK; (try dsimp only [List.cons_append, List.nil_append]); apply o_fieldAddr; rfl; rfl; exact hK))))
        (apply TriN.a 10; (case ho => rfl); (case hg => rfl); (case hr => kernel_rfl); (try dsimp only [List.cons_append, List.nil_append]))
        (apply o_append (m2 := 1) (news := [.int .i64 W.2.1]); (case hx => rfl); (case hy => rfl); (case p => (with_reducible repeat constructor)); (case hr => exact rdw_own (v := v9) (by (with_reducible repeat constructor))); (case hl => rfl); (case h1 => exact one_int _); (case hb => omega); (case hn => rfl))
        intro v10
        (refine Tri.shape (e := 3) (size := 1) (v := v10) (by (with_reducible repeat constructor)) ?_; rintro ⟨B2, b2, rfl⟩)
        (apply TriN.back; (case hp => exact ⟨_, rfl⟩); (case p => (repeat first | with_reducible constructor | constructor)))
        (apply TriN.less; (case ho => rfl); (case hg => rfl); (case hr => kernel_rfl); (try dsimp only [List.cons_append, List.nil_append]))
        (apply o_store; (case hx => rfl); (case hy => rfl); (case h1 => rfl); (case p => (with_reducible repeat constructor)); (case hi => exact (by decide : 2 < 4)))
        (apply TriM.back; (case p => (repeat first | with_reducible constructor | constructor)))
        ((first | (apply TriM.q 13; rfl; rfl) | (apply TriM.qYes 13; rfl; rfl; rfl; with_reducible rfl)); kernel_rfl; rfl; rfl; (intro F K hK; apply o_fieldAddr; rfl; rfl; exact hK))
        (apply TriM.a 14; (case ho => rfl); (case hg => rfl); (case hr => kernel_rfl); (try dsimp only [List.cons_append, List.nil_append]))
        (apply o_store; (case hx => rfl); (case hy => rfl); (case h1 => rfl); (case p => (with_reducible repeat constructor)); (case hi => exact (by decide : 3 < 4)))
        (apply TriM.back; (case p => (repeat first | with_reducible constructor | constructor)))
        (apply TriM.nil; (case hr => kernel_rfl); (try dsimp only [List.cons_append, List.nil_append]))
        (refine Tri.blockN (Tri.thenN (Tri.region ?_)); apply Tri.op; rfl; apply o_add64; rfl; rfl; rfl; (omega); apply Tri.op; rfl; apply o_move; rfl; rfl; refine Tri.nil (Tri.thenN ?_))
        ((with_reducible apply Tri.eqA (A := own 98 2 (.slice A2 (i + 1) a2) _ _) (B := own 98 2 (.slice A2 (i + 1) a2) (i + 1) (KL ((xs.take (i + 1)).map (least3 leaf))))); (case p => (with_reducible repeat constructor)); (case e => (rw [hkl])))
        ((with_reducible apply Tri.eqA (A := own 3 1 (.slice B2 (i + 1) b2) _ _) (B := own 3 1 (.slice B2 (i + 1) b2) (i + 1) (NL (unGo leaf v (xs.take (i + 1))).2.1))); (case p => (with_reducible repeat constructor)); (case e => (rw [hnl])))
        ((with_reducible apply Tri.eqA (A := blk pv _ _) (B := blk pv 194 (viewL d (unGo leaf v (xs.take (i + 1))).1))); (case p => (with_reducible repeat constructor)); (case e => (rw [hsn.1])))
        ((with_reducible apply Tri.eqA (A := DSK d _) (B := DSK d (unGo leaf v (xs.take (i + 1))).1.S)); (case p => (with_reducible repeat constructor)); (case e => (rw [hsn.1])))
        ((with_reducible apply Tri.eqA (A := blk b6 _ _) (B := blk b6 33 (ndLL false (.slice none 0 0) (.slice A2 (i + 1) a2) (.slice B2 (i + 1) b2)))); (case p => (with_reducible repeat constructor)); (case e => rfl))
        ((with_reducible apply Tri.seti 13 (((i + 1 : Nat) : Int))); (case h => rfl); (case hi => omega))
        (apply Tri.again (y := ⟨i + 1, A2, a2, B2, b2, hix', he'⟩); (case p => ((try dsimp only); (repeat (first | exact Pulls.nil | (apply Pulls.cons; (case a => (first | ((repeat (first | with_reducible exact Gv.Pull.head | with_reducible apply Gv.Pull.tail)); done) | (repeat (first | exact Gv.Pull.head | apply Gv.Pull.tail))))))))); (case hm => ((try dsimp only); omega)); (try dsimp only))
        (repeat (first | exact trivial | refine And.intro (by rfl) ?_))
    · (apply Tri.op; rfl; apply o_move; rfl; rfl; apply Tri.op; rfl; apply o_extract; rfl; rfl; rfl; apply Tri.op; rfl; apply o_extract; rfl; rfl; rfl; apply Tri.op; rfl; apply o_assign; rfl; rfl; apply Tri.op; rfl; apply o_assign; rfl; rfl; refine Tri.nil (Tri.thenN (Tri.seq (Tri.seq (Tri.region ?_)))); apply Tri.op; rfl; apply o_move; rfl; rfl; apply Tri.op; rfl; apply o_neq; rfl; rfl; rfl; refine Tri.nil (Tri.thenN ?_))
      ((with_reducible apply Tri.setb 24 (true)); (case h => rfl); (case hi => (rw [decide_eq_true]; omega)))
      (apply Tri.condT; rfl; rfl; refine Tri.seq (Tri.region ?_); apply Tri.op; rfl; apply o_build0; rfl; apply Tri.op; rfl; apply o_move; rfl; rfl; apply Tri.op; rfl)
      have hst := unGo_stop leaf (xs.take (i + 1)) v (xs.drop (i + 1)) (by rw [hsn.2.1]; exact hz)
      rw [List.take_append_drop] at hst
      have hun : unN leaf v xs = (W.1, ⟨[], [], []⟩, W.2.2) := by
        rw [unN, hst, hsn.2.1, if_neg hz, hsn.1]
      rw [hun]
      (apply o_storeAll (ys := ndLL false (.slice none 0 0) (.slice none 0 0) (.slice none 0 0)); (case hx => rfl); (case hy => rfl); (case p => (with_reducible repeat constructor)); (case hl => rfl); (case hc => rfl); (case h1 => exact ndLL_one false none none none 0 0 0 0 0 0))
      (apply Tri.op; rfl; apply o_assign; rfl; rfl; refine Tri.nil (Tri.thenN (Tri.ret (Tri.thenR (Tri.blockR (Tri.thenR (Tri.thenR (Tri.blockR (Tri.thenR ?_)))))))))
      (with_reducible apply Tri.ownNil 98 2)
      (with_reducible apply Tri.ownNil 3 1)
      (apply Tri.fin; (case hr => rfl); (case h => exact ResL.cons ((Res1.agg rfl (by (with_reducible repeat constructor)) (by rw [List.drop_zero]; exact List.take_of_length_le (Nat.le_of_eq (rfl : (ndLL false (.slice none 0 0) (.slice none 0 0) (.slice none 0 0)).length = 4))) (rfl : (ndLL false (.slice none 0 0) (.slice none 0 0) (.slice none 0 0)).length = 4))) (ResL.cons (Res1.tmp rfl) (ResL.nil))); (apply fin_R (Hn := [blk pv 194 (viewL d W.1), DSK d W.1.S, own 33 4 (.slice AR VV.length cr) VV.length (NDL leaf VV), manyRd (RDS VV xs), own 98 2 (.slice none 0 0) 0 [], own 3 1 (.slice none 0 0) 0 []])); (case p => exact (by (repeat first | with_reducible constructor | constructor))); exact ⟨none, 0, none, 0, rfl, rfl⟩)
  · have hil : i = xs.length := by omega
    subst hil
    rw [List.take_length] at he ⊢
    have hct := unGo_cnt leaf xs v he
    have hun : unN leaf v xs = ((unGo leaf v xs).1, ⟨[], xs.map (least3 leaf), (unGo leaf v xs).2.1⟩, 0) := by rw [unN, if_pos he, he]
    rw [hun]
    ((with_reducible refine Tri.exit (Tri.thenE (Tri.thenE (Tri.blockE (Tri.thenN (Tri.seq (Tri.region ?_))))))); apply Tri.op; rfl)
    (apply o_loadAll (cs := ndLL false (.slice none 0 0) (.slice A xs.length a) (.slice B xs.length b)); (case hx => rfl); (case p => exact (by (with_reducible repeat constructor))); (case hl => rfl); (case hn => rfl))
    (apply Tri.op; rfl)
    (apply o_storeAll (ys := ndLL false (.slice none 0 0) (.slice A xs.length a) (.slice B xs.length b)); (case hx => rfl); (case hy => rfl); (case p => (with_reducible repeat constructor)); (case hl => rfl); (case hc => rfl); (case h1 => exact ndLL_one false none A B 0 0 _ a _ b))
    (apply Tri.op; rfl; apply o_assign; rfl; rfl; refine Tri.nil (Tri.thenN (Tri.ret ?_)))
    have hkl : (xs.map (least3 leaf)).length = xs.length := List.length_map _
    (apply Tri.fin; (case hr => rfl); (case h => exact ResL.cons ((Res1.agg rfl (by (with_reducible repeat constructor)) (by rw [List.drop_zero]; exact List.take_of_length_le (Nat.le_of_eq (rfl : (ndLL false (.slice none 0 0) (.slice A xs.length a) (.slice B xs.length b)).length = 4))) (rfl : (ndLL false (.slice none 0 0) (.slice A xs.length a) (.slice B xs.length b)).length = 4))) (ResL.cons (Res1.tmp rfl) (ResL.nil))); (apply fin_R (Hn := [blk pv 194 (viewL d (unGo leaf v xs).1), DSK d (unGo leaf v xs).1.S, own 33 4 (.slice AR VV.length cr) VV.length (NDL leaf VV), manyRd (RDS VV xs), own 98 2 (.slice A xs.length a) xs.length (KL (xs.map (least3 leaf))), own 3 1 (.slice B xs.length b) xs.length (NL (unGo leaf v xs).2.1)])); (case p => exact (by (repeat first | with_reducible constructor | constructor))); exact ⟨A, a, B, b, by show _ = Value.tuple #[ndW false (.slice none 0 0) (.slice A (xs.map (least3 leaf)).length a) (.slice B (unGo leaf v xs).2.1.length b), _]; rw [hkl, hct]; rfl, by show _ = [_, _, _, _, own 98 2 (.slice A (xs.map (least3 leaf)).length a) (xs.map (least3 leaf)).length (KL (xs.map (least3 leaf))), own 3 1 (.slice B (unGo leaf v xs).2.1.length b) (unGo leaf v xs).2.1.length (NL (unGo leaf v xs).2.1)]; rw [hkl, hct]⟩)
end Go.Proofs.Ytckdlfbbkemklaa
end
section
/- tree: a view's stacked: the walk. -/
namespace Go.Proofs.Ytckdlfbbkemklaa
open Go Go.RowKit Go.Gv
set_option linter.unusedVariables false
set_option linter.unusedSimpArgs false

def shp (VV : List (Value × Value × Value)) : Prop := ∀ v ∈ VV, ∃ A a B b C c i j k, v = (Value.slice A i a, Value.slice B j b, Value.slice C k c)
/-- a level that is to be stacked -/
structure SK (R0 : VS × (Int × Nat) × Nat) where
  f : Nat
  leaf : Bool
  v : VS
  xs : List ND3
  h : Nat
  AR : Option Addr
  cr : Nat
  VV : List (Value × Value × Value)
  hR0 : stN f leaf v xs h = R0
  hf : xs.length ≤ f + 1
  h1 : 1 ≤ xs.length
  hv : v.ok
  hl : v.S.W.length + 16 * xs.length ≤ 800000
  hh : h + xs.length ≤ 60000
  hxl : VV.length = xs.length
  hW : shp VV
  hR : ∀ x ∈ xs, ∀ e ∈ x.E, entR e
theorem two_int (a b : Int) : ∀ y ∈ [Value.int .i64 a, Value.int .i64 b], y.oneCell' = true := fun y hy => by simp at hy; rcases hy with rfl | rfl <;> rfl
set_option maxHeartbeats 16000000 in
theorem view_stacked (pv d : Nat) (v : VS) (AR : Option Addr) (cr : Nat) (VV : List (Value × Value × Value)) (xs : List ND3) (hv : v.ok) (hxl : VV.length = xs.length) (hn : xs.length ≤ 40000) (hl : v.S.W.length + 16 * xs.length ≤ 800000)
    (hW : shp VV) (hR : ∀ x ∈ xs, ∀ e ∈ x.E, entR e) :
    Gv.Spec Try.prog 101 #[.pointer (some ⟨pv, 0, none⟩), .slice AR VV.length cr] [blk pv 194 (viewL d v), DSK d v.S, own 33 4 (.slice AR VV.length cr) VV.length (NDL true VV), manyRd (RDS VV xs)]
    (fun r H' => r = .tuple #[.agg #[.int .i64 (stackN v xs).2.1.1, .int .i64 ((stackN v xs).2.1.2 : Int)], .int .i64 ((stackN v xs).2.2 : Int)]
      ∧ H' = [blk pv 194 (viewL d (stackN v xs).1), DSK d (stackN v xs).1.S]) := by
  refine Gv.Spec.of (fun w h0 hw => ?_)
  refine Calls.enter Try.func101 rfl rfl rfl hw ?_
  simp only [argSlots]
  (try dsimp only [List.cons_append, List.nil_append])
  (refine Tri.seq (Tri.region ?_); apply Tri.op; rfl)
  (apply o_alloc; (case hn => rfl); intro b4)
  (apply Tri.op; rfl; apply o_assign; rfl; rfl; refine Tri.nil (Tri.thenN (Tri.seq (Tri.seq (Tri.region ?_)))); apply Tri.op; rfl; apply o_move; rfl; rfl; apply Tri.op; rfl; apply o_len; rfl; rfl; apply Tri.op; rfl; apply o_eql; rfl; rfl; rfl; refine Tri.nil (Tri.thenN ?_))
  by_cases hx0 : xs.length = 0
  · have hR0 : stackN v xs = (v, (0, 0), 0) := by rw [stackN, if_pos hx0]
    rw [hR0]
    ((with_reducible apply Tri.setb 15 (true)); (case h => rfl); (case hi => (rw [decide_eq_true]; omega)))
    (apply Tri.condT; rfl; rfl; refine Tri.seq (Tri.region ?_); apply Tri.op; rfl; apply o_build0; rfl; apply Tri.op; rfl)
    (apply o_storeAll (ys := [.int .i64 0, .int .i64 0]); (case hx => rfl); (case hy => rfl); (case p => (with_reducible repeat constructor)); (case hl => rfl); (case hc => rfl); (case h1 => exact two_int _ _))
    (apply Tri.op; rfl; apply o_assign; rfl; rfl; refine Tri.nil (Tri.thenN (Tri.ret (Tri.thenR ?_))))
    (apply Tri.fin; (case hr => rfl); (case h => exact ResL.cons ((Res1.agg rfl (by (with_reducible repeat constructor)) (by rw [List.drop_zero]; exact List.take_of_length_le (Nat.le_of_eq (rfl : [Value.int .i64 0, Value.int .i64 0].length = 2))) (rfl : [Value.int .i64 0, Value.int .i64 0].length = 2))) (ResL.cons (Res1.tmp rfl) (ResL.nil))); (apply fin_R (Hn := [blk pv 194 (viewL d v), DSK d v.S])); (case p => exact (by (repeat first | with_reducible constructor | constructor))); exact ⟨rfl, rfl⟩)
  · ((with_reducible apply Tri.setb 15 (false)); (case h => rfl); (case hi => exact decide_eq_false (by omega)))
    (apply Tri.condF; rfl; rfl; refine Tri.skip (Tri.thenN ?_))
    obtain ⟨R0, hR0⟩ : ∃ R, R = stackN v xs := ⟨_, rfl⟩
    have hst : stN xs.length true v xs 1 = R0 := by rw [hR0, stackN, if_neg hx0]
    rw [← hR0]
    (refine Tri.seq (Tri.region ?_); apply Tri.op; rfl; apply o_assign; rfl; rfl; refine Tri.nil (Tri.thenN (Tri.seq (Tri.block ?_))))
    have s1 : xs.length ≤ xs.length + 1 := Nat.le_succ _
    have s2 : 1 ≤ xs.length := by omega
    have s3 : 1 + xs.length ≤ 60000 := by omega
    (apply Tri.loop (α := SK R0) (m := fun x => x.xs.length) (Lx := fun x => [(0, .pointer (some ⟨pv, 0, none⟩)), (1, .slice x.AR x.VV.length x.cr), (4, .pointer (some ⟨b4, 0, none⟩)), (6, .int .i64 (x.h : Int))]) (Hx := fun x => [blk b4 48 [.int .i64 0, .int .i64 0], blk pv 194 (viewL d x.v), DSK d x.v.S, own 33 4 (.slice x.AR x.VV.length x.cr) x.VV.length (NDL x.leaf x.VV), manyRd (RDS x.VV x.xs), Ex h0]) (x0 := ⟨xs.length, true, v, xs, 1, AR, cr, VV, hst, s1, s2, hv, hl, s3, hxl, hW, hR⟩); (case hL => ((try dsimp only); (repeat (first | exact trivial | refine And.intro (by rfl) ?_)))); (case hH => ((try dsimp only); apply St.all; (repeat first | with_reducible constructor | constructor)))); (rintro ⟨f, leaf, v, xs, h, AR, cr, VV, hR0', hf, h1, hv, hl, hh, hxl, hW, hR⟩ mx hmx; (try dsimp only at hmx ⊢))
    (refine Tri.seq (Tri.seq (Tri.region ?_)); apply Tri.op; rfl; apply o_move; rfl; rfl; apply Tri.op; rfl; apply o_len; rfl; rfl; apply Tri.op; rfl; apply o_gtr; rfl; rfl; rfl; refine Tri.nil (Tri.thenN ?_))
    (apply Tri.condD; (case hc => rfl); (all_goals intro hc))
    · have hx2 : 2 ≤ xs.length := by omega
      obtain ⟨f', rfl⟩ : ∃ f', f = f' + 1 := ⟨f - 1, by omega⟩
      rw [stN, if_neg (by omega)] at hR0'
      have huc := unN_cnt (leaf := leaf) (v := v) (xs := xs)
      have hok := unGo_ok leaf xs hv
      have hln := unGo_len leaf xs v
      have hu1 : (unN leaf v xs).1 = (unGo leaf v xs).1 := rfl
      rw [← hu1] at hok hln
      have hun := view_under pv d v leaf AR cr VV xs hv hxl (by omega) (by omega) hW hR
      obtain ⟨U, hU⟩ : ∃ U, U = unN leaf v xs := ⟨_, rfl⟩
      rw [← hU] at hR0' huc hok hln hun
      (refine Tri.skip (Tri.thenN (Tri.seq (Tri.block (Tri.seq (Tri.region ?_))))); apply Tri.op; rfl; apply o_move; rfl; rfl; apply Tri.op; rfl; apply o_move; rfl; rfl; apply Tri.op; rfl)
      (apply o_callS (hs := hun); (case hargs => (repeat first | exact evs.nil | (apply evs.cons; case a => rfl))); (case p => (repeat first | with_reducible constructor | constructor)); (case hn => rfl))
      rintro r1 H1 ⟨A, a, B, b, rfl, rfl⟩
      (try dsimp only [List.cons_append, List.nil_append])
      (apply Tri.op; rfl; apply o_move; rfl; rfl; apply Tri.op; rfl; apply o_extract; rfl; rfl; rfl; apply Tri.op; rfl; apply o_extract; rfl; rfl; rfl; apply Tri.op; rfl)
      (apply o_alloc; (case hn => rfl); intro b7)
      (apply Tri.op; rfl)
      (apply o_storeAll (ys := ndLL false (.slice none 0 0) (.slice A U.2.1.K.length a) (.slice B U.2.1.D.length b)); (case hx => rfl); (case hy => rfl); (case p => (with_reducible repeat constructor)); (case hl => rfl); (case hc => rfl); (case h1 => exact ndLL_one false none A B 0 0 _ a _ b))
      (apply Tri.op; rfl; apply o_assign; rfl; rfl; refine Tri.nil (Tri.thenN (Tri.seq (Tri.seq (Tri.region ?_)))); apply Tri.op; rfl; apply o_move; rfl; rfl; apply Tri.op; rfl; apply o_neq; rfl; rfl; rfl; refine Tri.nil (Tri.thenN ?_))
      by_cases hz : U.2.2 = 0
      · ((with_reducible apply Tri.setb 29 (false)); (case h => rfl); (case hi => (rw [hz]; rfl)))
        rw [if_neg (by omega)] at hR0'
        obtain ⟨hUE, hUK, hUD⟩ := huc hz
        obtain ⟨X, hX⟩ : ∃ X, X = U.2.1 := ⟨_, rfl⟩
        rw [← hX] at hR0' hUE hUK hUD ⊢
        have hcl := chunkN_length X
        obtain ⟨m, hm⟩ : ∃ m, m = xs.length := ⟨_, rfl⟩
        rw [← hm] at hUK hUD
        rw [hUD] at hcl
        (apply Tri.condF; rfl; rfl; refine Tri.skip (Tri.thenN (Tri.seq (Tri.region ?_))); apply Tri.op; rfl; apply o_assign; rfl; rfl; refine Tri.nil (Tri.thenN (Tri.seq (Tri.region ?_))); apply Tri.op; rfl; apply o_assign; rfl; rfl; refine Tri.nil (Tri.thenN (Tri.block ?_)))
        (with_reducible apply Tri.ownNil 33 4)
        apply Tri.noneM
        ((with_reducible apply Tri.eqA (A := own 33 4 (.slice none 0 0) 0 []) (B := own 33 4 (.slice none ([] : List (Value × Value × Value)).length 0) ([] : List (Value × Value × Value)).length (NDL false []))); (case p => (with_reducible repeat constructor)); (case e => rfl))
        ((with_reducible apply Tri.eqA (A := manyRd []) (B := manyRd (RDS [] ((chunkN X).take 0)))); (case p => (with_reducible repeat constructor)); (case e => rfl))
        rw [hUK, hUD]
        have hs0 : shp [] := fun v hv => by cases hv
        have hz0 : ([] : List (Value × Value × Value)).length = 0 := rfl
        (apply Tri.loop (α := Σ' (j : Nat) (_ : Option Addr) (_ : Nat) (V3 : List (Value × Value × Value)), j ≤ (m + 15) / 16 ∧ V3.length = j ∧ shp V3) (m := fun x => (m + 15) / 16 - x.1) (Lx := fun x => [(0, .pointer (some ⟨pv, 0, none⟩)), (1, .slice x.2.1 x.2.2.2.1.length x.2.2.1), (4, .pointer (some ⟨b4, 0, none⟩)), (6, .int .i64 (h : Int)), (7, .pointer (some ⟨b7, 0, none⟩)), (9, .int .i64 ((x.1 * 16 : Nat) : Int))]) (Hx := fun x => [blk b4 48 [.int .i64 0, .int .i64 0], blk pv 194 (viewL d U.1), DSK d U.1.S, blk b7 33 (ndLL false (.slice none 0 0) (.slice A m a) (.slice B m b)), own 98 2 (.slice A m a) m (KL X.K), own 3 1 (.slice B m b) m (NL X.D), own 33 4 (.slice x.2.1 x.2.2.2.1.length x.2.2.1) x.2.2.2.1.length (NDL false x.2.2.2.1), manyRd (RDS x.2.2.2.1 ((chunkN X).take x.1)), Ex h0]) (x0 := ⟨0, none, 0, [], Nat.zero_le _, hz0, hs0⟩); (case hL => ((try dsimp only); (repeat (first | exact trivial | refine And.intro (by rfl) ?_)))); (case hH => ((try dsimp only); apply St.all; (repeat first | with_reducible constructor | constructor)))); (rintro ⟨j, A3, c3, V3, hj, hV3, hW3⟩ mx hmx; (try dsimp only at hmx ⊢))
        (refine Tri.seq (Tri.seq (Tri.region ?_)); apply Tri.op; rfl; apply o_move; rfl; rfl; apply Tri.op; rfl; apply o_fieldAddr; rfl; rfl; apply Tri.op; rfl; apply o_load; rfl; (with_reducible repeat constructor); rfl; rfl; apply Tri.op; rfl; apply o_len; rfl; rfl; apply Tri.op; rfl; apply o_lss; rfl; rfl; rfl; refine Tri.nil (Tri.thenN ?_))
        (apply Tri.condD; (case hc => rfl); (all_goals intro hj2))
        · have hjc : j < (m + 15) / 16 := by omega
          have hm1 : m ≤ 60000 := by omega
          obtain ⟨hi, hhi⟩ : ∃ hi, hi = min (j * 16 + 16) m := ⟨_, rfl⟩
          obtain ⟨lo, hlo⟩ : ∃ lo, lo = j * 16 := ⟨_, rfl⟩
          have b1' : lo ≤ hi := by omega
          have b2' : hi ≤ m := by omega
          have hk1 : (cutL X.K lo hi).length = hi - lo := cutL_len X.K lo hi (by omega)
          have hd1 : (cutL X.D lo hi).length = hi - lo := cutL_len X.D lo hi (by omega)
          have hxk : (KL (cutL X.K lo hi)).length = (hi - lo) * 2 := KL_lens _ hk1
          have hxd : (NL (cutL X.D lo hi)).length = (hi - lo) * 1 := NL_lens _ hd1
          have hch : chN X j = ⟨[], cutL X.K lo hi, cutL X.D lo hi⟩ := by rw [chN, hUD, ← hhi, ← hlo]
          (refine Tri.skip (Tri.thenN (Tri.seq (Tri.block (Tri.seq (Tri.region ?_))))); apply Tri.op; rfl; apply o_move; rfl; rfl; apply Tri.op; rfl; apply o_add64; rfl; rfl; rfl; (omega); apply Tri.op; rfl; apply o_fieldAddr; rfl; rfl; apply Tri.op; rfl; apply o_load; rfl; (with_reducible repeat constructor); rfl; rfl; apply Tri.op; rfl; apply o_len; rfl; rfl; apply Tri.op; rfl; apply o_min; rfl; rfl; rfl; apply Tri.op; rfl; apply o_assign; rfl; rfl; refine Tri.nil (Tri.thenN ?_))
          ((with_reducible apply Tri.seti 10 ((hi : Int))); (case h => rfl); (case hi => omega))
          ((with_reducible apply Tri.seti 9 ((lo : Int))); (case h => rfl); (case hi => omega))
          skip
          ((first | with_reducible apply Tri.mix [blk b7 33 (ndLL false (.slice none 0 0) (.slice A m a) (.slice B m b)), own 98 2 (.slice A m a) m (KL X.K), own 3 1 (.slice B m b) m (NL X.D)] | (apply TriR.mix [blk b7 33 (ndLL false (.slice none 0 0) (.slice A m a) (.slice B m b)), own 98 2 (.slice A m a) m (KL X.K), own 3 1 (.slice B m b) m (NL X.D)]; (case hnd => rfl))); (case p => (repeat first | with_reducible constructor | constructor)); (dsimp only [List.length]))
          ((first | (apply TriM.q 0; rfl; rfl) | (apply TriM.qYes 0; rfl; rfl; rfl; with_reducible rfl)); kernel_rfl; rfl; rfl; (intro F K hK; apply o_move; rfl; rfl; exact hK); (first | (apply TriM.q 1; rfl; rfl) | (apply TriM.qYes 1; rfl; rfl; rfl; with_reducible rfl)); kernel_rfl; rfl; rfl; (intro F K hK; apply o_fieldAddr; rfl; rfl; exact hK); (first | (apply TriM.q 2; rfl; rfl) | (apply TriM.qYes 2; rfl; rfl; rfl; with_reducible rfl)); kernel_rfl; rfl; rfl; (intro F K hK; (try dsimp only [List.cons_append, List.nil_append]); apply o_load; rfl; (with_reducible repeat constructor); rfl; rfl; exact hK); (first | (apply TriM.q 3; rfl; rfl) | (apply TriM.qYes 3; rfl; rfl; rfl; with_reducible rfl)); kernel_rfl; rfl; rfl; (intro F K hK; apply o_move; rfl; rfl; exact hK); (first | (apply TriM.q 4; rfl; rfl) | (apply TriM.qYes 4; rfl; rfl; rfl; with_reducible rfl)); kernel_rfl; rfl; rfl; (intro F K hK; apply o_move; rfl; rfl; exact hK))
          ((first | (apply TriM.q 5; (case ho => rfl); (case hg => rfl)) | (apply TriM.qYes 5; (case ho => rfl); (case hg => rfl); (case hyl => rfl); (case hb => with_reducible rfl))); (case hB => kernel_rfl); (case hd => rfl); (case hn => rfl); (case h => (intro F K hK; (try dsimp only [List.cons_append, List.nil_append]); (apply o_slice (lo := lo) (hi := hi) (m := m) (xs := KL X.K); (case hx => rfl); (case hr => exact rdw_own (v := .slice A m a) (by (with_reducible repeat constructor))); (case hol => first | exact fun _ _ => rfl | exact fun a ha => congrArg some (ha.eval rfl)); (case hoh => first | exact fun _ _ => rfl | exact fun a ha => congrArg some (ha.eval rfl)); (case hlo => first | exact .inr ⟨rfl, rfl⟩ | exact .inl ⟨_, rfl⟩ | exact .inl ⟨_, (by congr 2; omega)⟩); (case hhi => first | exact .inr ⟨rfl, rfl⟩ | exact .inl ⟨_, rfl⟩ | exact .inl ⟨_, (by congr 2; omega)⟩); (case hlh => omega); (case hhm => omega); (case hn => rfl)); exact hK)))
          ((first | (apply TriM.q 7; rfl; rfl) | (apply TriM.qYes 7; rfl; rfl; rfl; with_reducible rfl)); kernel_rfl; rfl; rfl; (intro F K hK; apply o_fieldAddr; rfl; rfl; exact hK); (first | (apply TriM.q 8; rfl; rfl) | (apply TriM.qYes 8; rfl; rfl; rfl; with_reducible rfl)); kernel_rfl; rfl; rfl; (intro F K hK; (try dsimp only [List.cons_append, List.nil_append]); apply o_load; rfl; (with_reducible repeat constructor); rfl; rfl; exact hK); (first | (apply TriM.q 9; rfl; rfl) | (apply TriM.qYes 9; rfl; rfl; rfl; with_reducible rfl)); kernel_rfl; rfl; rfl; (intro F K hK; apply o_move; rfl; rfl; exact hK); (first | (apply TriM.q 10; rfl; rfl) | (apply TriM.qYes 10; rfl; rfl; rfl; with_reducible rfl)); kernel_rfl; rfl; rfl; (intro F K hK; apply o_move; rfl; rfl; exact hK))
          ((first | (apply TriM.q 11; (case ho => rfl); (case hg => rfl)) | (apply TriM.qYes 11; (case ho => rfl); (case hg => rfl); (case hyl => rfl); (case hb => with_reducible rfl))); (case hB => kernel_rfl); (case hd => rfl); (case hn => rfl); (case h => (intro F K hK; (try dsimp only [List.cons_append, List.nil_append]); (apply o_slice (lo := lo) (hi := hi) (m := m) (xs := NL X.D); (case hx => rfl); (case hr => exact rdw_own (v := .slice B m b) (by (with_reducible repeat constructor))); (case hol => first | exact fun _ _ => rfl | exact fun a ha => congrArg some (ha.eval rfl)); (case hoh => first | exact fun _ _ => rfl | exact fun a ha => congrArg some (ha.eval rfl)); (case hlo => first | exact .inr ⟨rfl, rfl⟩ | exact .inl ⟨_, rfl⟩ | exact .inl ⟨_, (by congr 2; omega)⟩); (case hhi => first | exact .inr ⟨rfl, rfl⟩ | exact .inl ⟨_, rfl⟩ | exact .inl ⟨_, (by congr 2; omega)⟩); (case hlh => omega); (case hhm => omega); (case hn => rfl)); exact hK)))
          (apply TriM.a 6; (case ho => rfl); (case hg => rfl); (case hr => kernel_rfl); (try dsimp only [List.cons_append, List.nil_append]))
          (apply o_callR (hs := slices_CloneKey (subv (.slice A m a) 2 lo hi) (hi - lo) (KL (cutL X.K lo hi)) hxk (KL_ones _) (by omega)); (case hargs => (repeat first | exact evs.nil | (apply evs.cons; case a => rfl))); (case hpre => exact fun w' hw' => cutK (rdw_own (v := .slice A m a) (by (with_reducible repeat constructor)) w' hw') lo hi b1' b2'); (case hn => rfl))
          rintro u1 H1 rfl
          (try dsimp only [List.cons_append, List.nil_append])
          (refine Tri.shape (e := 98) (size := 2) (v := u1) (by (with_reducible repeat constructor)) ?_; rintro ⟨A4, c4, rfl⟩)
          (apply TriM.back; (case p => (repeat first | with_reducible constructor | constructor)))
          (apply TriM.a 12; (case ho => rfl); (case hg => rfl); (case hr => kernel_rfl); (try dsimp only [List.cons_append, List.nil_append]))
          (apply o_callR (hs := slices_Cloneint (subv (.slice B m b) 1 lo hi) (hi - lo) (NL (cutL X.D lo hi)) hxd (NL_one5 _) (by omega)); (case hargs => (repeat first | exact evs.nil | (apply evs.cons; case a => rfl))); (case hpre => exact fun w' hw' => cutD (rdw_own (v := .slice B m b) (by (with_reducible repeat constructor)) w' hw') lo hi b1' b2'); (case hn => rfl))
          rintro u2 H2 rfl
          (try dsimp only [List.cons_append, List.nil_append])
          (refine Tri.shape (e := 3) (size := 1) (v := u2) (by (with_reducible repeat constructor)) ?_; rintro ⟨A5, c5, rfl⟩)
          (apply TriM.back; (case p => (repeat first | with_reducible constructor | constructor)))
          ((first | (apply TriM.q 13; (case ho => rfl); (case hg => rfl)) | (apply TriM.qYes 13; (case ho => rfl); (case hg => rfl); (case hyl => rfl); (case hb => with_reducible rfl))); (case hB => kernel_rfl); (case hd => rfl); (case hn => rfl); (case h => (intro F K hK; (try dsimp only [List.cons_append, List.nil_append]); (apply o_build (ys := ndLL false (.slice none 0 0) (.slice A4 (hi - lo) c4) (.slice A5 (hi - lo) c5)); (case hp => (repeat first | exact pev.nil | (apply pev.cons; case a => rfl))); (case hf => rfl); (case hn => rfl)); exact hK)))
          (apply TriM.a 14; (case ho => rfl); (case hg => rfl); (case hr => kernel_rfl); (try dsimp only [List.cons_append, List.nil_append]))
          (apply o_litSl (ys := ndLL false (.slice none 0 0) (.slice A4 (hi - lo) c4) (.slice A5 (hi - lo) c5)); (case hp => (repeat first | exact pev.nil | (apply pev.cons; case a => rfl))); (case hm => rfl); (case hf => rfl); (case hn => rfl); intro vl)
          (apply TriM.back; (case p => (repeat first | with_reducible constructor | constructor)))
          (apply TriM.a 15; (case ho => rfl); (case hg => rfl); (case hr => kernel_rfl); (try dsimp only [List.cons_append, List.nil_append]))
          (apply o_append (m2 := 1) (news := ndLL false (.slice none 0 0) (.slice A4 (hi - lo) c4) (.slice A5 (hi - lo) c5)); (case hx => rfl); (case hy => rfl); (case p => (with_reducible repeat constructor)); (case hr => exact rdw_own (v := vl) (by (with_reducible repeat constructor))); (case hl => rfl); (case h1 => exact ndLL_one false none A4 A5 0 0 _ c4 _ c5); (case hb => omega); (case hn => rfl))
          intro vr
          (refine Tri.shape (e := 33) (size := 4) (v := vr) (by (with_reducible repeat constructor)) ?_; rintro ⟨A6, c6, rfl⟩)
          (apply TriM.back; (case p => (repeat first | with_reducible constructor | constructor)))
          ((first | (apply TriM.q 16; rfl; rfl) | (apply TriM.qYes 16; rfl; rfl; rfl; with_reducible rfl)); kernel_rfl; rfl; rfl; (intro F K hK; apply o_assign; rfl; rfl; exact hK))
          (apply TriM.nil; (case hr => kernel_rfl); (try dsimp only [List.cons_append, List.nil_append]))
          (refine Tri.blockN (Tri.thenN (Tri.region ?_)); apply Tri.op; rfl; apply o_move; rfl; rfl; apply Tri.op; rfl; apply o_add64; rfl; rfl; rfl; (omega); apply Tri.op; rfl; apply o_assign; rfl; rfl; refine Tri.nil (Tri.thenN ?_))
          (with_reducible apply Tri.ownNil 100 8)
          refine Tri.joinS (l := RDS V3 ((chunkN X).take j)) (e := 100) (size := 8) (v := .slice none 0 0) (by (with_reducible repeat constructor)) (by (with_reducible repeat constructor)) ?_
          refine Tri.joinS (e := 98) (size := 2) (v := .slice A4 (hi - lo) c4) (by (with_reducible repeat constructor)) (by (with_reducible repeat constructor)) ?_
          refine Tri.joinS (e := 3) (size := 1) (v := .slice A5 (hi - lo) c5) (by (with_reducible repeat constructor)) (by (with_reducible repeat constructor)) ?_
          obtain ⟨V4, hV4⟩ : ∃ V4, V4 = V3 ++ [((Value.slice none 0 0 : Value), (Value.slice A4 (hi - lo) c4 : Value), (Value.slice A5 (hi - lo) c5 : Value))] := ⟨_, rfl⟩
          have hl4 : V4.length = V3.length + 1 := by rw [hV4, List.length_append]; rfl
          have hn4 : NDL false V3 ++ ndLL false (.slice none 0 0) (.slice A4 (hi - lo) c4) (.slice A5 (hi - lo) c5) = NDL false V4 := by rw [hV4, NDL_app]; rfl
          have hmr : RDS V3 ((chunkN X).take j) ++ [(.slice none 0 0, 0, [])] ++ [(.slice A4 (hi - lo) c4, hi - lo, KL (cutL X.K lo hi))] ++ [(.slice A5 (hi - lo) c5, hi - lo, NL (cutL X.D lo hi))] = RDS V4 ((chunkN X).take (j + 1)) := by
            rw [hV4, chunkN_take X (by rw [hUD]; exact hjc), RDS_app _ _ _ _ (by rw [hV3, List.length_take, hcl]; omega), hch]
            simp only [RDS, List.append_assoc, List.cons_append, List.nil_append, hk1, hd1, List.length_nil]
            rfl
          have hj4 : j + 1 ≤ (m + 15) / 16 := hjc
          have hV4l : V4.length = j + 1 := by rw [hl4, hV3]
          have hW4 : shp V4 := fun v hv => by
            rw [hV4] at hv
            rcases List.mem_append.1 hv with q | q
            · exact hW3 v q
            · rw [List.mem_singleton.1 q]; exact ⟨_, _, _, _, _, _, _, _, _, rfl⟩
          ((with_reducible apply Tri.eqA (A := manyRd _) (B := manyRd (RDS V4 ((chunkN X).take (j + 1))))); (case p => (with_reducible repeat constructor)); (case e => (rw [← hmr])))
          ((with_reducible apply Tri.eqA (A := own 33 4 (.slice A6 _ c6) _ _) (B := own 33 4 (.slice A6 V4.length c6) V4.length (NDL false V4))); (case p => (with_reducible repeat constructor)); (case e => (rw [hl4, hn4])))
          ((with_reducible apply Tri.setv 1 ((.slice A6 V4.length c6))); (case h => rfl); (case hv => (rw [hl4])))
          ((with_reducible apply Tri.seti 9 ((((j + 1) * 16 : Nat) : Int))); (case h => rfl); (case hi => omega))
          (apply Tri.again (y := ⟨j + 1, A6, c6, V4, hj4, hV4l, hW4⟩); (case p => ((try dsimp only); (repeat (first | exact Pulls.nil | (apply Pulls.cons; (case a => (first | ((repeat (first | with_reducible exact Gv.Pull.head | with_reducible apply Gv.Pull.tail)); done) | (repeat (first | exact Gv.Pull.head | apply Gv.Pull.tail))))))))); (case hm => ((try dsimp only); omega)); (try dsimp only))
          (repeat (first | exact trivial | refine And.intro (by rfl) ?_))
        · have hjm : j = (m + 15) / 16 := by omega
          have htk : (chunkN X).take j = chunkN X := List.take_of_length_le (by rw [hcl]; omega)
          rw [htk]
          have g1 : (chunkN X).length ≤ f' + 1 := by omega
          have g2 : 1 ≤ (chunkN X).length := by omega
          have g3 : U.1.S.W.length + 16 * (chunkN X).length ≤ 800000 := by omega
          have g4 : h + 1 + (chunkN X).length ≤ 60000 := by omega
          have g5 : V3.length = (chunkN X).length := by omega
          have g6 := chunkN_E X
          ((with_reducible refine Tri.exit (Tri.thenE (Tri.thenE (Tri.blockE (Tri.blockN (Tri.thenN (Tri.region ?_))))))); apply Tri.op; rfl; apply o_move; rfl; rfl; apply Tri.op; rfl; apply o_add64; rfl; rfl; rfl; (omega); apply Tri.op; rfl; apply o_assign; rfl; rfl; refine Tri.nil (Tri.thenN ?_))
          ((with_reducible apply Tri.seti 6 (((h + 1 : Nat) : Int))); (case h => rfl); (case hi => omega))
          (apply Tri.again (y := ⟨f', false, U.1, chunkN X, h + 1, A3, c3, V3, hR0', g1, g2, hok, g3, g4, g5, hW3, g6⟩); (case p => ((try dsimp only); (repeat (first | exact Pulls.nil | (apply Pulls.cons; (case a => (first | ((repeat (first | with_reducible exact Gv.Pull.head | with_reducible apply Gv.Pull.tail)); done) | (repeat (first | exact Gv.Pull.head | apply Gv.Pull.tail))))))))); (case hm => ((try dsimp only); omega)); (try dsimp only))
          (repeat (first | exact trivial | refine And.intro (by rfl) ?_))
      · ((with_reducible apply Tri.setb 29 (true)); (case h => rfl); (case hi => (rw [decide_eq_true]; omega)))
        rw [if_pos hz] at hR0'
        (apply Tri.condT; rfl; rfl; refine Tri.seq (Tri.region ?_); apply Tri.op; rfl; apply o_build0; rfl; apply Tri.op; rfl; apply o_move; rfl; rfl; apply Tri.op; rfl)
        (apply o_storeAll (ys := [.int .i64 0, .int .i64 0]); (case hx => rfl); (case hy => rfl); (case p => (with_reducible repeat constructor)); (case hl => rfl); (case hc => rfl); (case h1 => exact two_int _ _))
        (apply Tri.op; rfl; apply o_assign; rfl; rfl; refine Tri.nil (Tri.thenN (Tri.ret (Tri.thenR (Tri.blockR (Tri.thenR (Tri.thenR (Tri.blockR (Tri.thenR ?_)))))))))
        rw [← hR0']
        (apply Tri.fin; (case hr => rfl); (case h => exact ResL.cons ((Res1.agg rfl (by (with_reducible repeat constructor)) (by rw [List.drop_zero]; exact List.take_of_length_le (Nat.le_of_eq (rfl : [Value.int .i64 0, Value.int .i64 0].length = 2))) (rfl : [Value.int .i64 0, Value.int .i64 0].length = 2))) (ResL.cons (Res1.tmp rfl) (ResL.nil))); (apply fin_R (Hn := [blk pv 194 (viewL d U.1), DSK d U.1.S])); (case p => exact (by (repeat first | with_reducible constructor | constructor))); exact ⟨rfl, rfl⟩)
    · have hx1 : xs.length = 1 := by omega
      rw [stN_fin (by omega), finN] at hR0'
      ((with_reducible refine Tri.exit (Tri.thenE (Tri.thenE (Tri.blockE (Tri.thenN (Tri.seq (Tri.seq (Tri.region ?_)))))))); apply Tri.op; rfl; apply o_move; rfl; rfl; apply Tri.op; rfl; apply o_gtr; rfl; rfl; rfl; refine Tri.nil (Tri.thenN ?_))
      by_cases hb : 5 < h
      · rw [if_pos hb] at hR0'
        ((with_reducible apply Tri.setb 62 (true)); (case h => rfl); (case hi => (rw [decide_eq_true]; omega)))
        (apply Tri.condT; rfl; rfl; refine Tri.seq (Tri.region ?_); apply Tri.op; rfl; apply o_build0; rfl; apply Tri.op; rfl)
        (apply o_storeAll (ys := [.int .i64 0, .int .i64 0]); (case hx => rfl); (case hy => rfl); (case p => (with_reducible repeat constructor)); (case hl => rfl); (case hc => rfl); (case h1 => exact two_int _ _))
        (apply Tri.op; rfl; apply o_assign; rfl; rfl; refine Tri.nil (Tri.thenN (Tri.ret (Tri.thenR ?_))))
        rw [← hR0']
        (apply Tri.fin; (case hr => rfl); (case h => exact ResL.cons ((Res1.agg rfl (by (with_reducible repeat constructor)) (by rw [List.drop_zero]; exact List.take_of_length_le (Nat.le_of_eq (rfl : [Value.int .i64 0, Value.int .i64 0].length = 2))) (rfl : [Value.int .i64 0, Value.int .i64 0].length = 2))) (ResL.cons (Res1.tmp rfl) (ResL.nil))); (apply fin_R (Hn := [blk pv 194 (viewL d v), DSK d v.S])); (case p => exact (by (repeat first | with_reducible constructor | constructor))); exact ⟨rfl, rfl⟩)
      · rw [if_neg hb] at hR0'
        ((with_reducible apply Tri.setb 62 (false)); (case h => rfl); (case hi => exact decide_eq_false (by omega)))
        obtain ⟨y, rfl⟩ : ∃ y, xs = [y] := ⟨xs[0]'(by omega), List.ext_getElem (by simp [hx1]) (fun i p q => by simp at q; subst q; rfl)⟩
        obtain ⟨vv, rfl⟩ : ∃ v, VV = [v] := ⟨VV[0]'(by rw [hxl]; simp), List.ext_getElem (by simp [hxl]) (fun i p q => by simp at q; subst q; rfl)⟩
        obtain ⟨A1, a1, B1, b1, C1, c1, i1, j1, k1, rfl⟩ := hW vv (List.mem_singleton.2 rfl)
        have hmem := rds_at [(Value.slice A1 i1 a1, Value.slice B1 j1 b1, Value.slice C1 k1 c1)] [y] 0 _ y rfl rfl
        have hyd : ([y] : List ND3).getD 0 ⟨[], [], []⟩ = y := rfl
        rw [hyd] at hR0'
        have hlw : v.S.W.length ≤ 800000 := by simp at hl; omega
        (apply Tri.condF; rfl; rfl; refine Tri.skip (Tri.thenN (Tri.seq (Tri.region ?_))); apply Tri.op; rfl; apply o_move; rfl; rfl; apply Tri.op; rfl; apply o_move; rfl; rfl; apply Tri.op; rfl)
        (apply o_ixOwn (j := 0); (case hx => rfl); (case hy => rfl); (case p => (with_reducible repeat constructor)); (case hj => rfl); (case hlt => exact (by decide : 0 < 1)); (case hn => rfl))
        (apply Tri.op; rfl)
        (apply o_loadAggOwn; (case hx => rfl); (case p => (with_reducible repeat constructor)); (case hv => exact NDL_at _ 0 _ rfl); (case hl => rfl); (case hn => rfl))
        (apply Tri.op; rfl)
        (apply o_callS (hs := view_write pv d v leaf (.slice A1 i1 a1) (.slice B1 j1 b1) (.slice C1 k1 c1) y (RDS [(Value.slice A1 i1 a1, Value.slice B1 j1 b1, Value.slice C1 k1 c1)] [y]) hv hlw hmem.1 hmem.2.1 hmem.2.2 (hR y (List.mem_singleton.2 rfl))); (case hargs => (repeat first | exact evs.nil | (apply evs.cons; case a => rfl))); (case p => (repeat first | with_reducible constructor | constructor)); (case hn => rfl))
        rintro r1 H1 ⟨rfl, rfl⟩
        (try dsimp only [List.cons_append, List.nil_append])
        (apply Tri.op; rfl; apply o_move; rfl; rfl; apply Tri.op; rfl; apply o_extract; rfl; rfl; rfl; apply Tri.op; rfl; apply o_extract; rfl; rfl; rfl; apply Tri.op; rfl; apply o_assign; rfl; rfl; apply Tri.op; rfl; apply o_assign; rfl; rfl; refine Tri.nil (Tri.thenN (Tri.seq (Tri.region ?_))); apply Tri.op; rfl; apply o_move; rfl; rfl; apply Tri.op; rfl; apply o_move; rfl; rfl; apply Tri.op; rfl)
        (apply o_build (ys := [.int .i64 (wrN v leaf y).2.1, .int .i64 (h : Int)]); (case hp => (repeat first | exact pev.nil | (apply pev.cons; case a => rfl))); (case hf => rfl); (case hn => rfl))
        (apply Tri.op; rfl; apply o_move; rfl; rfl; apply Tri.op; rfl)
        (apply o_storeAll (ys := [.int .i64 (wrN v leaf y).2.1, .int .i64 (h : Int)]); (case hx => rfl); (case hy => rfl); (case p => (with_reducible repeat constructor)); (case hl => rfl); (case hc => rfl); (case h1 => exact two_int _ _))
        (apply Tri.op; rfl; apply o_assign; rfl; rfl; refine Tri.nil (Tri.thenN (Tri.ret ?_)))
        rw [← hR0']
        (apply Tri.fin; (case hr => rfl); (case h => exact ResL.cons ((Res1.agg rfl (by (with_reducible repeat constructor)) (by rw [List.drop_zero]; exact List.take_of_length_le (Nat.le_of_eq (rfl : [Value.int .i64 (wrN v leaf y).2.1, Value.int .i64 (h : Int)].length = 2))) (rfl : [Value.int .i64 (wrN v leaf y).2.1, Value.int .i64 (h : Int)].length = 2))) (ResL.cons (Res1.tmp rfl) (ResL.nil))); (apply fin_R (Hn := [blk pv 194 (viewL d (wrN v leaf y).1), DSK d (wrN v leaf y).1.S])); (case p => exact (by (repeat first | with_reducible constructor | constructor))); exact ⟨rfl, rfl⟩)
end Go.Proofs.Ytckdlfbbkemklaa
end
section
/- slices.Chunk of entries, seven each, and the iterator that it hands back. -/
namespace Go.Proofs.Ytckdlfbbkemklaa
open Go Go.RowKit Go.Gv
set_option linter.unusedVariables false
set_option linter.unusedSimpArgs false

theorem slices_ChunkE (A : Option Addr) (m c : Nat) : SpecR Try.prog 100 #[.slice A m c, .int .i64 7] (fun _ => True) (fun r H' => ∃ b2 b3 : Nat, r = .func (.func 124) #[] [.pointer (some ⟨b2, 0, none⟩), .pointer (some ⟨b3, 0, none⟩)].toArray ∧ H' = [blk b2 30 [.slice A m c], blk b3 3 [.int .i64 7]]) := by
  refine SpecR.of (fun w _ => ?_)
  refine Calls.enter Try.func100 rfl rfl rfl (St.rebase w) ?_
  simp only [argSlots]
  (refine Tri.seq (Tri.region ?_); apply Tri.op; rfl)
  (first | (apply o_boxA; (case hx => rfl); (case hn => rfl); intro b2) | (apply o_box1; (case hx => rfl); (case h1 => rfl); (case hn => rfl); intro b2))
  (apply Tri.op; rfl)
  (first | (apply o_boxA; (case hx => rfl); (case hn => rfl); intro b3) | (apply o_box1; (case hx => rfl); (case h1 => rfl); (case hn => rfl); intro b3))
  (apply Tri.op; rfl; apply o_assign; rfl; rfl; refine Tri.nil (Tri.thenN (Tri.seq (Tri.seq (Tri.region ?_)))); apply Tri.op; rfl; apply o_load; rfl; (with_reducible repeat constructor); rfl; rfl; apply Tri.op; rfl; apply o_lss; rfl; rfl; rfl; refine Tri.nil (Tri.thenN ?_))
  ((with_reducible apply Tri.setb 6 (false)); (case h => rfl); (case hi => rfl))
  (apply Tri.condF; rfl; rfl; refine Tri.skip (Tri.thenN (Tri.seq (Tri.region ?_))); apply Tri.op; rfl)
  (apply o_makeFunc (vs := [.pointer (some ⟨b2, 0, none⟩), .pointer (some ⟨b3, 0, none⟩)]); (case hc => exact ⟨rfl, rfl, trivial⟩); (case hn => rfl))
  (apply Tri.op; rfl; apply o_assign; rfl; rfl; refine Tri.nil (Tri.thenN (Tri.ret ?_)))
  (apply Tri.fin; (case hr => rfl); (case h => (repeat (first | exact ResL.nil | (apply ResL.cons; (case a => (first | exact Res1.tmp rfl | (apply Res1.cell; rfl; (with_reducible repeat constructor); rfl) | (apply Res1.agg; rfl; (with_reducible repeat constructor); rfl; rfl))))))); (apply fin_R (Hn := [blk b2 30 [.slice A m c], blk b3 3 [.int .i64 7]])); (case p => (repeat first | with_reducible constructor | constructor)))
  exact ⟨b2, b3, rfl, rfl⟩

def chunksE (A : Option Addr) (m : Nat) : List (List Value) := (List.range ((m + 6) / 7)).map fun k => [.slice (A.map (·.add (k * 7 * 8))) (min 7 (m - k * 7)) (min 7 (m - k * 7))]
theorem chunksE_get {A : Option Addr} {m k : Nat} (h : k * 7 < m) : (chunksE A m)[k]? = some [.slice (A.map (·.add (k * 7 * 8))) (min 7 (m - k * 7)) (min 7 (m - k * 7))] := by
  unfold chunksE
  rw [List.getElem?_map, List.getElem?_range (by omega)]; rfl
theorem chunksE_of {A : Option Addr} {m k : Nat} {vs : List Value} (h : (chunksE A m)[k]? = some vs) : k * 7 < m ∧ vs = [.slice (A.map (·.add (k * 7 * 8))) (min 7 (m - k * 7)) (min 7 (m - k * 7))] := by
  have hk : k < (m + 6) / 7 := by
    have := (List.getElem?_eq_some_iff.1 h).1
    simpa [chunksE] using this
  have h2 : k * 7 < m := by omega
  rw [chunksE_get h2] at h
  exact ⟨h2, (Option.some.inj h).symm⟩
set_option maxHeartbeats 4000000 in
theorem chunk_iterE (A : Option Addr) (m c b2 b3 : Nat) (hc : m ≤ c ∧ m ≤ 1000000000) : Iter Try.prog 124 [.pointer (some ⟨b2, 0, none⟩), .pointer (some ⟨b3, 0, none⟩)] [blk b2 30 [.slice A m c], blk b3 3 [.int .i64 7]] (chunksE A m) := by
  refine Iter.of (fun w0 l I J hY w h0 hw => ?_)
  have hxl : (chunksE A m).length = (m + 6) / 7 := by simp [chunksE]
  rw [hxl]
  refine Calls.enter Try.func124 rfl rfl rfl hw ?_
  simp only [argSlots]
  refine Tri.wr ?_
  (try dsimp only [List.cons_append, List.nil_append])
  (refine TriR.seq (TriR.region ?_); apply TriR.op; rfl; rfl; apply o_assign; rfl; rfl; refine TriR.nil (Tri.thenN (TriR.block ?_)))
  (apply TriR.loop (α := { k : Nat // k ≤ (m + 6) / 7 }) (m := fun x => (m + 6) / 7 - x.1) (Lx := fun x => [(0, .func (.yield l) #[] #[]), (1, .pointer (some ⟨b2, 0, none⟩)), (2, .pointer (some ⟨b3, 0, none⟩)), (4, .int .i64 ((x.1 * 7 : Nat) : Int))]) (Hx := fun x => [I x.1, blk b2 30 [.slice A m c], blk b3 3 [.int .i64 7], Ex h0]) (x0 := ⟨0, Nat.zero_le _⟩); (case hL => ((try dsimp only); (repeat (first | exact trivial | refine And.intro (by rfl) ?_)))); (case hH => ((try dsimp only); apply St.all; (repeat first | with_reducible constructor | constructor)))); (rintro ⟨k, hk⟩ mx hmx; (try dsimp only at hmx ⊢))
  (refine TriR.seq (TriR.seq (TriR.region ?_)); apply TriR.op; rfl; rfl; apply o_move; rfl; rfl; apply TriR.op; rfl; rfl; apply o_load; rfl; (with_reducible repeat constructor); rfl; rfl; apply TriR.op; rfl; rfl; apply o_len; rfl; rfl; apply TriR.op; rfl; rfl; apply o_lss; rfl; rfl; rfl; refine TriR.nil (Tri.thenN ?_))
  (apply TriR.condD; (case hc => rfl); (all_goals intro h))
  · have hk' : k * 7 < m := by omega
    obtain ⟨e, he⟩ : ∃ e, e = min 7 (m - k * 7) := ⟨_, rfl⟩
    have hg := chunksE_get (A := A) hk'
    rw [← he] at hg
    (refine TriR.skip (Tri.thenN (TriR.seq (TriR.block (TriR.seq ?_)))))
    ((first | with_reducible apply Tri.mix [blk b2 30 [.slice A m c], blk b3 3 [.int .i64 7]] | (apply TriR.mix [blk b2 30 [.slice A m c], blk b3 3 [.int .i64 7]]; (case hnd => rfl))); (case p => (repeat first | with_reducible constructor | constructor)); (dsimp only [List.length]))
    ((first | (apply TriM.q 0; rfl; rfl) | (apply TriM.qYes 0; rfl; rfl; rfl; with_reducible rfl)); kernel_rfl; rfl; rfl; (intro F K hK; (try dsimp only [List.cons_append, List.nil_append]); apply o_load; rfl; (with_reducible repeat constructor); rfl; rfl; exact hK); (first | (apply TriM.q 1; rfl; rfl) | (apply TriM.qYes 1; rfl; rfl; rfl; with_reducible rfl)); kernel_rfl; rfl; rfl; (intro F K hK; (try dsimp only [List.cons_append, List.nil_append]); apply o_load; rfl; (with_reducible repeat constructor); rfl; rfl; exact hK); (first | (apply TriM.q 2; rfl; rfl) | (apply TriM.qYes 2; rfl; rfl; rfl; with_reducible rfl)); kernel_rfl; rfl; rfl; (intro F K hK; apply o_move; rfl; rfl; exact hK))
    ((first | (apply TriM.q 3; (case ho => rfl); (case hg => rfl)) | (apply TriM.qYes 3; (case ho => rfl); (case hg => rfl); (case hyl => rfl); (case hb => with_reducible rfl))); (case hB => kernel_rfl); (case hd => rfl); (case hn => rfl); (case h => (intro F K hK; (try dsimp only [List.cons_append, List.nil_append]); (apply o_sliceH (lo := k * 7) (hi := m); (case hx => rfl); (case hol => first | exact fun _ _ => rfl | exact fun a ha => congrArg some (ha.eval rfl)); (case hoh => first | exact fun _ _ => rfl | exact fun a ha => congrArg some (ha.eval rfl)); (case hlo => first | exact .inr ⟨rfl, rfl⟩ | exact .inl ⟨_, rfl⟩ | exact .inl ⟨_, (by congr 2; omega)⟩); (case hhi => first | exact .inr ⟨rfl, rfl⟩ | exact .inl ⟨_, rfl⟩ | exact .inl ⟨_, (by congr 2; omega)⟩); (case hlh => omega); (case hhm => omega); (case hn => rfl)); exact hK)))
    ((first | (apply TriM.q 4; rfl; rfl) | (apply TriM.qYes 4; rfl; rfl; rfl; with_reducible rfl)); kernel_rfl; rfl; rfl; (intro F K hK; apply o_len; rfl; rfl; exact hK); (first | (apply TriM.q 5; rfl; rfl) | (apply TriM.qYes 5; rfl; rfl; rfl; with_reducible rfl)); kernel_rfl; rfl; rfl; (intro F K hK; apply o_min; rfl; rfl; rfl; exact hK); (first | (apply TriM.q 6; rfl; rfl) | (apply TriM.qYes 6; rfl; rfl; rfl; with_reducible rfl)); kernel_rfl; rfl; rfl; (intro F K hK; apply o_assign; rfl; rfl; exact hK))
    (apply TriM.nil; (case hr => kernel_rfl); (try dsimp only [List.cons_append, List.nil_append]))
    ((with_reducible apply Tri.seti 5 ((e : Int))); (case h => rfl); (case hi => omega))
    (refine Tri.thenN (TriR.seq (TriR.region ?_)); apply TriR.op; rfl; rfl; apply o_move; rfl; rfl; apply TriR.op; rfl; rfl; apply o_load; rfl; (with_reducible repeat constructor); rfl; rfl; apply TriR.op; rfl; rfl; apply o_move; rfl; rfl; apply TriR.op; rfl; rfl; apply o_move; rfl; rfl; apply TriR.op; rfl; rfl; apply o_move; rfl; rfl; apply TriR.op; rfl; rfl; apply o_add64; rfl; rfl; rfl; (omega); apply TriR.op; rfl; rfl; apply o_move; rfl; rfl; apply TriR.op; rfl; rfl; apply o_move; rfl; rfl; apply TriR.op; rfl; rfl; apply o_add64; rfl; rfl; rfl; (omega); apply TriR.op; rfl; rfl)
    ((with_reducible apply Tri.seti 24 (((k * 7 + e : Nat) : Int))); (case h => rfl); (case hi => omega))
    ((with_reducible apply Tri.seti 27 (((k * 7 + e : Nat) : Int))); (case h => rfl); (case hi => omega))
    (apply o_slice3 (lo := k * 7) (hi := k * 7 + e) (mx := k * 7 + e); (case hx => rfl); (case hol => first | exact fun _ _ => rfl | exact fun a ha => congrArg some (ha.eval rfl)); (case hlo => first | exact .inr ⟨rfl, rfl⟩ | exact .inl ⟨_, rfl⟩ | exact .inl ⟨_, (by congr 2; omega)⟩); (case hy => rfl); (case hz => rfl); (case hlh => omega); (case hhm => omega); (case hmc => omega); (case hn => rfl))
    ((with_reducible apply Tri.setv 28 ((.slice (A.map (·.add (k * 7 * 8))) e e))); (case h => rfl); (case hv => (rw [if_neg (by omega), show k * 7 + e - k * 7 = e by omega])))
    skip
    (apply TriR.yield (hy := hY k _ hg); (case hx => rfl); (case hargs => (repeat first | exact evs.nil | (apply evs.cons; case a => rfl))); (case hn => rfl); (case p => (with_reducible repeat constructor)))
    · (apply TriR.op; rfl; rfl; apply o_not; rfl; rfl; refine TriR.nil (Tri.thenN ?_))
      ((with_reducible apply Tri.setb 30 (false)); (case h => rfl); (case hi => rfl))
      (apply TriR.condF; rfl; rfl; refine TriR.skip (Tri.blockN (Tri.thenN (TriR.region ?_))); apply TriR.op; rfl; rfl; apply o_move; rfl; rfl; apply TriR.op; rfl; rfl; apply o_load; rfl; (with_reducible repeat constructor); rfl; rfl; apply TriR.op; rfl; rfl; apply o_add64; rfl; rfl; rfl; (omega); apply TriR.op; rfl; rfl; apply o_assign; rfl; rfl; refine TriR.nil (Tri.thenN ?_))
      ((with_reducible apply Tri.seti 4 ((((k + 1) * 7 : Nat) : Int))); (case h => rfl); (case hi => omega))
      (apply Tri.again (y := ⟨k + 1, by omega⟩); (case p => ((try dsimp only); (repeat (first | exact Pulls.nil | (apply Pulls.cons; (case a => (first | ((repeat (first | with_reducible exact Gv.Pull.head | with_reducible apply Gv.Pull.tail)); done) | (repeat (first | exact Gv.Pull.head | apply Gv.Pull.tail))))))))); (case hm => ((try dsimp only); omega)); (try dsimp only))
      (repeat (first | exact trivial | refine And.intro (by rfl) ?_))
    · (apply TriR.op; rfl; rfl; apply o_not; rfl; rfl; refine TriR.nil (Tri.thenN ?_))
      ((with_reducible apply Tri.setb 30 (true)); (case h => rfl); (case hi => rfl))
      (apply TriR.condT; rfl; rfl; refine TriR.ret (Tri.blockR (Tri.thenR (Tri.thenR (Tri.blockR ?_)))))
      apply Tri.fin
      case hr => rfl
      case h => exact ResL.nil
      exact fun w' hw' => .inr ⟨(hw'.pulls (As := [J, blk b2 30 [.slice A m c], blk b3 3 [.int .i64 7], Ex h0]) (by (repeat first | with_reducible constructor | constructor))).1, Sat.left (hw'.pulls (by (repeat first | with_reducible constructor | constructor))).2⟩
  · obtain rfl : k = (m + 6) / 7 := by omega
    ((with_reducible refine TriR.exit (Tri.thenE (Tri.thenE (Tri.blockE ?_)))))
    apply Tri.fin
    case hr => rfl
    case h => exact ResL.nil
    exact fun w' hw' => .inl ⟨(hw'.pulls (As := [I ((m + 6) / 7), blk b2 30 [.slice A m c], blk b3 3 [.int .i64 7], Ex h0]) (by (repeat first | with_reducible constructor | constructor))).1, Sat.left (hw'.pulls (by (repeat first | with_reducible constructor | constructor))).2⟩
end Go.Proofs.Ytckdlfbbkemklaa
end
