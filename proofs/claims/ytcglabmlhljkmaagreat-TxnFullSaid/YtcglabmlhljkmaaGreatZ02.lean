/- Texts of this claim, put together: GvMix4, GvMeet, GvZeros, GvCut, GvOwn, GvW. -/
import Derived.Test.YtcglabmlhljkmaaGreatZ01
import Derived.Lib.AppendZerosOnto
import Derived.Test.YtcglabmlhljkmaaGreatZ00
section
/- Regions whose order is open, in which a late operation turns what quiet operations ahead of it have read. -/
namespace Go.Gv
open Go Go.RowKit
set_option linter.unusedVariables false
set_option linter.unusedSimpArgs false

section
variable {P : Program} {ops : Array Oper} {md : Region.Mode} {Q : Exit → Act → World → Prop}

theorem getD_set_self {listed : Array Bool} {i : Nat} (h : listed.getD i true = false) : (listed.setIfInBounds i true).getD i false = true := by
  rcases Nat.lt_or_ge i listed.size with h' | h'
  · simp [h']
  · simp [Array.getElem?_eq_none h'] at h
/-- two classes: one as long as operation s is to come, one behind it -/
def D2 (s : Nat) (Ds Dw : WP → Prop) (ls : Array Bool) (D : WP) : Prop := if ls.getD s false = true then Dw D else Ds D

def mAny2 (P : Program) (md : Region.Mode) (ops : Array Oper) (s : Nat) (Ds Dw : WP → Prop) (Q : Exit → Act → World → Prop) : Nat → Array Bool → Act → WP → Prop
  | 0, listed, a, D => Region.ready md ops listed = [] ∧ ∀ w, D w → Q .normal a w
  | f + 1, listed, a, D => (Region.ready md ops listed = [] → ∀ w, D w → Q .normal a w) ∧ ∀ i ∈ Region.ready md ops listed, mOp P ops (D2 s Ds Dw (listed.setIfInBounds i true)) i (mAny2 P md ops s Ds Dw Q f (listed.setIfInBounds i true)) a D

variable {s : Nat} {Ds Dw : WP → Prop}

theorem any_of_m2 : ∀ (f : Nat) (listed : Array Bool) (a : Act) (D : WP) (w : World), D w → mAny2 P md ops s Ds Dw Q f listed a D → wpAny P md ops Q f listed a w
  | 0, _, _, _, w, hw, h => ⟨h.1, h.2 w hw⟩
  | f + 1, listed, a, D, w, hw, h => by
    refine ⟨fun h0 => h.1 h0 w hw, fun i hi => ?_⟩
    have hs := h.2 i hi
    unfold mOp at hs
    unfold Go.wpOp
    cases ho : ops[i]? with
    | none => simp only [ho] at hs ⊢; exact any_of_m2 f _ _ _ _ hw hs
    | some o =>
      simp only [ho] at hs ⊢
      by_cases hwt : Region.wanted o (yielded ops a.tmps) = true
      · rw [if_pos hwt] at hs ⊢
        refine .inl (Oper.wp_mono ?_ (wp_false_mono (hs w hw)))
        rintro a' w' ⟨D', _, hd, hk⟩
        exact any_of_m2 f _ _ _ _ hd hk
      · rw [if_neg hwt] at hs ⊢
        exact any_of_m2 f _ _ _ _ hw hs

/-- behind s there is one class only -/
theorem m2_of_m : ∀ (f : Nat) (listed : Array Bool) (a : Act) (D : WP), listed.getD s false = true → mAny P md ops Dw Q f listed a D → mAny2 P md ops s Ds Dw Q f listed a D
  | 0, _, _, _, _, h => h
  | f + 1, listed, a, D, hl, h => by
    refine ⟨h.1, fun i hi => ?_⟩
    have hs := h.2 i hi
    have hl' : (listed.setIfInBounds i true).getD s false = true := getD_set_true hl
    have hDD : D2 s Ds Dw (listed.setIfInBounds i true) = Dw := by funext D; unfold D2; rw [if_pos hl']
    rw [hDD]
    unfold mOp at *
    cases ho : ops[i]? with
    | none => simp only [ho] at hs ⊢; exact m2_of_m f _ _ _ hl' hs
    | some o =>
      simp only [ho] at hs ⊢
      by_cases hwt : Region.wanted o (yielded ops a.tmps) = true
      · rw [if_pos hwt] at hs ⊢
        intro w hw
        refine Oper.wp_mono ?_ (hs w hw)
        rintro a' w' ⟨E, e1, e2, e3⟩
        exact ⟨E, e1, e2, m2_of_m f _ _ _ hl' e3⟩
      · rw [if_neg hwt] at hs ⊢
        exact m2_of_m f _ _ _ hl' hs

theorem mOp_putY {DD : WP → Prop} {j : Nat} {oi oj : Oper} {v : Value} (hj : ops[j]? = some oj) (hap : oi.apart ops oj = true)
    (hsi : ∀ cs b, oi.op ≠ .select cs b) (hsj : ∀ cs b, oj.op ≠ .select cs b) {K K' : Act → WP → Prop} {a : Act} {D : WP} {Y : Act → Prop}
    (hYs : ∀ a a', Y a → execOp a'.eval oi = execOp a.eval oi → Region.wanted oi (yielded ops a'.tmps) = Region.wanted oi (yielded ops a.tmps) → Y a')
    (hy : Y a) (hD : DD D) (hKK : ∀ a' D', Y a' → DD D' → K (a'.put oi.dst v) D' → K' a' D') (h : mOp P ops DD j K (a.put oi.dst v) D) : mOp P ops DD j K' a D := by
  obtain ⟨h1, h2, h3⟩ := Oper.apart_spec hap
  have keep : ∀ u, Y (a.put oj.dst u) := fun u => hYs _ _ hy (execOp_put oi hsi a oj.dst u h3) (wanted_put oi a oj.dst u h3)
  have keepD : ∀ d, Y { a with defers := d :: a.defers } := fun d => hYs _ _ hy rfl rfl
  have keepDD : ∀ d u, Y (({ a with defers := d :: a.defers } : Act).put oj.dst u) := fun d u => hYs _ _ (keepD d) (execOp_put oi hsi _ oj.dst u h3) (wanted_put oi _ oj.dst u h3)
  unfold mOp at *
  simp only [hj] at *
  rw [wanted_put oj a oi.dst v h1] at h
  split
  · rename_i hw
    rw [if_pos hw] at h
    intro w hd
    have hh := h w hd
    unfold Oper.wp at *
    rw [execOp_put oj hsj a oi.dst v h1] at hh
    generalize (execOp a.eval oj).run P w = r at *
    cases r with
    | halt x w' => cases x <;> exact hh.elim
    | ok nx w' =>
      cases nx <;> simp only [Oper.upon] at hh ⊢
      case value u =>
        obtain ⟨D', e1, e2, e3⟩ := hh
        exact ⟨D', e1, e2, hKK _ _ (keep u) e1 (by rw [Act.put_comm a u v (fun d hd he => h2 d he hd)]; exact e3)⟩
      case skip =>
        obtain ⟨D', e1, e2, e3⟩ := hh
        exact ⟨D', e1, e2, hKK _ _ (keep _) e1 (by rw [Act.put_comm a undef v (fun d hd he => h2 d he hd)]; exact e3)⟩
      case defer d =>
        obtain ⟨D', e1, e2, e3⟩ := hh
        refine ⟨D', e1, e2, hKK _ _ (keepDD d _) e1 ?_⟩
        rw [Act.put_comm _ undef v (fun d hd he => h2 d he hd), ← Act.put_defers]
        exact e3
      case enter f args =>
        refine Calls.mono hh fun e w'' he => ?_
        cases e with
        | returned u =>
          obtain ⟨D', e1, e2, e3⟩ := he
          exact ⟨D', e1, e2, hKK _ _ (keep u) e1 (by rw [Act.put_comm a u v (fun d hd he => h2 d he hd)]; exact e3)⟩
        | panicked c => exact he
        | outgrown => exact he
      case row row args =>
        exact Rows.mono hh fun u w'' he => by
          obtain ⟨D', e1, e2, e3⟩ := he
          exact ⟨D', e1, e2, hKK _ _ (keep u) e1 (by rw [Act.put_comm a u v (fun d hd he => h2 d he hd)]; exact e3)⟩
  · rename_i hw
    rw [if_neg hw] at h
    exact hKK _ _ (keep _) hD (by rw [Act.put_comm a undef v (fun d hd he => h2 d he hd)]; exact h)

/-- what is listed is closed: what it waits for is listed, too -/
def Closed (md : Region.Mode) (ops : Array Oper) (ls : Array Bool) : Prop := ∀ k o, ops[k]? = some o → ls.getD k false = true → ∀ e ∈ o.after, Region.binds md e = true → ls.getD e.on false = true
theorem Closed.set {ls : Array Bool} {j : Nat} (h : Closed md ops ls) (hj : j ∈ Region.ready md ops ls) : Closed md ops (ls.setIfInBounds j true) := by
  obtain ⟨hjun, oj, hoj, hall⟩ := mem_ready.1 hj
  intro k o ho hk e he hb
  by_cases hjk : j = k
  · subst hjk
    rw [hoj] at ho; cases ho
    exact getD_set_true (hall e he hb)
  · rw [getD_set_ne false hjk] at hk
    exact getD_set_true (h k o ho hk e he hb)
def closedB (ops : Array Oper) (ls : Array Bool) : Bool := (List.range ops.size).all fun k => match ops[k]? with
  | none => true
  | some o => !(ls.getD k false) || o.after.toList.all fun e => !(Region.binds .any e) || ls.getD e.on false
theorem closedB_spec {ls : Array Bool} (h : closedB ops ls = true) : Closed .any ops ls := by
  intro k o ho hk e he hb
  have hlt : k < ops.size := by
    rcases Nat.lt_or_ge k ops.size with q | q
    · exact q
    · rw [Array.getElem?_eq_none q] at ho; cases ho
  have h1 := (List.all_eq_true.1 h) k (List.mem_range.2 hlt)
  simp only [ho, hk, Bool.not_true, Bool.false_or] at h1
  have h2 := (List.all_eq_true.1 h1) e (Array.mem_toList_iff.2 he)
  simpa [hb] using h2
/-- does s wait for i, by what it waits for? -/
def ancB (ops : Array Oper) : Nat → Nat → Nat → Bool
  | 0, _, _ => false
  | f + 1, s, i => match ops[s]? with
    | none => false
    | some o => o.after.toList.any fun e => Region.binds .any e && (e.on == i || ancB ops f e.on i)
theorem anc_listed {ls : Array Bool} (hc : Closed .any ops ls) : ∀ (f s i : Nat), ancB ops f s i = true → ls.getD s false = true → ls.getD i false = true
  | 0, _, _, h, _ => by simp [ancB] at h
  | f + 1, s, i, h, hs => by
    unfold ancB at h
    cases ho : ops[s]? with
    | none => simp [ho] at h
    | some o =>
      simp only [ho, List.any_eq_true, Bool.and_eq_true, Bool.or_eq_true, beq_iff_eq] at h
      obtain ⟨e, he, hb, h⟩ := h
      have h1 := hc s o ho hs e (Array.mem_toList_iff.1 he) hb
      rcases h with rfl | h
      · exact h1
      · exact anc_listed hc f _ _ h h1

/-- what a quiet operation must show: of the one class, where it is done ahead of s; else of both -/
def Yq (P : Program) (ops : Array Oper) (Ds Dw : WP → Prop) (anc : Bool) (o : Oper) (v : Value) (a : Act) : Prop := if anc = true then myield P ops Ds o v a else myield P ops Dw o v a

theorem mAny2_first (hsub : ∀ D, Ds D → Dw D) {i : Nat} {oi : Oper} {v : Value} {fu : Nat} (hi : ops[i]? = some oi) (his : i ≠ s) (hsel : ∀ (j : Nat) (o : Oper) cs b, ops[j]? = some o → o.op ≠ .select cs b) :
    ∀ (f : Nat) (listed : Array Bool) (a : Act) (D : WP), D2 s Ds Dw listed D → Closed .any ops listed →
      (∀ j oj, ops[j]? = some oj → j ≠ i → listed.getD j true = false → (∀ e ∈ oj.after, Region.binds .any e = true → e.on ≠ i) → oi.apart ops oj = true) →
      i ∈ Region.ready .any ops listed → Yq P ops Ds Dw (ancB ops fu s i) oi v a →
      mAny2 P .any ops s Ds Dw Q f (listed.setIfInBounds i true) (a.put oi.dst v) D → mAny2 P .any ops s Ds Dw Q (f + 1) listed a D := by
  have hmy : ∀ (listed : Array Bool) (a : Act), Closed .any ops listed → i ∈ Region.ready .any ops listed → Yq P ops Ds Dw (ancB ops fu s i) oi v a → myield P ops (D2 s Ds Dw (listed.setIfInBounds i true)) oi v a := by
    intro listed a hc hr hy
    have hun := (mem_ready.1 hr).1
    have hset : (listed.setIfInBounds i true).getD s false = listed.getD s false := getD_set_ne false his
    unfold Yq at hy
    by_cases ha : ancB ops fu s i = true
    · rw [if_pos ha] at hy
      have hs : listed.getD s false ≠ true := fun hs => by
        have := anc_listed hc fu s i ha hs
        rw [getD_both hun] at this; cases this
      have : D2 s Ds Dw (listed.setIfInBounds i true) = Ds := by funext D; unfold D2; rw [hset, if_neg hs]
      rw [this]; exact hy
    · rw [if_neg ha] at hy
      have hle : ∀ D, D2 s Ds Dw (listed.setIfInBounds i true) D → Dw D := fun D h => by
        unfold D2 at h
        split at h
        · exact h
        · exact hsub D h
      rcases hy with ⟨h1, h2⟩ | hy
      · exact .inl ⟨h1, fun D hD => h2 D (hle D hD)⟩
      · exact .inr hy
  have hsame : ∀ a a', Yq P ops Ds Dw (ancB ops fu s i) oi v a → execOp a'.eval oi = execOp a.eval oi → Region.wanted oi (yielded ops a'.tmps) = Region.wanted oi (yielded ops a.tmps) → Yq P ops Ds Dw (ancB ops fu s i) oi v a' := by
    intro a a' h he hw
    unfold Yq at *
    split
    · rename_i q; rw [if_pos q] at h; exact h.same he hw
    · rename_i q; rw [if_neg q] at h; exact h.same he hw
  have hset : ∀ (listed : Array Bool) D, D2 s Ds Dw listed D → D2 s Ds Dw (listed.setIfInBounds i true) D := fun listed D h => by
    unfold D2 at *
    rw [getD_set_ne false his]; exact h
  intro f
  induction f with
  | zero =>
    intro listed a D hD hc _ hr hy G
    refine ⟨fun h => (by rw [h] at hr; cases hr), fun j hj => ?_⟩
    by_cases hji : j = i
    · subst hji; exact (hmy listed a hc hr hy).mOp hi (hset _ _ hD) G
    · have := ready_mono hj hji
      rw [G.1] at this
      cases this
  | succ f ih =>
    intro listed a D hD hc hfree hr hy G
    refine ⟨fun h => (by rw [h] at hr; cases hr), fun j hj => ?_⟩
    by_cases hji : j = i
    · subst hji; exact (hmy listed a hc hr hy).mOp hi (hset _ _ hD) G
    · have h1 := G.2 j (ready_mono hj hji)
      obtain ⟨hjun, oj, hoj, hall⟩ := mem_ready.1 hj
      have hnot : ∀ e ∈ oj.after, Region.binds .any e = true → e.on ≠ i := fun e he hb heq => by
        have h1 := hall e he hb
        rw [heq, getD_both (mem_ready.1 hr).1] at h1
        cases h1
      have hcl : D2 s Ds Dw ((listed.setIfInBounds i true).setIfInBounds j true) = D2 s Ds Dw (listed.setIfInBounds j true) := by
        funext E
        unfold D2
        rw [Array.setIfInBounds_comm _ _ (Ne.symm hji), getD_set_ne false his]
      rw [hcl] at h1
      have hDj : D2 s Ds Dw (listed.setIfInBounds j true) D := by
        unfold D2 at *
        by_cases hjs : j = s
        · subst hjs
          rw [if_pos (getD_set_self hjun)]
          rw [if_neg (by rw [getD_both hjun]; simp)] at hD
          exact hsub D hD
        · rw [getD_set_ne false hjs]; exact hD
      refine mOp_putY hoj (hfree j oj hoj hji hjun hnot) (fun cs b => hsel i oi cs b hi) (fun cs b => hsel j oj cs b hoj) hsame hy hDj (fun a' D' hy' hD' hk => ?_) h1
      have hfree' : ∀ k ok, ops[k]? = some ok → k ≠ i → (listed.setIfInBounds j true).getD k true = false →
          (∀ e ∈ ok.after, Region.binds .any e = true → e.on ≠ i) → oi.apart ops ok = true := fun k ok hk hki hun hno => by
        refine hfree k ok hk hki ?_ hno
        by_cases hjk : j = k
        · subst hjk; exact hjun
        · rw [getD_set_ne true hjk] at hun; exact hun
      refine ih (listed.setIfInBounds j true) a' D' hD' (hc.set hj) hfree' (ready_mono hr (Ne.symm hji)) hy' ?_
      rw [Array.setIfInBounds_comm _ _ hji]
      exact hk
end

section
variable {P : Program} {w0 : World} {n : NT} {L : Slots} {H H' : List Atom} {Q : Exit → Act → World → Prop} {K : Act → World → Prop} {o : Oper} {d : Nat}

/-- as TriM; 'Hs' stays till operation s, 'Hk' also behind it -/
def TriN (P : Program) (w0 : World) (ops : Array Oper) (Q : Exit → Act → World → Prop) (s : Nat) (Hk Hs : List Atom) (m : Nat) (ls : Array Bool) (n : NT) (L : Slots) (F : List Atom) : Prop :=
  (∃ X, Hs = Hk ++ X) → ∀ a, Has a n L → mAny2 P .any ops s (Dcl w0 Hs) (Dcl w0 Hk) Q m ls a (fun w => St w0 w (Hs ++ F))
def MixN (P : Program) (w0 : World) (ops : Array Oper) (Q : Exit → Act → World → Prop) (s : Nat) (Hk Hs : List Atom) (m : Nat) (ls : Array Bool) : Act → World → Prop :=
  fun a w => ∃ D', Dcl w0 Hs D' ∧ D' w ∧ mAny2 P .any ops s (Dcl w0 Hs) (Dcl w0 Hk) Q m ls a D'

theorem Tri.mixN (s : Nat) (Hk Hs : List Atom) {id : Nat} {l : List Oper} {F : List Atom} [hm : TMixed P] (hp : ∃ X, Hs = Hk ++ X) (p : Pulls H Hs F) (h : TriN P w0 l.toArray Q s Hk Hs l.length (Array.replicate l.length false) n L F) : Tri w0 ((Code.region id l.toArray true).wp P Q) n L H := fun a w ha hw => by
  refine wp_region_any hm.ok ?_
  have := any_of_m2 _ _ _ _ { w with drawn := w.drawn + 1 } ((hw.pulls p).drawn (w.drawn + 1)) (h hp a ha)
  simp only [List.size_toArray]; exact this
theorem TriN.back {ops : Array Oper} {s : Nat} {Hk Hs F : List Atom} {m : Nat} {ls : Array Bool} (hp : ∃ X, Hs = Hk ++ X) (p : Pulls H Hs F) (h : TriN P w0 ops Q s Hk Hs m ls n L F) : Tri w0 (MixN P w0 ops Q s Hk Hs m ls) n L H := fun a w ha hw =>
  ⟨_, ⟨F, rfl⟩, hw.pulls p, h hp a ha⟩
theorem Dcl.less {Hk Hs : List Atom} (hp : ∃ X, Hs = Hk ++ X) (D : WP) (h : Dcl w0 Hs D) : Dcl w0 Hk D := by
  obtain ⟨X, rfl⟩ := hp
  obtain ⟨F, rfl⟩ := h
  exact ⟨X ++ F, by rw [List.append_assoc]⟩
/-- an operation that is ahead of s, and so may read all that stays till there -/
def takeN (ops : Array Oper) (ls : Array Bool) (s i : Nat) : Bool := takeB ops ls i && closedB ops ls && !(ls.getD s false) && ancB ops ops.size s i && !(i == s)
/-- an operation that may come behind s -/
def takeP (ops : Array Oper) (ls : Array Bool) (s i : Nat) : Bool := takeB ops ls i && closedB ops ls && !(ls.getD s false) && !(i == s)
theorem TriN.take {ops : Array Oper} {s : Nat} {Hk Hs F : List Atom} {m : Nat} {ls : Array Bool} (i : Nat) {v : Value} (ho : ops[i]? = some o) (hB : takeN ops ls s i = true) (hd : o.dst = some d) (hn : Nat.blt d n = true)
    (hy : ∀ a, Has a n L → myield P ops (Dcl w0 Hs) o v a) (k : TriN P w0 ops Q s Hk Hs m (ls.setIfInBounds i true) n ((d, v) :: L) F) : TriN P w0 ops Q s Hk Hs (m + 1) ls n L F := fun hp a ha => by
  simp only [takeN, takeB, Bool.and_eq_true, Bool.not_eq_true', beq_eq_false_iff_ne] at hB
  obtain ⟨⟨⟨⟨⟨⟨b1, b2⟩, b3⟩, b4⟩, b5⟩, b6⟩, b7⟩ := hB
  refine mAny2_first (v := v) (fu := ops.size) (Dcl.less hp) ho b7 (Region.noSelect_spec b1) m ls a _ ?_ (closedB_spec b4) (Region.free_spec ho b3) (by simpa using b2) ?_ ?_
  · unfold D2; rw [if_neg (by rw [b5]; simp)]; exact ⟨F, rfl⟩
  · unfold Yq; rw [if_pos b6]; exact hy a ha
  · rw [hd]; exact k hp _ (ha.put hn v)
theorem TriN.takeP {ops : Array Oper} {s : Nat} {Hk Hs F : List Atom} {m : Nat} {ls : Array Bool} (i : Nat) {v : Value} (ho : ops[i]? = some o) (hB : Gv.takeP ops ls s i = true) (hd : o.dst = some d) (hn : Nat.blt d n = true)
    (hy : ∀ a, Has a n L → myield P ops (Dcl w0 Hk) o v a) (k : TriN P w0 ops Q s Hk Hs m (ls.setIfInBounds i true) n ((d, v) :: L) F) : TriN P w0 ops Q s Hk Hs (m + 1) ls n L F := fun hp a ha => by
  simp only [Gv.takeP, takeB, Bool.and_eq_true, Bool.not_eq_true', beq_eq_false_iff_ne] at hB
  obtain ⟨⟨⟨⟨⟨b1, b2⟩, b3⟩, b4⟩, b5⟩, b7⟩ := hB
  refine mAny2_first (v := v) (fu := 0) (Dcl.less hp) ho b7 (Region.noSelect_spec b1) m ls a _ ?_ (closedB_spec b4) (Region.free_spec ho b3) (by simpa using b2) ?_ ?_
  · unfold D2; rw [if_neg (by rw [b5]; simp)]; exact ⟨F, rfl⟩
  · unfold Yq; rw [if_neg (by simp [ancB])]; exact hy a ha
  · rw [hd]; exact k hp _ (ha.put hn v)
theorem TriN.q {ops : Array Oper} {s : Nat} {Hk Hs F : List Atom} {m : Nat} {ls : Array Bool} (i : Nat) {v : Value} (ho : ops.toList[i]? = some o) (hg : o.guard = none) (hB : takeN ops ls s i = true) (hd : o.dst = some d) (hn : Nat.blt d n = true)
    (h : ∀ (F : List Atom) (K : Act → World → Prop), Tri w0 K n ((d, v) :: L) (Hs ++ F) → Tri w0 (OpG P o K (fun _ _ _ => False)) n L (Hs ++ F)) (k : TriN P w0 ops Q s Hk Hs m (ls.setIfInBounds i true) n ((d, v) :: L) F) : TriN P w0 ops Q s Hk Hs (m + 1) ls n L F :=
  TriN.take i (by rw [← Array.getElem?_toList]; exact ho) hB hd hn (myield_of (fun a _ => by simp [Region.wanted, hg]) hd hn h) k
theorem TriN.p {ops : Array Oper} {s : Nat} {Hk Hs F : List Atom} {m : Nat} {ls : Array Bool} (i : Nat) {v : Value} (ho : ops.toList[i]? = some o) (hg : o.guard = none) (hB : Gv.takeP ops ls s i = true) (hd : o.dst = some d) (hn : Nat.blt d n = true)
    (h : ∀ (F : List Atom) (K : Act → World → Prop), Tri w0 K n ((d, v) :: L) (Hk ++ F) → Tri w0 (OpG P o K (fun _ _ _ => False)) n L (Hk ++ F)) (k : TriN P w0 ops Q s Hk Hs m (ls.setIfInBounds i true) n ((d, v) :: L) F) : TriN P w0 ops Q s Hk Hs (m + 1) ls n L F :=
  TriN.takeP i (by rw [← Array.getElem?_toList]; exact ho) hB hd hn (myield_of (fun a _ => by simp [Region.wanted, hg]) hd hn h) k
theorem mOp_of2 {DD : WP → Prop} {K' : Act → WP → Prop} {ops : Array Oper} {H : List Atom} {i : Nat} (ho : ops[i]? = some o) {a : Act} (hw : Region.wanted o (yielded ops a.tmps) = true) (ha : Has a n L)
    (h : Tri w0 (OpG P o (fun a w => ∃ D', DD D' ∧ D' w ∧ K' a D') (fun _ _ _ => False)) n L H) : mOp P ops DD i K' a (fun w => St w0 w H) := by
  unfold mOp
  simp only [ho]
  rw [if_pos hw]
  intro w hD
  rcases h a w ha hD with g | ⟨_, _, _, g⟩
  · exact g
  · exact g.elim
/-- the only operation that may come, ahead of s -/
theorem TriN.a {ops : Array Oper} {s : Nat} {Hk Hs F : List Atom} {m : Nat} {ls : Array Bool} (i : Nat) (ho : ops.toList[i]? = some o) (hg : o.guard = none) (hr : decide (Region.ready .any ops ls = [i]) && (!(i == s) && !(ls.getD s false)) = true)
    (h : Tri w0 (OpG P o (MixN P w0 ops Q s Hk Hs m (ls.setIfInBounds i true)) (fun _ _ _ => False)) n L (Hs ++ F)) : TriN P w0 ops Q s Hk Hs (m + 1) ls n L F := fun hp a ha => by
  simp only [Bool.and_eq_true, decide_eq_true_eq, Bool.not_eq_true', beq_eq_false_iff_ne] at hr
  obtain ⟨hr, his, hls⟩ := hr
  refine ⟨fun h0 => (by rw [h0] at hr; cases hr), fun j hj => ?_⟩
  rw [hr] at hj
  have : j = i := by simpa using hj
  subst this
  have hcl : D2 s (Dcl w0 Hs) (Dcl w0 Hk) (ls.setIfInBounds j true) = Dcl w0 Hs := by
    funext D; unfold D2; rw [getD_set_ne false his, if_neg (by rw [hls]; simp)]
  rw [hcl]
  exact mOp_of2 (by rw [← Array.getElem?_toList]; exact ho) (by simp [Region.wanted, hg]) ha h
/-- two or three that may come, ahead of s -/
theorem TriN.one {ops : Array Oper} {s : Nat} {Hk Hs F : List Atom} {m : Nat} {ls : Array Bool} {i : Nat} (ho : ops.toList[i]? = some o) (hg : o.guard = none) (hb : (!(i == s) && !(ls.getD s false)) = true)
    (h : Tri w0 (OpG P o (MixN P w0 ops Q s Hk Hs m (ls.setIfInBounds i true)) (fun _ _ _ => False)) n L (Hs ++ F)) (hp : ∃ X, Hs = Hk ++ X) (a : Act) (ha : Has a n L) :
    mOp P ops (D2 s (Dcl w0 Hs) (Dcl w0 Hk) (ls.setIfInBounds i true)) i (mAny2 P .any ops s (Dcl w0 Hs) (Dcl w0 Hk) Q m (ls.setIfInBounds i true)) a (fun w => St w0 w (Hs ++ F)) := by
  simp only [Bool.and_eq_true, Bool.not_eq_true', beq_eq_false_iff_ne] at hb
  obtain ⟨his, hls⟩ := hb
  have hcl : D2 s (Dcl w0 Hs) (Dcl w0 Hk) (ls.setIfInBounds i true) = Dcl w0 Hs := by
    funext D; unfold D2; rw [getD_set_ne false his, if_neg (by rw [hls]; simp)]
  rw [hcl]
  exact mOp_of2 (by rw [← Array.getElem?_toList]; exact ho) (by simp [Region.wanted, hg]) ha h
theorem TriN.a2 {ops : Array Oper} {s : Nat} {Hk Hs F : List Atom} {m : Nat} {ls : Array Bool} (i j : Nat) {oi oj : Oper} (hoi : ops.toList[i]? = some oi) (hoj : ops.toList[j]? = some oj) (hgi : oi.guard = none) (hgj : oj.guard = none) (hr : (decide (Region.ready .any ops ls = [i, j]) && ((!(i == s) && !(ls.getD s false)) && (!(j == s) && !(ls.getD s false)))) = true)
    (hi : Tri w0 (OpG P oi (MixN P w0 ops Q s Hk Hs m (ls.setIfInBounds i true)) (fun _ _ _ => False)) n L (Hs ++ F))
    (hj : Tri w0 (OpG P oj (MixN P w0 ops Q s Hk Hs m (ls.setIfInBounds j true)) (fun _ _ _ => False)) n L (Hs ++ F)) : TriN P w0 ops Q s Hk Hs (m + 1) ls n L F := fun hp a ha => by
  rw [Bool.and_eq_true, Bool.and_eq_true, decide_eq_true_eq] at hr
  obtain ⟨hr, b1, b2⟩ := hr
  refine ⟨fun h0 => (by rw [h0] at hr; cases hr), fun k hk => ?_⟩
  rw [hr] at hk
  simp at hk
  rcases hk with rfl | rfl
  · exact TriN.one hoi hgi b1 hi hp a ha
  · exact TriN.one hoj hgj b2 hj hp a ha
theorem TriN.a3 {ops : Array Oper} {s : Nat} {Hk Hs F : List Atom} {m : Nat} {ls : Array Bool} (i j l : Nat) {oi oj ol : Oper} (hoi : ops.toList[i]? = some oi) (hoj : ops.toList[j]? = some oj) (hok : ops.toList[l]? = some ol) (hgi : oi.guard = none) (hgj : oj.guard = none) (hgk : ol.guard = none) (hr : (decide (Region.ready .any ops ls = [i, j, l]) && ((!(i == s) && !(ls.getD s false)) && ((!(j == s) && !(ls.getD s false)) && (!(l == s) && !(ls.getD s false))))) = true)
    (hi : Tri w0 (OpG P oi (MixN P w0 ops Q s Hk Hs m (ls.setIfInBounds i true)) (fun _ _ _ => False)) n L (Hs ++ F))
    (hj : Tri w0 (OpG P oj (MixN P w0 ops Q s Hk Hs m (ls.setIfInBounds j true)) (fun _ _ _ => False)) n L (Hs ++ F))
    (hk : Tri w0 (OpG P ol (MixN P w0 ops Q s Hk Hs m (ls.setIfInBounds l true)) (fun _ _ _ => False)) n L (Hs ++ F)) : TriN P w0 ops Q s Hk Hs (m + 1) ls n L F := fun hp a ha => by
  rw [Bool.and_eq_true, decide_eq_true_eq] at hr
  obtain ⟨hr, hb⟩ := hr
  rw [Bool.and_eq_true] at hb
  obtain ⟨b1, hb⟩ := hb
  rw [Bool.and_eq_true] at hb
  obtain ⟨b2, b3⟩ := hb
  refine ⟨fun h0 => (by rw [h0] at hr; cases hr), fun q hq => ?_⟩
  rw [hr] at hq
  simp at hq
  rcases hq with rfl | rfl | rfl
  · exact TriN.one hoi hgi b1 hi hp a ha
  · exact TriN.one hoj hgj b2 hj hp a ha
  · exact TriN.one hok hgk b3 hk hp a ha
/-- operation s, the only one that may come -/
theorem TriN.less {ops : Array Oper} {s : Nat} {Hk Hs F : List Atom} {m : Nat} {ls : Array Bool} (ho : ops.toList[s]? = some o) (hg : o.guard = none) (hr : decide (Region.ready .any ops ls = [s]) = true)
    (h : Tri w0 (OpG P o (MixK P w0 ops Q Hk m (ls.setIfInBounds s true)) (fun _ _ _ => False)) n L (Hs ++ F)) : TriN P w0 ops Q s Hk Hs (m + 1) ls n L F := fun hp a ha => by
  have hr' := of_decide_eq_true hr
  refine ⟨fun h0 => (by rw [h0] at hr'; cases hr'), fun j hj => ?_⟩
  have hj0 := hj
  rw [hr'] at hj
  have : j = s := by simpa using hj
  subst this
  have hset : (ls.setIfInBounds j true).getD j false = true := getD_set_self (mem_ready.1 hj0).1
  have hcl : D2 j (Dcl w0 Hs) (Dcl w0 Hk) (ls.setIfInBounds j true) = Dcl w0 Hk := by
    funext D; unfold D2; rw [if_pos hset]
  rw [hcl]
  refine mOp_of2 (by rw [← Array.getElem?_toList]; exact ho) (by simp [Region.wanted, hg]) ha (fun a' w' ha' hw' => ?_)
  rcases h a' w' ha' hw' with g | ⟨_, _, _, g⟩
  · refine .inl (Oper.wp_mono ?_ g)
    rintro a'' w'' ⟨D', e1, e2, e3⟩
    exact ⟨D', e1, e2, m2_of_m _ _ _ _ hset e3⟩
  · exact g.elim
end
end Go.Gv
end
section
/- Where ways meet again: the code behind a branch is walked once. -/
namespace Go.Gv
open Go Go.RowKit
set_option linter.unusedVariables false

section
variable {P : Program} {w0 : World} {n : NT} {L : Slots} {H R : List Atom} {Q : Exit → Act → World → Prop}
theorem Tri.wpMono {c : Code} {Q1 Q2 : Exit → Act → World → Prop} (hQ : ∀ e a w, Q1 e a w → Q2 e a w) (h : Tri w0 (c.wp P Q1) n L H) : Tri w0 (c.wp P Q2) n L H := fun a w ha hw => by
  intro b kk cs
  obtain ⟨e, a1, w1, hq, harr⟩ := h a w ha hw b kk cs
  exact ⟨e, a1, w1, hQ _ _ _ hq, harr⟩
theorem Tri.seqMeet {α : Type} {c d : Code} (Lx : α → Slots) (Hx : α → List Atom)
    (h : Tri w0 (c.wp P (Exit.then (fun a w => ∃ y, Has a n (Lx y) ∧ St w0 w (Hx y)) Q)) n L H)
    (k : ∀ y, Tri w0 (d.wp P Q) n (Lx y) (Hx y)) : Tri w0 ((Code.seq c d).wp P Q) n L H :=
  Tri.seq (Tri.wpMono (fun e a w hq => by
    cases e with
    | normal => obtain ⟨y, h1, h2⟩ := hq; exact k y a w h1 h2
    | _ => exact hq) h)
theorem Tri.reach {α : Type} {Lx : α → Slots} {Hx : α → List Atom} (y : α) (hL : SubL L (Lx y)) (p : Pulls H (Hx y) R) : Tri w0 (fun a w => ∃ y, Has a n (Lx y) ∧ St w0 w (Hx y)) n L H := fun a w ha hw =>
  ⟨y, ha.sub hL, (hw.pulls p).1, Sat.left (hw.pulls p).2⟩
end
end Go.Gv
end
section
/- Noughts behind a slice: append of a make. -/
namespace Go.Gv
open Go Go.RowKit
set_option linter.unusedVariables false
set_option linter.unusedSimpArgs false

theorem zeroCells_one {z0 : Value} {zc : Value} (hz : z0.cells.toList = [zc]) (k : Nat) : Builtin.zeroCells z0.cells k = (List.replicate k zc).toArray := by
  have hz' : z0.cells = #[zc] := by rw [← Array.toArray_toList (xs := z0.cells), hz]
  unfold Builtin.zeroCells
  rw [hz']
  apply Array.ext
  · simp
  · intro i h1 h2
    have : i % 1 = 0 := Nat.mod_one i
    simp [this]

theorem appendZ_run {P : Program} {t tn e ty : TypeId} {kn kq : IntKind} {bytes : Nat} {zc : Value} [ht : TSlice P t e] [htn : TInt P tn kn] [he : TElem P e 1 bytes [zc]] {w : World} {v : Value} {m1 k : Nat} {xs : List Value} (ho : w.ownsRow 0 e 1 v m1 xs) (h1 : zc.oneCell' = true) (hb : (m1 + k) * bytes ≤ 140737488355328) :
    ∃ v' w', (Builtin.append_ #[t, tn] ty #[v, .int kq k]).run P w = .ok v' w' ∧ w.grownBy w' v.ownBlock ∧ (v'.ownBlock = v.ownBlock ∨ ∀ b, v'.ownBlock = some b → w.heap.size ≤ b) ∧ w'.ownsRow 0 e 1 v' (m1 + k) (xs ++ List.replicate k zc) := by
  obtain ⟨i, z0, hi, hz, hsz, hby, hzz, hzs, p1, p2, p4⟩ := he.get
  have hmk : (m1 + k) * 1 ≤ (m1 + k) * bytes := Nat.mul_le_mul_left _ (by omega)
  have hkb : k * bytes ≤ (m1 + k) * bytes := Nat.mul_le_mul_right _ (by omega)
  have h63 : m1 + k ≤ maxLen := by unfold maxLen; omega
  have hlen : (xs ++ List.replicate k zc).length = (m1 + k) * 1 := by rw [List.length_append, ho.1, List.length_replicate]; omega
  have same : w.grownBy w v.ownBlock := ⟨rfl, rfl, rfl, Nat.le_refl _, fun _ _ _ => rfl⟩
  have hw : IntKind.i64.wrap (k : Int) = k := by rw [IntKind.wrap_i64]; omega
  have h48i : ¬ (281474976710656 < (k : Int) * (i.bytes : Int)) := by rw [hby, ← Int.natCast_mul]; omega
  have hneg : ¬ ((k : Int) < 0) := by omega
  have hw0 : IntKind.i64.wrap 0 = 0 := by rw [IntKind.wrap_i64]; omega
  rcases ho.2 with ⟨rfl, rfl⟩ | ⟨gg, cap, cur, rfl, hb1, hb2, hb3, hb4, hb5, hb6⟩
  · have hx : xs = [] := List.eq_nil_of_length_eq_zero (by simpa using ho.1)
    subst hx
    by_cases hm0 : k = 0
    · subst hm0
      refine ⟨_, w, ?_, same, .inl rfl, by simpa using ho⟩
      simp [Builtin.append_, run_underlying ht.ok, run_underlying htn.ok, sizeOf, typeInfo, hi, asInt, asIntOf, hw0]
    · have hrun := Lib.run_append_nil_zeros (P := P) w t tn ty e i z0 kq kn ht.ok htn.ok hi hz k (by omega) (by omega) (by unfold maxLen at h63; omega) (by rw [hby]; omega)
      refine ⟨_, _, hrun, ⟨rfl, rfl, rfl, by simp, fun j hj _ => Below.heap_alloc w.drew _ j hj⟩, .inr (fun b hb => by simp [Value.ownBlock] at hb; omega), ?_⟩
      simp only [Nat.zero_add, List.nil_append]
      have := ownsRow_new (w := w) (e := e) (bytes := bytes) (m := k) (old := 0) (xs := List.replicate k zc) hzs (by simp) (by omega)
      simp only [zeroCells_one hzz] at this ⊢
      exact this
  · by_cases hroom : m1 + k ≤ cap
    · have hfit : m1 + k ≤ cur.size := by rw [hb5]; omega
      have hst := run_storeCells_at P gg (m1 * 1) e (List.replicate k zc) 0 cur w hb2 (by simp; omega) (by intro u hu; rw [(List.mem_replicate.1 hu).2]; exact h1)
      simp only [Nat.add_zero] at hst
      have hrun : (Builtin.append_ #[t, tn] ty #[.slice (some ⟨gg, 0, none⟩) m1 cap, .int kq k]).run P w = .ok (.slice (some ⟨gg, 0, none⟩) (m1 + k) cap) (w.setRow gg (cur.toList.take (m1 * 1) ++ List.replicate k zc ++ cur.toList.drop (m1 * 1 + (List.replicate k zc).length)).toArray) := by
        by_cases hm0 : k = 0
        · subst hm0
          simp only [List.replicate_zero] at hst ⊢
          have hroom' : m1 ≤ cap := hroom
          simp [Builtin.append_, run_underlying ht.ok, run_underlying htn.ok, sizeOf, typeInfo, hi, hsz, asInt, asIntOf, hw0, hroom', zeroValue, hz, Addr.add_lit]
          simp at hst
          rw [hst]; simp
        · have hns : ¬ (k * i.size = 0) := Nat.mul_ne_zero hm0 (by omega)
          rw [hsz] at hns
          simp [Builtin.append_, run_underlying ht.ok, run_underlying htn.ok, sizeOf, typeInfo, hi, hsz, asInt, asIntOf, hw, hroom, zeroValue, hz, Addr.add_lit, hm0, hneg, h48i, zeroCells_one hzz]
          simp at hst
          rw [hst]; simp
      refine ⟨_, _, hrun, ⟨rfl, rfl, rfl, by simp, fun j _ hk => setRow_other w gg j _ (fun e => hk (by simp [Value.ownBlock, e]))⟩, .inl rfl, hlen, .inr ⟨gg, cap, _, rfl, Nat.zero_le _, setRow_heap w gg cur _ e _ hb2, hroom, hb4, ?_, ?_⟩⟩
      · simp only [List.size_toArray, List.length_append, List.length_take, List.length_drop, Array.length_toList, List.length_replicate]
        omega
      · rw [hb6, ← hlen]
        exact List.take_left
    · have holds : ∀ j u, xs[j]? = some u → w.cell? ((⟨gg, 0, none⟩ : Addr).add j) = some u := ho.cells (g := gg) rfl
      have hfo := run_firstCells_some (P := P) w.drew i.size m1 ⟨gg, 0, none⟩ m1 cap xs (by rw [hsz]; exact ho.1) (by simpa using holds)
      have hrun := Lib.run_append_grow_zeros (P := P) w t tn ty e i z0 kq kn ht.ok htn.ok hi hz (some ⟨gg, 0, none⟩) m1 cap xs hfo k (by omega) (by omega) (by omega) (by unfold maxLen at h63; omega) (by rw [hby]; omega) (growslice_fits (by omega) (by rw [hby]; exact hb))
      refine ⟨_, _, hrun, ⟨rfl, rfl, rfl, by simp, fun j hj _ => Below.heap_alloc w.drew _ j hj⟩, .inr (fun b hb => by simp [Value.ownBlock] at hb; omega), ?_⟩
      have := ownsRow_new (w := w) (e := e) (bytes := bytes) (old := cap) hzs hlen h63
      simp only [zeroCells_one hzz] at this ⊢
      have e : xs.toArray ++ (List.replicate k zc).toArray = (xs ++ List.replicate k zc).toArray := by apply Array.ext'; simp only [Array.toList_append]
      rw [e]; exact this

section
variable {P : Program} {w0 : World} {n : NT} {L : Slots} {H H' : List Atom} {Q : Exit → Act → World → Prop} {K : Act → World → Prop} {d : Nat}
variable {ty : TypeId} {pos : String} {aft : Array Edge} {g : Option (Nat × Bool)}
theorem o_appendZ {t tn e : TypeId} {kn kq : IntKind} {bytes : Nat} {zc : Value} [TSlice P t e] [TInt P tn kn] [TElem P e 1 bytes [zc]] {s x : Operand} {v : Value} {m1 k : Nat} {i : Int} {xs : List Value} (hx : ev L s = some v) (hy : ev L x = some (.int kq i)) (hi : i = (k : Int)) (p : Pull H (own e 1 v m1 xs) H') (h1 : zc.oneCell' = true) (hb : (m1 + k) * bytes ≤ 140737488355328) (hn : Nat.blt d n = true)
    (kk : ∀ v', Tri w0 K n ((d, v') :: L) (own e 1 v' (m1 + k) (xs ++ List.replicate k zc) :: H')) :
    Tri w0 (OpG P ⟨some d, .call { callee := .builtin .append, args := #[s, x], argTypes := #[t, tn] }, ty, pos, aft, g⟩ K Q) n L H :=
  Tri.valW rfl hn (fun a w ha hw => by
    obtain ⟨s', hA⟩ := (hw.pull p).2.head
    subst hi
    obtain ⟨v', w', q1, q2, q3, q4⟩ := appendZ_run (P := P) (t := t) (tn := tn) (ty := ty) (kq := kq) (k := k) (own_row hA) h1 hb
    refine ⟨v', w', ?_, fun a' ha' => kk v' a' w' ha' (St.grown (hw.pull p) q4 q3 q2)⟩
    simp [execOp, resolve, invoke, builtin, ha.eval hx, ha.eval hy, q1])
end
end Go.Gv
end
section
/- An owned row, cut to its first few: it is owned still. -/
namespace Go.Gv
open Go Go.RowKit
set_option linter.unusedVariables false
set_option linter.unusedSimpArgs false
theorem own_cut {e : TypeId} {size n k : Nat} {v : Value} {xs : List Value} {h : PH} (ho : own e size v n xs h) (hk : k ≤ n) : own e size (subv v size 0 k) k (xs.take (k * size)) h := by
  refine ⟨?_, ?_⟩
  · have := ho.1
    have h2 : k * size ≤ n * size := Nat.mul_le_mul_right size hk
    rw [List.length_take]; omega
  · rcases ho.2 with ⟨h1, h0⟩ | ⟨g, cap, cur, h1, h2, h3, h4, h5, h6⟩
    · subst h1
      obtain rfl : k = 0 := by omega
      exact .inl ⟨rfl, rfl⟩
    · subst h1
      refine .inr ⟨g, cap, cur, ?_, h2, by omega, h4, h5, ?_⟩
      · unfold subv
        simp only [Nat.zero_mul, Nat.sub_zero, Option.map_some, Addr.add_lit, Nat.add_zero, ite_self]
      · have h7 : k * size ≤ n * size := Nat.mul_le_mul_right size hk
        rw [← h6, List.take_take, Nat.min_eq_left h7]
section
variable {P : Program} {w0 : World} {n : NT} {L : Slots} {H H' : List Atom}
theorem Tri.ownCut {G : Act → World → Prop} {e : TypeId} {size m : Nat} {v : Value} {xs : List Value} (j : Nat) (p : Pull H (own e size v m xs) H') (hj : j ≤ m)
    (k : Tri w0 G n L (own e size (subv v size 0 j) j (xs.take (j * size)) :: H')) : Tri w0 G n L H := fun a w ha hw => by
  obtain ⟨he, s, h1, h2, h3⟩ := hw.pull p
  exact k a w ha ⟨he, s, h1, own_cut h2 hj, h3⟩
end
section
variable {P : Program} {w0 : World} {n : NT} {L : Slots} {H H' : List Atom} {Q : Exit → Act → World → Prop} {K : Act → World → Prop} {d : Nat}
variable {ty : TypeId} {pos : String} {aft : Array Edge} {g : Option (Nat × Bool)}
end
end Go.Gv
end
section
/- Rows that are owned, as the block that bears them; a byte of a string's literal. -/
namespace Go.Gv
open Go Go.RowKit
set_option linter.unusedVariables false
set_option linter.unusedSimpArgs false
section
variable {P : Program} {w0 : World} {n : NT} {L : Slots} {H H' : List Atom} {Q : Exit → Act → World → Prop} {K G : Act → World → Prop} {o : Oper} {d : Nat}
variable {ty : TypeId} {pos : String} {aft : Array Edge} {g : Option (Nat × Bool)}
/-- a row with something in it is the beginning of a block -/
theorem Tri.ownBlk {e : TypeId} {size m : Nat} {v : Value} {xs : List Value} (p : Pull H (own e size v m xs) H') (hm : 0 < m)
    (k : ∀ (g cap : Nat) (rest : List Value), v = .slice (some ⟨g, 0, none⟩) m cap → m ≤ cap ∧ cap ≤ maxLen → (xs ++ rest).length = cap * size → xs.length = m * size → Tri w0 G n L (blk g e (xs ++ rest) :: H')) : Tri w0 G n L H := by
  refine Tri.open p (fun h0 ho => ?_)
  obtain ⟨hl, ho⟩ := ho
  rcases ho with ⟨_, h0⟩ | ⟨g, cap, cur, h1, h2, h3, h4, h5, h6⟩
  · omega
  · have e1 : xs ++ cur.toList.drop (m * size) = cur.toList := by rw [← h6]; exact List.take_append_drop _ _
    refine Tri.close .head (A := blk g e (xs ++ cur.toList.drop (m * size))) ?_ (k g cap (cur.toList.drop (m * size)) h1 ⟨h3, h4⟩ (by rw [e1]; simpa using h5) hl)
    show h0 g = _
    rw [e1, h2]
theorem Tri.blkOwn {e : TypeId} {size m g cap : Nat} {xs rest : List Value} (p : Pull H (blk g e (xs ++ rest)) H') (hc : m ≤ cap ∧ cap ≤ maxLen) (hl : (xs ++ rest).length = cap * size) (hx : xs.length = m * size)
    (k : Tri w0 G n L (own e size (.slice (some ⟨g, 0, none⟩) m cap) m xs :: H')) : Tri w0 G n L H :=
  Tri.imp p (fun h hb => ⟨hx, .inr ⟨g, cap, _, rfl, hb, hc.1, hc.2, by simpa using hl, by rw [← hx]; simp⟩⟩) k
/-- a byte of a string's literal of 256 bytes -/
theorem o_indexS {T : TypeId} {x y : Operand} {s : ByteArray} {ik : IntKind} {i : Int} {j : Nat} [hT : TStr P T] (hx : ev L x = some (.string s)) (hy : ev L y = some (.int ik i)) (hj : i = (j : Int)) (hs : Nat.beq s.size 256 = true) (hlt : j < 256) (hn : Nat.blt d n = true)
    (k : ∀ c : Nat, c < 256 → Tri w0 K n ((d, .int .u8 (c : Int)) :: L) H) : Tri w0 (OpG P ⟨some d, .index T x y, ty, pos, aft, g⟩ K Q) n L H := by
  have hs' : s.size = 256 := Nat.eq_of_beq_eq_true hs
  have hi : 0 ≤ i ∧ i < s.size := by omega
  have hc := (s[i.toNat]'(by omega)).toNat_lt
  exact Tri.val rfl hn _ (fun a w ha _ => by
    simp only [execOp, ha.eval hx, ha.eval hy]
    simp [run_index_string (h := hT.ok), hi]) (k _ hc)
end
end Go.Gv
end
section
/- The words of a walk as theorems whose side conditions meet themselves. -/
namespace Go.Gv
open Go Go.RowKit
set_option linter.unusedVariables false
set_option linter.unusedSimpArgs false
theorem cA {α : Type} {a : α} {as bs : List α} : (a :: as) ++ bs = a :: (as ++ bs) := rfl
theorem nA {α : Type} {as : List α} : [] ++ as = as := rfl
theorem Wp {H : List Atom} {A : Atom} {H' : List Atom} (p : Pull H A H' := by ((try dsimp only [cA, nA]); first | ((with_reducible repeat constructor); done) | (repeat (first | exact Pull.head | apply Pull.tail)))) : Pull H A H' := p
theorem Wps {H As H' : List Atom} (p : Pulls H As H' := by ((try dsimp only [cA, nA]); repeat (first | exact Pulls.nil | (apply Pulls.cons; first | ((with_reducible repeat constructor); done) | (repeat (first | exact Pull.head | apply Pull.tail)))))) : Pulls H As H' := p
theorem Wev {L : Slots} {xs : List Operand} {vs : List Value} (h : evs L xs vs := by (repeat (first | exact trivial | refine And.intro (by rfl) ?_))) : evs L xs vs := h
theorem Wpe {L : Slots} {xs : List (Nat × Operand)} {vs : List (Nat × Value)} (h : pev L xs vs := by (repeat (first | exact pev.nil | (apply pev.cons; (case a => rfl))))) : pev L xs vs := h
theorem Wsl {L l : Slots} (h : SubL L l := by (try dsimp only); (repeat (first | exact trivial | refine And.intro (by rfl) ?_))) : SubL L l := h
section
variable {P : Program} {w0 : World} {n : NT} {L : Slots} {H H' H1 H2 R : List Atom} {Q : Exit → Act → World → Prop} {K G : Act → World → Prop} {o : Oper} {d : Nat}
variable {ty : TypeId} {pos : String} {aft : Array Edge} {g : Option (Nat × Bool)} {rO : Option Nat}
theorem ZTriop {ops : Array Oper} {o : Oper} {rest : List Oper} (h : Tri w0 (OpG P o (wpList P ops Q rest) Q) n L H) (hg : o.guard = none := by rfl) : Tri w0 (wpList P ops Q (o :: rest)) n L H := Tri.op (hg := hg) (h := h)
theorem Zz (k : Nat) {i : Bool} (j : Bool) (t : Tri w0 G n ((k, .bool j) :: L) H) (h : look L k = some (.bool i) := by rfl) (hi : i = j := by rfl) : Tri w0 G n L H := Tri.setb (k := k) (j := j) (h := h) (hi := hi) (t := t)
theorem Zi (k : Nat) {ik : IntKind} {i : Int} (j : Int) (t : Tri w0 G n ((k, .int ik j) :: L) H) (h : look L k = some (.int ik i) := by rfl) (hi : i = j := by omega) : Tri w0 G n L H := Tri.seti (k := k) (j := j) (h := h) (hi := hi) (t := t)
theorem Zv (k : Nat) {u : Value} (v : Value) (t : Tri w0 G n ((k, v) :: L) H) (h : look L k = some u := by rfl) (hv : u = v := by rfl) : Tri w0 G n L H := Tri.setv (k := k) (v := v) (h := h) (hv := hv) (t := t)
theorem ZMb {ops : Array Oper} {Hs F : List Atom} {m : Nat} {ls : Array Bool} (k : Nat) {i : Bool} (j : Bool) (t : TriM P w0 ops Q Hs m ls n ((k, .bool j) :: L) F) (h : look L k = some (.bool i) := by rfl) (hi : i = j := by rfl) : TriM P w0 ops Q Hs m ls n L F := TriM.setb (k := k) (j := j) (h := h) (hi := hi) (t := t)
theorem ZMi {F Hs : List Atom} {ops : Array Oper} {m : Nat} {ls : Array Bool} (k : Nat) {ik : IntKind} {i : Int} (j : Int) (t : TriM P w0 ops Q Hs m ls n ((k, .int ik j) :: L) F) (h : look L k = some (.int ik i) := by rfl) (hi : i = j := by omega) : TriM P w0 ops Q Hs m ls n L F := TriM.seti (k := k) (j := j) (h := h) (hi := hi) (t := t)
theorem ZMv {ops : Array Oper} {Hs F : List Atom} {m : Nat} {ls : Array Bool} (k : Nat) {u : Value} (v : Value) (t : TriM P w0 ops Q Hs m ls n ((k, v) :: L) F) (h : look L k = some u := by rfl) (hv : u = v := by rfl) : TriM P w0 ops Q Hs m ls n L F := TriM.setv (k := k) (v := v) (h := h) (hv := hv) (t := t)
theorem Zal {T : TypeId} {z : List Value} [hz : TZero P T z] (k : ∀ b, Tri w0 K n ((d, .pointer (some ⟨b, 0, none⟩)) :: L) (blk b T z :: H)) (hn : Nat.blt d n = true := by rfl) : Tri w0 (OpG P ⟨some d, .alloc T, ty, pos, aft, g⟩ K Q) n L H := o_alloc (hn := hn) (k := k)
theorem Zap {t e : TypeId} {size bytes : Nat} {z : List Value} [TSlice P t e] [TElem P e size bytes z] {s x : Operand} {v u : Value} {m1 m2 : Nat} {xs news : List Value} (k : ∀ v', Tri w0 K n ((d, v') :: L) (own e size v' (m1 + m2) (xs ++ news) :: H')) (hx : ev L s = some v := by rfl) (hy : ev L x = some u := by rfl) (p : Pull H (own e size v m1 xs) H' := by exact Wp) (hr : ∀ w, St w0 w H → RdW w u m2 news := by (first | rfl | assumption)) (hl : news.length = m2 * size := by (first | rfl | assumption | (simp; omega) | simp)) (h1 : ∀ y ∈ news, y.oneCell' = true := by rfl) (hb : (m1 + m2) * bytes ≤ 140737488355328 := by omega) (hn : Nat.blt d n = true := by rfl) : Tri w0 (OpG P ⟨some d, .call { callee := .builtin .append, args := #[s, x], argTypes := #[t, t] }, ty, pos, aft, g⟩ K Q) n L H := o_append (hx := hx) (hy := hy) (p := p) (hr := hr) (hl := hl) (h1 := h1) (hb := hb) (hn := hn) (k := k)
theorem ZoappendZ {t tn e : TypeId} {kn kq : IntKind} {bytes : Nat} {zc : Value} [TSlice P t e] [TInt P tn kn] [TElem P e 1 bytes [zc]] {s x : Operand} {v : Value} {m1 k : Nat} {i : Int} {xs : List Value} (kk : ∀ v', Tri w0 K n ((d, v') :: L) (own e 1 v' (m1 + k) (xs ++ List.replicate k zc) :: H')) (hx : ev L s = some v := by rfl) (hy : ev L x = some (.int kq i) := by rfl) (hi : i = (k : Int) := by omega) (p : Pull H (own e 1 v m1 xs) H' := by exact Wp) (h1 : zc.oneCell' = true := by rfl) (hb : (m1 + k) * bytes ≤ 140737488355328 := by omega) (hn : Nat.blt d n = true := by rfl) : Tri w0 (OpG P ⟨some d, .call { callee := .builtin .append, args := #[s, x], argTypes := #[t, tn] }, ty, pos, aft, g⟩ K Q) n L H := o_appendZ (hx := hx) (hy := hy) (hi := hi) (p := p) (h1 := h1) (hb := hb) (hn := hn) (kk := kk)
theorem Zbu {T : TypeId} {pl : List (Nat × Nat)} {z ys : List Value} {parts : List (Nat × Operand)} {vs : List (Nat × Value)} [ht : TPlaces P T pl] [hz : TZero P T z] (k : Tri w0 K n ((d, .agg ys.toArray) :: L) H) (hp : pev L parts vs := by exact Wpe) (hf : fillL (fun i => pl[i]?) z vs = some ys := by rfl) (hn : Nat.blt d n = true := by rfl) : Tri w0 (OpG P ⟨some d, .build T parts.toArray, ty, pos, aft, g⟩ K Q) n L H := o_build (hp := hp) (hf := hf) (hn := hn) (k := k)
theorem Zbs {s t e : TypeId} {x : Operand} {u : Value} {l : List UInt8} [hs : TSlice P s e] [ht : TStr P t] (k : Tri w0 K n ((d, .string ⟨l.toArray⟩) :: L) H) (he : P.underlying e = some (.int .u8) := by rfl) (hx : ev L x = some u := by rfl) (hr : ∀ w, St w0 w H → RdW w u l.length (l.map fun c => .int .u8 (c.toNat : Int)) := by (first | rfl | assumption)) (hn : Nat.blt d n = true := by rfl) : Tri w0 (OpG P ⟨some d, .convert s t x, ty, pos, aft, g⟩ K Q) n L H := o_bytesStr (he := he) (hx := hx) (hr := hr) (hn := hn) (k := k)
theorem Zcf {f : FuncId} {x : Operand} {args : List Operand} {ts : Array TypeId} {vs cs : List Value} {Pre : List Atom} {R : Value → List Atom → Prop} [TFn P f] (hs : Spec P f (vs ++ cs).toArray Pre R) (k : ∀ v Hq, R v Hq → Tri w0 K n ((d, v) :: L) (Hq ++ H')) (hx : ev L x = some (.func (.func f) #[] cs.toArray) := by rfl) (hargs : evs L args vs := by exact Wev) (p : Pulls H Pre H' := by exact Wps) (hn : Nat.blt d n = true := by rfl) : Tri w0 (OpG P ⟨some d, .call { callee := .value x, args := args.toArray, argTypes := ts }, ty, pos, aft, g⟩ K Q) n L H := o_callF (hx := hx) (hs := hs) (hargs := hargs) (p := p) (hn := hn) (k := k)
theorem Zcr {f : FuncId} {args : List Operand} {ts : Array TypeId} {vs : List Value} {Pre : World → Prop} {R : Value → List Atom → Prop} [TFn P f] (hs : SpecR P f vs.toArray Pre R) (k : ∀ v H', R v H' → Tri w0 K n ((d, v) :: L) (H' ++ H)) (hargs : evs L args vs := by exact Wev) (hpre : ∀ w, St w0 w H → Pre w := by exact fun _ _ => trivial) (hn : Nat.blt d n = true := by rfl) : Tri w0 (OpG P ⟨some d, .call { callee := .value (.func f), args := args.toArray, argTypes := ts }, ty, pos, aft, g⟩ K Q) n L H := o_callR (hs := hs) (hargs := hargs) (hpre := hpre) (hn := hn) (k := k)
theorem Zcs {f : FuncId} {args : List Operand} {ts : Array TypeId} {vs : List Value} {Pre : List Atom} {R : Value → List Atom → Prop} [TFn P f] (hs : Spec P f vs.toArray Pre R) (k : ∀ v Hq, R v Hq → Tri w0 K n ((d, v) :: L) (Hq ++ H')) (hargs : evs L args vs := by exact Wev) (p : Pulls H Pre H' := by exact Wps) (hn : Nat.blt d n = true := by rfl) : Tri w0 (OpG P ⟨some d, .call { callee := .value (.func f), args := args.toArray, argTypes := ts }, ty, pos, aft, g⟩ K Q) n L H := o_callS (hs := hs) (hargs := hargs) (p := p) (hn := hn) (k := k)
theorem Zcv {f : FuncId} {args : List Operand} {ts : Array TypeId} {vs : List Value} {Pre : World → Prop} {v : Value} [TFn P f] (hs : SpecR P f vs.toArray Pre (fun r H' => r = v ∧ H' = [])) (k : Tri w0 K n ((d, v) :: L) H) (hargs : evs L args vs := by exact Wev) (hpre : ∀ w, St w0 w H → Pre w := by exact fun _ _ => trivial) (hn : Nat.blt d n = true := by rfl) : Tri w0 (OpG P ⟨some d, .call { callee := .value (.func f), args := args.toArray, argTypes := ts }, ty, pos, aft, g⟩ K Q) n L H := o_callV (hs := hs) (hargs := hargs) (hpre := hpre) (hn := hn) (k := k)
theorem Zcw {f : FuncId} {args : List Operand} {ts : Array TypeId} {vs : List Value} {Pre : List Atom} {R : Value → List Atom → Prop} [TFn P f] (hs : SpecW P w0 f vs.toArray Pre R) (k : ∀ v Hq, R v Hq → Tri w0 K n ((d, v) :: L) (Hq ++ H')) (hargs : evs L args vs := by exact Wev) (p : Pulls H Pre H' := by exact Wps) (hn : Nat.blt d n = true := by rfl) : Tri w0 (OpG P ⟨some d, .call { callee := .value (.func f), args := args.toArray, argTypes := ts }, ty, pos, aft, g⟩ K Q) n L H := o_callW (hs := hs) (hargs := hargs) (p := p) (hn := hn) (k := k)
theorem ZoconvSS {s e : TypeId} {x : Operand} {v : Value} {m size : Nat} {xs : List Value} [hs : TSlice P s e] (k : Tri w0 K n ((d, v) :: L) (ro v m xs :: H')) (he : P.underlying e = some (.int .u8) := by rfl) (hx : ev L x = some v := by rfl) (p : Pull H (own e size v m xs) H' := by exact Wp) (hm : 0 < m := by omega) (hn : Nat.blt d n = true := by rfl) : Tri w0 (OpG P ⟨some d, .convert s s x, ty, pos, aft, g⟩ K Q) n L H := o_convSS (he := he) (hx := hx) (p := p) (hm := hm) (hn := hn) (k := k)
theorem ZocopyB {t e T' : TypeId} {x y : Operand} {b o' dl dc : Nat} {u : Value} {m q : Nat} {cur news : List Value} [ht : TSlice P t e] [hs : TSize P e 1] (k : Tri w0 K n ((d, .int .i64 (q : Int)) :: L) (blk b T' (cur.take o' ++ news.take q ++ cur.drop (o' + q)) :: H')) (hx : ev L x = some (.slice (some ⟨b, o', none⟩) dl dc) := by rfl) (hy : ev L y = some u := by rfl) (p : Pull H (blk b T' cur) H' := by exact Wp) (hr : ∀ w, St w0 w H → RdW w u m news := by (first | rfl | assumption)) (hl : news.length = m := by (first | rfl | assumption | (simp; omega) | simp)) (hq : q = min m dl := by rfl) (hfit : o' + q ≤ cur.length := by rfl) (h1 : ∀ y ∈ news, y.oneCell' = true := by rfl) (hn : Nat.blt d n = true := by rfl) : Tri w0 (OpG P ⟨some d, .call { callee := .builtin .copy, args := #[x, y], argTypes := #[t, t] }, ty, pos, aft, g⟩ K Q) n L H := o_copyB (hx := hx) (hy := hy) (p := p) (hr := hr) (hl := hl) (hq := hq) (hfit := hfit) (h1 := h1) (hn := hn) (k := k)
theorem ZoeqlA {t1 t2 : TypeId} {z : List Value} {x y : Operand} {xs ys : List Value} {r : Bool} [ht : TEq P t1 z] (k : Tri w0 K n ((d, .bool r) :: L) H) (hx : ev L x = some (.agg xs.toArray) := by rfl) (hy : ev L y = some (.agg ys.toArray) := by rfl) (hax : Alk z xs := by rfl) (hay : Alk z ys := by rfl) (hr : r = true ↔ xs = ys := by (first | rfl | assumption)) (hn : Nat.blt d n = true := by rfl) : Tri w0 (OpG P ⟨some d, .binOp .eql t1 x y t2, ty, pos, aft, g⟩ K Q) n L H := o_eqlA (hx := hx) (hy := hy) (hax := hax) (hay := hay) (hr := hr) (hn := hn) (k := k)
theorem ZoeqlSN {t e t2 : TypeId} {x y : Operand} {v : Value} {m : Nat} {xs : List Value} [ht : TSlice P t e] (k : ∀ b : Bool, (b = true → xs = []) → Tri w0 K n ((d, .bool b) :: L) H) (hx : ev L x = some v := by rfl) (hy : ev L y = some (.slice none 0 0) := by rfl) (hr : ∀ w, St w0 w H → RdW w v m xs := by (first | rfl | assumption)) (hn : Nat.blt d n = true := by rfl) : Tri w0 (OpG P ⟨some d, .binOp .eql t x y t2, ty, pos, aft, g⟩ K Q) n L H := o_eqlSN (hx := hx) (hy := hy) (hr := hr) (hn := hn) (k := k)
theorem Zofield {T : TypeId} {f off : Nat} {x : Operand} {fs : Array Field} {fd : Field} (t : TypeId) {cs : List Value} {v : Value} [hp : TPlain P t] (k : Tri w0 K n ((d, v) :: L) H) (hu : P.underlying T = some (.struct fs) := by rfl) (hfd : fs[f]? = some fd := by rfl) (ht : fd.type = t := by rfl) (ho : fd.offset = off := by rfl) (hx : ev L x = some (.agg cs.toArray) := by rfl) (hv : cs[off]? = some v := by rfl) (hn : Nat.blt d n = true := by rfl) : Tri w0 (OpG P ⟨some d, .field T x f, ty, pos, aft, g⟩ K Q) n L H := o_field (t := t) (hu := hu) (hfd := hfd) (ht := ht) (ho := ho) (hx := hx) (hv := hv) (hn := hn) (k := k)
theorem Zoindex {T e : TypeId} {m : Nat} {x y : Operand} {cs : List Value} {ik : IntKind} {i : Int} {j : Nat} {v : Value} [hT : TArr P T m e 1] [hE : TPlain P e] (k : Tri w0 K n ((d, v) :: L) H) (hx : ev L x = some (.agg cs.toArray) := by rfl) (hy : ev L y = some (.int ik i) := by rfl) (hj : i = (j : Int) := by (first | rfl | exact (Int.toNat_of_nonneg (by omega)).symm)) (hlt : j < m := by (first | omega | assumption)) (hv : cs[j]? = some v := by rfl) (hn : Nat.blt d n = true := by rfl) : Tri w0 (OpG P ⟨some d, .index T x y, ty, pos, aft, g⟩ K Q) n L H := o_index (hx := hx) (hy := hy) (hj := hj) (hlt := hlt) (hv := hv) (hn := hn) (k := k)
theorem Zia {T e : TypeId} {m size : Nat} {x y : Operand} {b o' : Nat} {ik : IntKind} {i : Int} {j : Nat} [hT : TArr P T m e size] (k : Tri w0 K n ((d, .pointer (some ⟨b, o' + j * size, none⟩)) :: L) H) (hx : ev L x = some (.pointer (some ⟨b, o', none⟩)) := by rfl) (hy : ev L y = some (.int ik i) := by rfl) (hj : i = (j : Int) := by (first | rfl | exact (Int.toNat_of_nonneg (by omega)).symm)) (hlt : j < m := by (first | omega | assumption)) (hn : Nat.blt d n = true := by rfl) : Tri w0 (OpG P ⟨some d, .indexAddr T x y, ty, pos, aft, g⟩ K Q) n L H := o_ixArr (hx := hx) (hy := hy) (hj := hj) (hlt := hlt) (hn := hn) (k := k)
theorem Zix {T e e' : TypeId} {size size' : Nat} {x y : Operand} {v : Value} {m : Nat} {xs : List Value} {ik : IntKind} {i : Int} {j : Nat} [hT : TSlice P T e] [hs : TSize P e size] (k : Tri w0 K n ((d, .pointer (some (eaddr v (j * size)))) :: L) H) (hx : ev L x = some v := by rfl) (hy : ev L y = some (.int ik i) := by rfl) (p : Pull H (own e' size' v m xs) H' := by exact Wp) (hj : i = (j : Int) := by (first | rfl | exact (Int.toNat_of_nonneg (by omega)).symm)) (hlt : j < m := by (first | omega | assumption)) (hn : Nat.blt d n = true := by rfl) : Tri w0 (OpG P ⟨some d, .indexAddr T x y, ty, pos, aft, g⟩ K Q) n L H := o_ixOwn (hx := hx) (hy := hy) (p := p) (hj := hj) (hlt := hlt) (hn := hn) (k := k)
theorem Zir {T e : TypeId} {size : Nat} {x y : Operand} {h0 : PH} {v : Value} {m : Nat} {xs : List Value} {ik : IntKind} {i : Int} {j : Nat} [hT : TSlice P T e] [hs : TSize P e size] (k : Tri w0 K n ((d, .pointer (some (eaddr v (j * size)))) :: L) H) (hx : ev L x = some v := by rfl) (hy : ev L y = some (.int ik i) := by rfl) (hr : Rd h0 v m xs := by (first | rfl | assumption)) (hj : i = (j : Int) := by (first | rfl | exact (Int.toNat_of_nonneg (by omega)).symm)) (hlt : j < m := by (first | omega | assumption)) (hl : j * size < xs.length := by (first | rfl | assumption | (simp; omega) | simp)) (hn : Nat.blt d n = true := by rfl) : Tri w0 (OpG P ⟨some d, .indexAddr T x y, ty, pos, aft, g⟩ K Q) n L H := o_ixRd (hx := hx) (hy := hy) (hr := hr) (hj := hj) (hlt := hlt) (hl := hl) (hn := hn) (k := k)
theorem Zis {T e : TypeId} {size : Nat} {x y : Operand} {b o' m c : Nat} {ik : IntKind} {i : Int} {j : Nat} [hT : TSlice P T e] [hs : TSize P e size] (k : Tri w0 K n ((d, .pointer (some ⟨b, o' + j * size, none⟩)) :: L) H) (hx : ev L x = some (.slice (some ⟨b, o', none⟩) m c) := by rfl) (hy : ev L y = some (.int ik i) := by rfl) (hj : i = (j : Int) := by (first | rfl | exact (Int.toNat_of_nonneg (by omega)).symm)) (hlt : j < m := by (first | omega | assumption)) (hn : Nat.blt d n = true := by rfl) : Tri w0 (OpG P ⟨some d, .indexAddr T x y, ty, pos, aft, g⟩ K Q) n L H := o_ixSl (hx := hx) (hy := hy) (hj := hj) (hlt := hlt) (hn := hn) (k := k)
theorem ZoixW {T e : TypeId} {size : Nat} {x y : Operand} {v : Value} {m : Nat} {xs : List Value} {ik : IntKind} {i : Int} {j : Nat} [hT : TSlice P T e] [hs : TSize P e size] (k : Tri w0 K n ((d, .pointer (some (eaddr v (j * size)))) :: L) H) (hx : ev L x = some v := by rfl) (hy : ev L y = some (.int ik i) := by rfl) (hr : ∀ w, St w0 w H → RdW w v m xs := by (first | rfl | assumption)) (hj : i = (j : Int) := by (first | rfl | exact (Int.toNat_of_nonneg (by omega)).symm)) (hlt : j < m := by (first | omega | assumption)) (hl : j * size < xs.length := by (first | rfl | assumption | (simp; omega) | simp)) (hn : Nat.blt d n = true := by rfl) : Tri w0 (OpG P ⟨some d, .indexAddr T x y, ty, pos, aft, g⟩ K Q) n L H := o_ixW (hx := hx) (hy := hy) (hr := hr) (hj := hj) (hlt := hlt) (hl := hl) (hn := hn) (k := k)
theorem Zlr2 {T e : TypeId} {x : Operand} {h0 : PH} {v : Value} {m : Nat} {xs : List Value} [TSlice P T e] (k : Tri w0 K n ((d, .int .i64 (m : Int)) :: L) H) (hx : ev L x = some v := by rfl) (hr : Rd h0 v m xs := by (first | rfl | assumption)) (hn : Nat.blt d n = true := by rfl) : Tri w0 (OpG P ⟨some d, .call { callee := .builtin .len, args := #[x], argTypes := #[T] }, ty, pos, aft, g⟩ K Q) n L H := o_lenRd (hx := hx) (hr := hr) (hn := hn) (k := k)
theorem Zli {t e : TypeId} {size bytes m : Nat} {z ys : List Value} {parts : List (Nat × Operand)} {vs : List (Nat × Value)} [ht : TSlice P t e] [he : TElem P e size bytes z] (k : ∀ v, Tri w0 K n ((d, v) :: L) (own e size v m ys :: H)) (hp : pev L parts vs := by exact Wpe) (hm : Nat.ble (m * size) 16777216 = true := by rfl) (hf : fillL (fun i => some (i * size, size)) (List.replicate m z).flatten vs = some ys := by rfl) (hn : Nat.blt d n = true := by rfl) : Tri w0 (OpG P ⟨some d, .buildSlice t m parts.toArray, ty, pos, aft, g⟩ K Q) n L H := o_litSl (hp := hp) (hm := hm) (hf := hf) (hn := hn) (k := k)
theorem Zl {T T' : TypeId} {x : Operand} {b i : Nat} {cs : List Value} {v : Value} [TPlain P T] (k : Tri w0 K n ((d, v) :: L) H) (hx : ev L x = some (.pointer (some ⟨b, i, none⟩)) := by rfl) (p : Pull H (blk b T' cs) H' := by exact Wp) (hv : cs[i]? = some v := by rfl) (hn : Nat.blt d n = true := by rfl) : Tri w0 (OpG P ⟨some d, .load T x, ty, pos, aft, g⟩ K Q) n L H := o_load (hx := hx) (p := p) (hv := hv) (hn := hn) (k := k)
theorem Zlg {T T' : TypeId} {sz : Nat} {x : Operand} {b i : Nat} {cs ys : List Value} [TAgg P T sz] (k : Tri w0 K n ((d, .agg ys.toArray) :: L) H) (hx : ev L x = some (.pointer (some ⟨b, i, none⟩)) := by rfl) (p : Pull H (blk b T' cs) H' := by exact Wp) (hv : (cs.drop i).take sz = ys := by rfl) (hl : ys.length = sz := by (first | rfl | assumption | (simp; omega) | simp)) (hn : Nat.blt d n = true := by rfl) : Tri w0 (OpG P ⟨some d, .load T x, ty, pos, aft, g⟩ K Q) n L H := o_loadAgg (hx := hx) (p := p) (hv := hv) (hl := hl) (hn := hn) (k := k)
theorem Zlq {T e : TypeId} {sz m i size : Nat} {x : Operand} {u : Value} {xs ys : List Value} [TAgg P T sz] (k : Tri w0 K n ((d, .agg ys.toArray) :: L) H) (hx : ev L x = some (.pointer (some (eaddr u i))) := by rfl) (p : Pull H (own e size u m xs) H' := by exact Wp) (hv : (xs.drop i).take sz = ys := by rfl) (hl : ys.length = sz := by (first | rfl | assumption | (simp; omega) | simp)) (hn : Nat.blt d n = true := by rfl) : Tri w0 (OpG P ⟨some d, .load T x, ty, pos, aft, g⟩ K Q) n L H := o_loadAggOwn (hx := hx) (p := p) (hv := hv) (hl := hl) (hn := hn) (k := k)
theorem Zlh {T : TypeId} {sz : Nat} {x : Operand} {h0 : PH} {u : Value} {m i : Nat} {xs ys : List Value} [TAgg P T sz] (k : Tri w0 K n ((d, .agg ys.toArray) :: L) H) (hx : ev L x = some (.pointer (some (eaddr u i))) := by rfl) (p : Pull H (Ex h0) H' := by exact Wp) (hr : Rd h0 u m xs := by (first | rfl | assumption)) (hv : (xs.drop i).take sz = ys := by rfl) (hl : ys.length = sz := by (first | rfl | assumption | (simp; omega) | simp)) (hn : Nat.blt d n = true := by rfl) : Tri w0 (OpG P ⟨some d, .load T x, ty, pos, aft, g⟩ K Q) n L H := o_loadAggRd (hx := hx) (p := p) (hr := hr) (hv := hv) (hl := hl) (hn := hn) (k := k)
theorem ZoloadAggW {T : TypeId} {sz : Nat} {x : Operand} {u : Value} {m i : Nat} {xs ys : List Value} [TAgg P T sz] (k : Tri w0 K n ((d, .agg ys.toArray) :: L) H) (hx : ev L x = some (.pointer (some (eaddr u i))) := by rfl) (hr : ∀ w, St w0 w H → RdW w u m xs := by (first | rfl | assumption)) (hv : (xs.drop i).take sz = ys := by rfl) (hl : ys.length = sz := by (first | rfl | assumption | (simp; omega) | simp)) (hn : Nat.blt d n = true := by rfl) : Tri w0 (OpG P ⟨some d, .load T x, ty, pos, aft, g⟩ K Q) n L H := o_loadAggW (hx := hx) (hr := hr) (hv := hv) (hl := hl) (hn := hn) (k := k)
theorem Zla {T T' : TypeId} {sz : Nat} {x : Operand} {b : Nat} {cs : List Value} [TAgg P T sz] (k : Tri w0 K n ((d, .agg cs.toArray) :: L) H) (hx : ev L x = some (.pointer (some ⟨b, 0, none⟩)) := by rfl) (p : Pull H (blk b T' cs) H' := by exact Wp) (hl : cs.length = sz := by (first | rfl | assumption | (simp; omega) | simp)) (hn : Nat.blt d n = true := by rfl) : Tri w0 (OpG P ⟨some d, .load T x, ty, pos, aft, g⟩ K Q) n L H := o_loadAll (hx := hx) (p := p) (hl := hl) (hn := hn) (k := k)
theorem Zlo {T e : TypeId} {x : Operand} {u v : Value} {m j size : Nat} {xs : List Value} [TPlain P T] (k : Tri w0 K n ((d, v) :: L) H) (hx : ev L x = some (.pointer (some (eaddr u j))) := by rfl) (p : Pull H (own e size u m xs) H' := by exact Wp) (hv : xs[j]? = some v := by rfl) (hn : Nat.blt d n = true := by rfl) : Tri w0 (OpG P ⟨some d, .load T x, ty, pos, aft, g⟩ K Q) n L H := o_loadOwn (hx := hx) (p := p) (hv := hv) (hn := hn) (k := k)
theorem Zlr {T : TypeId} {x : Operand} {h0 : PH} {u v : Value} {m j : Nat} {xs : List Value} [TPlain P T] (k : Tri w0 K n ((d, v) :: L) H) (hx : ev L x = some (.pointer (some (eaddr u j))) := by rfl) (p : Pull H (Ex h0) H' := by exact Wp) (hr : Rd h0 u m xs := by (first | rfl | assumption)) (hv : xs[j]? = some v := by rfl) (hn : Nat.blt d n = true := by rfl) : Tri w0 (OpG P ⟨some d, .load T x, ty, pos, aft, g⟩ K Q) n L H := o_loadRd (hx := hx) (p := p) (hr := hr) (hv := hv) (hn := hn) (k := k)
theorem ZoloadW {T : TypeId} {x : Operand} {u v : Value} {m j : Nat} {xs : List Value} [TPlain P T] (k : Tri w0 K n ((d, v) :: L) H) (hx : ev L x = some (.pointer (some (eaddr u j))) := by rfl) (hr : ∀ w, St w0 w H → RdW w u m xs := by (first | rfl | assumption)) (hv : xs[j]? = some v := by rfl) (hn : Nat.blt d n = true := by rfl) : Tri w0 (OpG P ⟨some d, .load T x, ty, pos, aft, g⟩ K Q) n L H := o_loadW (hx := hx) (hr := hr) (hv := hv) (hn := hn) (k := k)
theorem Zomake1 {t e : TypeId} {bytes : Nat} {zc : Value} {x y : Operand} {ik jk : IntKind} {i j : Int} {m : Nat} [ht : TSlice P t e] [he : TElem P e 1 bytes [zc]] (k : ∀ b, Tri w0 K n ((d, .slice (some ⟨b, 0, none⟩) m m) :: L) (blk b e (List.replicate m zc) :: H)) (hx : ev L x = some (.int ik i) := by rfl) (hy : ev L y = some (.int jk j) := by rfl) (hi : i = (m : Int) := by omega) (hj : j = (m : Int) := by (first | rfl | exact (Int.toNat_of_nonneg (by omega)).symm)) (hb : m * bytes ≤ 140737488355328 := by omega) (hn : Nat.blt d n = true := by rfl) : Tri w0 (OpG P ⟨some d, .makeSlice t x y, ty, pos, aft, g⟩ K Q) n L H := o_make1 (hx := hx) (hy := hy) (hi := hi) (hj := hj) (hb := hb) (hn := hn) (k := k)
theorem ZomakeFunc {f : FuncId} {cap : List Operand} {vs : List Value} (k : Tri w0 K n ((d, .func (.func f) #[] vs.toArray) :: L) H) (hc : evs L cap vs := by rfl) (hn : Nat.blt d n = true := by rfl) : Tri w0 (OpG P ⟨some d, .makeFunc (.func f) #[] cap.toArray, ty, pos, aft, g⟩ K Q) n L H := o_makeFunc (hc := hc) (hn := hn) (k := k)
theorem Zsl {T e : TypeId} {size : Nat} {x : Operand} {ol oh : Option Operand} {v : Value} {m lo hi : Nat} {xs : List Value} {vl vh : Option Value} [hT : TSlice P T e] [hs : TSize P e size] (k : Tri w0 K n ((d, subv v size lo hi) :: L) H) (hx : ev L x = some v := by rfl) (hr : ∀ w, St w0 w H → RdW w v m xs := by (first | rfl | assumption)) (hol : ∀ a, Has a n L → ol.map a.eval = vl := by (first | exact fun _ _ => rfl | exact fun a ha => congrArg some (ha.eval rfl))) (hoh : ∀ a, Has a n L → oh.map a.eval = vh := by (first | exact fun _ _ => rfl | exact fun a ha => congrArg some (ha.eval rfl))) (hlo : (∃ ik, vl = some (.int ik (lo : Int))) ∨ vl = none ∧ lo = 0 := by (first | exact .inr ⟨rfl, rfl⟩ | exact .inl ⟨_, rfl⟩ | exact .inl ⟨_, (by congr 2; omega)⟩)) (hhi : (∃ jk, vh = some (.int jk (hi : Int))) ∨ vh = none ∧ hi = m := by (first | exact .inr ⟨rfl, rfl⟩ | exact .inl ⟨_, rfl⟩ | exact .inl ⟨_, (by congr 2; omega)⟩)) (hlh : lo ≤ hi := by omega) (hhm : hi ≤ m := by omega) (hn : Nat.blt d n = true := by rfl) : Tri w0 (OpG P ⟨some d, .slice T x ol oh none, ty, pos, aft, g⟩ K Q) n L H := o_slice (hx := hx) (hr := hr) (hol := hol) (hoh := hoh) (hlo := hlo) (hhi := hhi) (hlh := hlh) (hhm := hhm) (hn := hn) (k := k)
theorem Zoslice3 {T e : TypeId} {size : Nat} {x y z : Operand} {ol : Option Operand} {A : Option Addr} {m c lo hi mx : Nat} {vl : Option Value} {jk kk : IntKind} [hT : TSlice P T e] [hs : TSize P e size] (k : Tri w0 K n ((d, .slice (if mx = lo then A else A.map (·.add (lo * size))) (hi - lo) (mx - lo)) :: L) H) (hx : ev L x = some (.slice A m c) := by rfl) (hol : ∀ a, Has a n L → ol.map a.eval = vl := by (first | exact fun _ _ => rfl | exact fun a ha => congrArg some (ha.eval rfl))) (hlo : (∃ ik, vl = some (.int ik (lo : Int))) ∨ vl = none ∧ lo = 0 := by (first | exact .inr ⟨rfl, rfl⟩ | exact .inl ⟨_, rfl⟩ | exact .inl ⟨_, (by congr 2; omega)⟩)) (hy : ev L y = some (.int jk (hi : Int)) := by rfl) (hz : ev L z = some (.int kk (mx : Int)) := by rfl) (hlh : lo ≤ hi := by omega) (hhm : hi ≤ mx := by omega) (hmc : mx ≤ c := by omega) (hn : Nat.blt d n = true := by rfl) : Tri w0 (OpG P ⟨some d, .slice T x ol (some y) (some z), ty, pos, aft, g⟩ K Q) n L H := o_slice3 (hx := hx) (hol := hol) (hlo := hlo) (hy := hy) (hz := hz) (hlh := hlh) (hhm := hhm) (hmc := hmc) (hn := hn) (k := k)
theorem ZosliceB {T e : TypeId} {size : Nat} {x : Operand} {ol oh : Option Operand} {b o' m c lo hi : Nat} {vl vh : Option Value} [hT : TSlice P T e] [hs : TSize P e size] (k : Tri w0 K n ((d, .slice (some ⟨b, o' + lo * size, none⟩) (hi - lo) (c - lo)) :: L) H) (hx : ev L x = some (.slice (some ⟨b, o', none⟩) m c) := by rfl) (hol : ∀ a, Has a n L → ol.map a.eval = vl := by (first | exact fun _ _ => rfl | exact fun a ha => congrArg some (ha.eval rfl))) (hoh : ∀ a, Has a n L → oh.map a.eval = vh := by (first | exact fun _ _ => rfl | exact fun a ha => congrArg some (ha.eval rfl))) (hlo : (∃ ik, vl = some (.int ik (lo : Int))) ∨ vl = none ∧ lo = 0 := by (first | exact .inr ⟨rfl, rfl⟩ | exact .inl ⟨_, rfl⟩ | exact .inl ⟨_, (by congr 2; omega)⟩)) (hhi : (∃ jk, vh = some (.int jk (hi : Int))) ∨ vh = none ∧ hi = m := by (first | exact .inr ⟨rfl, rfl⟩ | exact .inl ⟨_, rfl⟩ | exact .inl ⟨_, (by congr 2; omega)⟩)) (hlh : lo ≤ hi := by omega) (hhm : hi ≤ c := by omega) (hne : lo < c := by rfl) (hn : Nat.blt d n = true := by rfl) : Tri w0 (OpG P ⟨some d, .slice T x ol oh none, ty, pos, aft, g⟩ K Q) n L H := o_sliceB (hx := hx) (hol := hol) (hoh := hoh) (hlo := hlo) (hhi := hhi) (hlh := hlh) (hhm := hhm) (hne := hne) (hn := hn) (k := k)
theorem ZosliceH {T e : TypeId} {size : Nat} {x : Operand} {ol oh : Option Operand} {A : Option Addr} {m c lo hi : Nat} {vl vh : Option Value} [hT : TSlice P T e] [hs : TSize P e size] (k : Tri w0 K n ((d, .slice (if c = lo then A else A.map (·.add (lo * size))) (hi - lo) (c - lo)) :: L) H) (hx : ev L x = some (.slice A m c) := by rfl) (hol : ∀ a, Has a n L → ol.map a.eval = vl := by (first | exact fun _ _ => rfl | exact fun a ha => congrArg some (ha.eval rfl))) (hoh : ∀ a, Has a n L → oh.map a.eval = vh := by (first | exact fun _ _ => rfl | exact fun a ha => congrArg some (ha.eval rfl))) (hlo : (∃ ik, vl = some (.int ik (lo : Int))) ∨ vl = none ∧ lo = 0 := by (first | exact .inr ⟨rfl, rfl⟩ | exact .inl ⟨_, rfl⟩ | exact .inl ⟨_, (by congr 2; omega)⟩)) (hhi : (∃ jk, vh = some (.int jk (hi : Int))) ∨ vh = none ∧ hi = m := by (first | exact .inr ⟨rfl, rfl⟩ | exact .inl ⟨_, rfl⟩ | exact .inl ⟨_, (by congr 2; omega)⟩)) (hlh : lo ≤ hi := by omega) (hhm : hi ≤ c := by omega) (hn : Nat.blt d n = true := by rfl) : Tri w0 (OpG P ⟨some d, .slice T x ol oh none, ty, pos, aft, g⟩ K Q) n L H := o_sliceH (hx := hx) (hol := hol) (hoh := hoh) (hlo := hlo) (hhi := hhi) (hlh := hlh) (hhm := hhm) (hn := hn) (k := k)
theorem ZS {T T' : TypeId} {x y : Operand} {b i : Nat} {cs : List Value} {v : Value} [_hT : TPlain P T] [hz : TSize P T 1] (k : Tri w0 K n L (blk b T' (cs.set i v) :: H')) (hx : ev L x = some (.pointer (some ⟨b, i, none⟩)) := by rfl) (hy : ev L y = some v := by rfl) (h1 : v.oneCell' = true := by rfl) (p : Pull H (blk b T' cs) H' := by exact Wp) (hi : i < cs.length := by (exact Nat.le_of_ble_eq_true rfl)) : Tri w0 (OpG P ⟨none, .store T x y, ty, pos, aft, g⟩ K Q) n L H := o_store (hx := hx) (hy := hy) (h1 := h1) (p := p) (hi := hi) (k := k)
theorem ZSg {T T' : TypeId} {sz : Nat} {x y : Operand} {b i : Nat} {cs ys : List Value} [hT : TAgg P T sz] (k : Tri w0 K n L (blk b T' (cs.take i ++ ys ++ cs.drop (i + sz)) :: H')) (hx : ev L x = some (.pointer (some ⟨b, i, none⟩)) := by rfl) (hy : ev L y = some (.agg ys.toArray) := by rfl) (hl : ys.length = sz := by rfl) (h1 : ∀ v ∈ ys, v.oneCell' = true := by rfl) (p : Pull H (blk b T' cs) H' := by exact Wp) (hi : i + sz ≤ cs.length := by omega) : Tri w0 (OpG P ⟨none, .store T x y, ty, pos, aft, g⟩ K Q) n L H := o_storeAgg (hx := hx) (hy := hy) (hl := hl) (h1 := h1) (p := p) (hi := hi) (k := k)
theorem ZSa {T T' : TypeId} {sz : Nat} {x y : Operand} {b : Nat} {cs ys : List Value} [TAgg P T sz] (k : Tri w0 K n L (blk b T' ys :: H')) (hx : ev L x = some (.pointer (some ⟨b, 0, none⟩)) := by rfl) (hy : ev L y = some (.agg ys.toArray) := by rfl) (p : Pull H (blk b T' cs) H' := by exact Wp) (hl : ys.length = sz := by rfl) (hc : cs.length = sz := by rfl) (h1 : ∀ v ∈ ys, v.oneCell' = true := by rfl) : Tri w0 (OpG P ⟨none, .store T x y, ty, pos, aft, g⟩ K Q) n L H := o_storeAll (hx := hx) (hy := hy) (p := p) (hl := hl) (hc := hc) (h1 := h1) (k := k)
theorem Tri.isOp (h : Tri w0 (OpG P o K Q) n L H) : Tri w0 (OpG P o K Q) n L H := h
theorem Tri.isBin {dd : Option Nat} {b : BinOp} {t1 t2 : TypeId} {x y : Operand} (h : Tri w0 (OpG P ⟨dd, .binOp b t1 x y t2, ty, pos, aft, g⟩ K Q) n L H) : Tri w0 (OpG P ⟨dd, .binOp b t1 x y t2, ty, pos, aft, g⟩ K Q) n L H := h
theorem Wop {X G : Prop} (k : X) (h : (True → X) → G := by intro kW; ((with_reducible refine Tri.isOp ?_); first | ((with_reducible refine Tri.isBin ?_); first | ((with_reducible apply o_add64); (case hx => rfl); (case hy => rfl); (case hn => rfl); (case hb => omega)) | ((with_reducible apply o_add); (case hx => rfl); (case hy => rfl); (case hn => rfl)) | ((with_reducible apply o_sub64); (case hx => rfl); (case hy => rfl); (case hn => rfl); (case hb => omega)) | ((with_reducible apply o_sub); (case hx => rfl); (case hy => rfl); (case hn => rfl)) | ((with_reducible apply o_mul64); (case hx => rfl); (case hy => rfl); (case hn => rfl); (case hb => omega)) | ((with_reducible apply o_mul); (case hx => rfl); (case hy => rfl); (case hn => rfl)) | ((with_reducible apply o_lss); (case hx => rfl); (case hy => rfl); (case hn => rfl)) | ((with_reducible apply o_leq); (case hx => rfl); (case hy => rfl); (case hn => rfl)) | ((with_reducible apply o_gtr); (case hx => rfl); (case hy => rfl); (case hn => rfl)) | ((with_reducible apply o_geq); (case hx => rfl); (case hy => rfl); (case hn => rfl)) | ((with_reducible apply o_eql); (case hx => rfl); (case hy => rfl); (case hn => rfl)) | ((with_reducible apply o_neq); (case hx => rfl); (case hy => rfl); (case hn => rfl)) | ((with_reducible apply o_rem); (case hx => rfl); (case hy => rfl); (case hn => rfl); (case hi => omega); (case hj => omega)) | ((with_reducible apply o_remT); (case hx => rfl); (case hy => rfl); (case hn => rfl); (case hj => omega)) | ((with_reducible apply o_quo); (case hx => rfl); (case hy => rfl); (case hn => rfl); (case hi => omega); (case hj => omega)) | ((with_reducible apply o_shr); (case hx => rfl); (case hy => rfl); (case hn => rfl); (case hj => omega)) | ((with_reducible apply o_shl); (case hx => rfl); (case hy => rfl); (case hn => rfl); (case hj => omega)) | ((with_reducible apply o_and); (case hx => rfl); (case hy => rfl); (case hn => rfl)) | ((with_reducible apply o_or); (case hx => rfl); (case hy => rfl); (case hn => rfl)) | ((with_reducible apply o_xor); (case hx => rfl); (case hy => rfl); (case hn => rfl)) | ((with_reducible apply o_eqlB); (case hx => rfl); (case hy => rfl); (case hn => rfl)) | ((with_reducible apply o_neqB); (case hx => rfl); (case hy => rfl); (case hn => rfl)) | ((with_reducible apply o_eqlN); (case hx => rfl); (case hy => rfl); (case hn => rfl)) | ((with_reducible apply o_neqN); (case hx => rfl); (case hy => rfl); (case hn => rfl)) | ((with_reducible apply o_eqlS); (case hx => rfl); (case hy => rfl); (case hn => rfl)) | ((with_reducible apply o_neqS); (case hx => rfl); (case hy => rfl); (case hn => rfl))) | (first | ((with_reducible apply o_move); (case hx => rfl); (case hn => rfl)) | ((with_reducible apply o_assign); (case hx => rfl); (case hn => rfl)) | ((with_reducible apply o_pickT); (case hc => rfl); (case hb => with_reducible rfl); (case hx => rfl); (case hn => rfl)) | ((with_reducible apply o_pickF); (case hc => rfl); (case hb => with_reducible rfl); (case hy => rfl); (case hn => rfl)) | ((with_reducible apply o_notD); (case hx => rfl); (case hn => rfl)) | ((with_reducible apply o_not); (case hx => rfl); (case hn => rfl)) | ((with_reducible apply o_neg); (case hx => rfl); (case hn => rfl)) | ((with_reducible apply o_com); (case hx => rfl); (case hn => rfl)) | ((with_reducible apply o_convI); (case hx => rfl); (case hn => rfl); (case hw => first | decide | (exact wrap_i64 (by omega)) | (exact wrap_u8 (by omega)) | (exact wrap_u16 (by omega)) | (exact wrap_u32 (by omega)) | (exact wrap_u64 (by omega)))) | ((with_reducible apply o_conv8); (case hx => rfl); (case hn => rfl)) | ((with_reducible apply o_conv32); (case hx => rfl); (case hn => rfl)) | ((with_reducible apply o_conv64); (case hx => rfl); (case hn => rfl)) | ((with_reducible apply o_conv); (case hx => rfl); (case hn => rfl)) | ((with_reducible apply o_extract); (case hx => rfl); (case hv => rfl); (case hn => rfl)) | ((with_reducible apply o_nilCheck); (case hx => rfl); (case hn => rfl)) | ((with_reducible apply o_fieldAddr); (case hx => rfl); (case hn => rfl)) | ((with_reducible apply o_fieldE); (case hx => rfl); (case hn => rfl)) | ((with_reducible apply o_load); (case hx => rfl); (case p => exact Wp); (case hv => rfl); (case hn => rfl)) | ((with_reducible apply o_len); (case hx => rfl); (case hn => rfl)) | ((with_reducible apply o_lenOwn); (case hx => rfl); (case p => exact Wp); (case hn => rfl)) | ((with_reducible apply o_ixArr); (case hx => rfl); (case hy => rfl); (case hj => first | rfl | exact (Int.toNat_of_nonneg (by omega)).symm); (case hlt => first | omega | assumption); (case hn => rfl)) | ((with_reducible apply o_ixSl); (case hx => rfl); (case hy => rfl); (case hj => first | rfl | exact (Int.toNat_of_nonneg (by omega)).symm); (case hlt => first | omega | assumption); (case hn => rfl)) | ((with_reducible apply o_min); (case hx => rfl); (case hy => rfl); (case hn => rfl)) | ((with_reducible apply o_max); (case hx => rfl); (case hy => rfl); (case hn => rfl)) | ((with_reducible apply o_build0); (case hn => rfl)) | ((with_reducible apply o_index); (case hx => rfl); (case hy => rfl); (case hj => first | rfl | exact (Int.toNat_of_nonneg (by omega)).symm); (case hlt => first | omega | assumption); (case hv => rfl); (case hn => rfl)) | ((with_reducible apply o_ixArr (j := 0)); (case hx => rfl); (case hy => rfl); (case hj => rfl); (case hlt => first | omega | assumption); (case hn => rfl)) | ((with_reducible apply o_ixArr (j := 1)); (case hx => rfl); (case hy => rfl); (case hj => rfl); (case hlt => first | omega | assumption); (case hn => rfl)) | ((with_reducible apply o_ixArr (j := 2)); (case hx => rfl); (case hy => rfl); (case hj => rfl); (case hlt => first | omega | assumption); (case hn => rfl)) | ((with_reducible apply o_ixArr (j := 3)); (case hx => rfl); (case hy => rfl); (case hj => rfl); (case hlt => first | omega | assumption); (case hn => rfl)))); exact kW trivial) : G := h fun _ => k
theorem Wct {X G : Prop} (k : X) (h : (True → X) → G := by intro kW; (first | (with_reducible refine Tri.region ?_) | (with_reducible refine Tri.nil ?_) | ((with_reducible apply Tri.op); (case hg => rfl)) | (with_reducible refine Tri.thenN ?_) | (with_reducible refine Tri.blockN ?_) | (with_reducible refine Tri.thenR ?_) | (with_reducible refine Tri.blockR ?_) | (with_reducible refine Tri.thenE ?_) | (with_reducible refine Tri.blockE ?_) | ((with_reducible apply Tri.blockE'); (case hne => rfl)) | (with_reducible refine Tri.skip ?_) | (with_reducible refine Tri.exit ?_) | (with_reducible refine Tri.ret ?_) | ((with_reducible apply Tri.condT); (case hc => rfl); (case hb => with_reducible rfl)) | ((with_reducible apply Tri.condF); (case hc => rfl); (case hb => with_reducible rfl)) | ((with_reducible apply Tri.opYes); (case hg => rfl); (case hy => rfl); (case hb => with_reducible rfl)) | ((with_reducible apply Tri.opNo (c := true)); (case hg => rfl); (case hd => rfl); (case hn => rfl); (case hy => rfl); (case hb => with_reducible rfl); (case hc => rfl)) | ((with_reducible apply Tri.opNo (c := false)); (case hg => rfl); (case hd => rfl); (case hn => rfl); (case hy => rfl); (case hb => with_reducible rfl); (case hc => rfl)) | ((with_reducible apply Tri.opNoU); (case hg => rfl); (case hyu => rfl); (case hd => rfl); (case hn => rfl)) | (with_reducible refine TriR.region ?_) | (with_reducible refine TriR.nil ?_) | (with_reducible refine TriR.skip ?_) | (with_reducible refine TriR.exit ?_) | (with_reducible refine TriR.ret ?_) | ((with_reducible apply TriR.op); (case hg => rfl); (case hnd => rfl)) | ((with_reducible apply TriR.condT); (case hc => rfl); (case hb => with_reducible rfl)) | ((with_reducible apply TriR.condF); (case hc => rfl); (case hb => with_reducible rfl)) | ((with_reducible apply TriR.opYes); (case hg => rfl); (case hy => rfl); (case hb => with_reducible rfl); (case hnd => rfl)) | ((with_reducible apply TriR.opNo (c := true)); (case hg => rfl); (case hd => rfl); (case hn => rfl); (case hy => rfl); (case hb => with_reducible rfl); (case hc => rfl)) | ((with_reducible apply TriR.opNo (c := false)); (case hg => rfl); (case hd => rfl); (case hn => rfl); (case hy => rfl); (case hb => with_reducible rfl); (case hc => rfl)) | ((with_reducible apply TriR.opNoU); (case hg => rfl); (case hyu => rfl); (case hd => rfl); (case hn => rfl))); exact kW trivial) : G := h fun _ => k
theorem Ws {X G : Prop} (k : X) (h : (True → X) → G := by intro kW; (repeat (first | (refine Wop ?_) | (refine Wct ?_) | (with_reducible refine Tri.seq ?_) | (with_reducible refine Tri.block ?_) | (with_reducible refine TriR.seq ?_) | (with_reducible refine TriR.block ?_))); exact kW trivial) : G := h fun _ => k
theorem Wr {X G : Prop} (k : X) (h : (True → X) → G := by intro kW; (repeat (first | (refine Wop ?_) | ((with_reducible apply o_store); (case hx => rfl); (case hy => rfl); (case h1 => rfl); (case p => exact Wp); (case hi => (exact Nat.le_of_ble_eq_true rfl))) | (refine Wct ?_) | (with_reducible refine Tri.seq ?_) | (with_reducible refine Tri.block ?_) | (with_reducible refine TriR.seq ?_) | (with_reducible refine TriR.block ?_))); exact kW trivial) : G := h fun _ => k
theorem Wo {X G : Prop} (k : X) (h : (True → X) → G := by intro kW; (repeat (first | (refine Wop ?_) | (refine Wct ?_))); exact kW trivial) : G := h fun _ => k
theorem Wqs {X G : Prop} (k : X) (h : (True → X) → G := by intro kW; (repeat (first | (with_reducible refine TriQ.nil ?_) | ((first | ((with_reducible apply TriQ.op); (case hg => rfl)) | ((with_reducible apply TriQ.opYes); (case hg => rfl); (case hy => rfl); (case hb => with_reducible rfl))); (case hd => rfl); (case hn => rfl); (case h => (intro K hK; (refine Wop ?_); exact hK))) | ((with_reducible apply TriQ.opNo (c := true)); (case hg => rfl); (case hy => rfl); (case hb => with_reducible rfl); (case hc => rfl); (case hd => rfl); (case hn => rfl)) | ((with_reducible apply TriQ.opNo (c := false)); (case hg => rfl); (case hy => rfl); (case hb => with_reducible rfl); (case hc => rfl); (case hd => rfl); (case hn => rfl)) | ((with_reducible apply TriQ.opNoU); (case hg => rfl); (case hyu => rfl); (case hd => rfl); (case hn => rfl)))); exact kW trivial) : G := h fun _ => k
theorem Wap {X G : Prop} (k : X) (h : (True → X) → G := by intro kW; (try dsimp only [cA, nA]); exact kW trivial) : G := h fun _ => k
def Qs (is : List Nat) (X G : Prop) : Prop := (True → X) → G
theorem Qs.nil {X : Prop} : Qs [] X X := fun k => k trivial
section
variable {ops : Array Oper} {Hs F : List Atom} {m : Nat} {ls : Array Bool} {i : Nat} {is : List Nat} {X : Prop} {v : Value} {j : Nat} {b b' c : Bool}
theorem Qs.q (ho : ops.toList[i]? = some o) (hg : o.guard = none) (hB : takeB ops ls i = true) (hd : o.dst = some d) (hn : Nat.blt d n = true) (h : ∀ (F : List Atom) (K : Act → World → Prop), Tri w0 K n ((d, v) :: L) (Hs ++ F) → Tri w0 (OpG P o K (fun _ _ _ => False)) n L (Hs ++ F)) (k : Qs is X (TriM P w0 ops Q Hs m (ls.setIfInBounds i true) n ((d, v) :: L) F)) : Qs (i :: is) X (TriM P w0 ops Q Hs (m + 1) ls n L F) := fun x => TriM.q i ho hg hB hd hn h (k x)
theorem Qs.y (ho : ops.toList[i]? = some o) (hg : o.guard = some (j, b)) (hyl : yl L ops j = some b') (hb : b' = b) (hB : takeB ops ls i = true) (hd : o.dst = some d) (hn : Nat.blt d n = true) (h : ∀ (F : List Atom) (K : Act → World → Prop), Tri w0 K n ((d, v) :: L) (Hs ++ F) → Tri w0 (OpG P o K (fun _ _ _ => False)) n L (Hs ++ F)) (k : Qs is X (TriM P w0 ops Q Hs m (ls.setIfInBounds i true) n ((d, v) :: L) F)) : Qs (i :: is) X (TriM P w0 ops Q Hs (m + 1) ls n L F) := fun x => TriM.qYes i ho hg hyl hb hB hd hn h (k x)
theorem Qs.no (ho : ops.toList[i]? = some o) (hg : o.guard = some (j, b)) (hyl : yl L ops j = some b') (hb : b' = c) (hc : (c != b) = true) (hB : takeB ops ls i = true) (hd : o.dst = some d) (hn : Nat.blt d n = true) (k : Qs is X (TriM P w0 ops Q Hs m (ls.setIfInBounds i true) n ((d, undef) :: L) F)) : Qs (i :: is) X (TriM P w0 ops Q Hs (m + 1) ls n L F) := fun x => TriM.qNo (c := c) i ho hg hyl hb hc hB hd hn (k x)
theorem Qs.u (ho : ops.toList[i]? = some o) (hg : o.guard = some (j, b)) (hyu : yu L ops j = true) (hB : takeB ops ls i = true) (hd : o.dst = some d) (hn : Nat.blt d n = true) (k : Qs is X (TriM P w0 ops Q Hs m (ls.setIfInBounds i true) n ((d, undef) :: L) F)) : Qs (i :: is) X (TriM P w0 ops Q Hs (m + 1) ls n L F) := fun x => TriM.qNoU i ho hg hyu hB hd hn (k x)
theorem Wq (is : List Nat) {X G : Prop} (k : X) (h : Qs is X G := by (repeat (first | ((first | ((with_reducible apply Qs.q); (case ho => rfl); (case hg => rfl)) | ((with_reducible apply Qs.y); (case ho => rfl); (case hg => rfl); (case hyl => rfl); (case hb => with_reducible rfl))); (case hB => kernel_rfl); (case hd => rfl); (case hn => rfl); (case h => (intro F K hK; (try dsimp only [cA, nA]); (refine Wop ?_); exact hK))) | ((with_reducible apply Qs.no (c := true)); (case ho => rfl); (case hg => rfl); (case hyl => rfl); (case hb => with_reducible rfl); (case hc => rfl); (case hB => kernel_rfl); (case hd => rfl); (case hn => rfl)) | ((with_reducible apply Qs.no (c := false)); (case ho => rfl); (case hg => rfl); (case hyl => rfl); (case hb => with_reducible rfl); (case hc => rfl); (case hB => kernel_rfl); (case hd => rfl); (case hn => rfl)) | ((with_reducible apply Qs.u); (case ho => rfl); (case hg => rfl); (case hyu => rfl); (case hB => kernel_rfl); (case hd => rfl); (case hn => rfl)))); exact Qs.nil) : G := h fun _ => k
variable {s : Nat} {Hk : List Atom}
theorem Qn.q (ho : ops.toList[i]? = some o) (hg : o.guard = none) (hB : takeN ops ls s i = true) (hd : o.dst = some d) (hn : Nat.blt d n = true) (h : ∀ (F : List Atom) (K : Act → World → Prop), Tri w0 K n ((d, v) :: L) (Hs ++ F) → Tri w0 (OpG P o K (fun _ _ _ => False)) n L (Hs ++ F)) (k : Qs is X (TriN P w0 ops Q s Hk Hs m (ls.setIfInBounds i true) n ((d, v) :: L) F)) : Qs (i :: is) X (TriN P w0 ops Q s Hk Hs (m + 1) ls n L F) := fun x => TriN.q i ho hg hB hd hn h (k x)
theorem Qn.p (ho : ops.toList[i]? = some o) (hg : o.guard = none) (hB : Gv.takeP ops ls s i = true) (hd : o.dst = some d) (hn : Nat.blt d n = true) (h : ∀ (F : List Atom) (K : Act → World → Prop), Tri w0 K n ((d, v) :: L) (Hk ++ F) → Tri w0 (OpG P o K (fun _ _ _ => False)) n L (Hk ++ F)) (k : Qs is X (TriN P w0 ops Q s Hk Hs m (ls.setIfInBounds i true) n ((d, v) :: L) F)) : Qs (i :: is) X (TriN P w0 ops Q s Hk Hs (m + 1) ls n L F) := fun x => TriN.p i ho hg hB hd hn h (k x)
theorem Wnq (is : List Nat) {X G : Prop} (k : X) (h : Qs is X G := by (repeat ((with_reducible apply Qn.q); (case ho => rfl); (case hg => rfl); (case hB => kernel_rfl); (case hd => rfl); (case hn => rfl); (case h => (intro F K hK; (try dsimp only [cA, nA]); (refine Wop ?_); exact hK)))); exact Qs.nil) : G := h fun _ => k
theorem Wnp (is : List Nat) {X G : Prop} (k : X) (h : Qs is X G := by (repeat ((with_reducible apply Qn.p); (case ho => rfl); (case hg => rfl); (case hB => kernel_rfl); (case hd => rfl); (case hn => rfl); (case h => (intro F K hK; (try dsimp only [cA, nA]); (refine Wop ?_); exact hK)))); exact Qs.nil) : G := h fun _ => k
theorem Zm (i : Nat) (ho : ops.toList[i]? = some o := by rfl) (hg : (match o.guard with | none => true | some (j, b) => (match yl L ops j with | some b' => b' == b | none => false)) = true := by rfl) (hB : takeB ops ls i = true := by kernel_rfl) (hd : o.dst = some d := by rfl) (hn : Nat.blt d n = true := by rfl) (h : ∀ (F : List Atom) (K : Act → World → Prop), Tri w0 K n ((d, v) :: L) (Hs ++ F) → Tri w0 (OpG P o K (fun _ _ _ => False)) n L (Hs ++ F)) (k : TriM P w0 ops Q Hs m (ls.setIfInBounds i true) n ((d, v) :: L) F) : TriM P w0 ops Q Hs (m + 1) ls n L F := by
  cases hgu : o.guard with
  | none => exact TriM.q i ho hgu hB hd hn h k
  | some jb =>
    obtain ⟨j, b⟩ := jb
    cases hy : yl L ops j with
    | none => rw [hgu] at hg; simp [hy] at hg
    | some b' =>
      rw [hgu] at hg
      simp [hy] at hg
      exact TriM.qYes i ho hgu hy hg hB hd hn h k
theorem Zn (i : Nat) (ho : ops.toList[i]? = some o := by rfl) (hg : o.guard = none := by rfl) (hB : takeN ops ls s i = true := by kernel_rfl) (hd : o.dst = some d := by rfl) (hn : Nat.blt d n = true := by rfl) (h : ∀ (F : List Atom) (K : Act → World → Prop), Tri w0 K n ((d, v) :: L) (Hs ++ F) → Tri w0 (OpG P o K (fun _ _ _ => False)) n L (Hs ++ F)) (k : TriN P w0 ops Q s Hk Hs m (ls.setIfInBounds i true) n ((d, v) :: L) F) : TriN P w0 ops Q s Hk Hs (m + 1) ls n L F := TriN.q i ho hg hB hd hn h k
variable {HK : List Atom}
theorem Wal {α : Type} {a b c : List α} (h : a ++ b = c := by first | (dsimp only [cA, nA] <;> exact rfl) | exact rfl) : a ++ b = c := h
theorem ZA (i : Nat) (h : Tri w0 (OpG P o (MixK P w0 ops Q Hs m (ls.setIfInBounds i true)) (fun _ _ _ => False)) n L HK) (ho : ops.toList[i]? = some o := by rfl) (hg : o.guard = none := by rfl) (hr : Nat.beq (Region.ready .any ops ls).length 1 && (Region.ready .any ops ls).contains i = true := by kernel_rfl) (hH : Hs ++ F = HK := by exact Wal) : TriM P w0 ops Q Hs (m + 1) ls n L F := TriM.a (i := i) (ho := ho) (hg := hg) (hr := hr) (h := by rw [hH]; exact h)
theorem ZAy (i : Nat) (h : Tri w0 (OpG P o (MixK P w0 ops Q Hs m (ls.setIfInBounds i true)) (fun _ _ _ => False)) n L HK) (ho : ops.toList[i]? = some o := by rfl) (hg : o.guard = some (j, b) := by rfl) (hyl : yl L ops j = some b' := by rfl) (hb : b' = b := by with_reducible rfl) (hr : decide (Region.ready .any ops ls = [i]) = true := by kernel_rfl) (hH : Hs ++ F = HK := by exact Wal) : TriM P w0 ops Q Hs (m + 1) ls n L F := TriM.aY (i := i) (ho := ho) (hg := hg) (hyl := hyl) (hb := hb) (hr := hr) (h := by rw [hH]; exact h)
theorem ZA2 (i j : Nat) {oi oj : Oper} (hi : Tri w0 (OpG P oi (MixK P w0 ops Q Hs m (ls.setIfInBounds i true)) (fun _ _ _ => False)) n L HK) (hj : Tri w0 (OpG P oj (MixK P w0 ops Q Hs m (ls.setIfInBounds j true)) (fun _ _ _ => False)) n L HK) (hoi : ops.toList[i]? = some oi := by rfl) (hoj : ops.toList[j]? = some oj := by rfl) (hgi : oi.guard = none := by rfl) (hgj : oj.guard = none := by rfl) (hr : decide (Region.ready .any ops ls = [i, j]) = true := by kernel_rfl) (hH : Hs ++ F = HK := by exact Wal) : TriM P w0 ops Q Hs (m + 1) ls n L F := TriM.a2 i j hoi hoj hgi hgj hr (by rw [hH]; exact hi) (by rw [hH]; exact hj)
theorem Zw (h : TriM P w0 ops Q Hs m ls n L F) (p : Pulls H Hs F := by exact Wps) : Tri w0 (MixK P w0 ops Q Hs m ls) n L H := TriM.back p h
theorem ZE (h : Tri w0 (Q .normal) n L HK) (hr : (Region.ready .any ops ls).isEmpty = true := by kernel_rfl) (hH : Hs ++ F = HK := by exact Wal) : TriM P w0 ops Q Hs 0 ls n L F := TriM.nil hr (by rw [hH]; exact h)
theorem Znl (h : Tri w0 (OpG P o (MixK P w0 ops Q Hk m (ls.setIfInBounds s true)) (fun _ _ _ => False)) n L HK) (ho : ops.toList[s]? = some o := by rfl) (hg : o.guard = none := by rfl) (hr : decide (Region.ready .any ops ls = [s]) = true := by kernel_rfl) (hH : Hs ++ F = HK := by exact Wal) : TriN P w0 ops Q s Hk Hs (m + 1) ls n L F := TriN.less ho hg hr (by rw [hH]; exact h)
theorem Zna (i : Nat) (h : Tri w0 (OpG P o (MixN P w0 ops Q s Hk Hs m (ls.setIfInBounds i true)) (fun _ _ _ => False)) n L HK) (ho : ops.toList[i]? = some o := by rfl) (hg : o.guard = none := by rfl) (hr : decide (Region.ready .any ops ls = [i]) && (!(i == s) && !(ls.getD s false)) = true := by kernel_rfl) (hH : Hs ++ F = HK := by exact Wal) : TriN P w0 ops Q s Hk Hs (m + 1) ls n L F := TriN.a i ho hg hr (by rw [hH]; exact h)
theorem Znb (h : TriN P w0 ops Q s Hk Hs m ls n L F) (hp : ∃ X, Hs = Hk ++ X := by exact ⟨_, rfl⟩) (p : Pulls H Hs F := by exact Wps) : Tri w0 (MixN P w0 ops Q s Hk Hs m ls) n L H := TriN.back hp p h
end
def AtH (Hs : List Atom) (X G : Prop) : Prop := (True → X) → G
theorem AtH.m {Hs F : List Atom} {id mm : Nat} {l : List Oper} [hm : TMixed P] (p : Pulls H Hs F) (hl : l.length = mm) : AtH Hs (TriM P w0 l.toArray Q Hs mm (Array.replicate mm false) n L F) (Tri w0 ((Code.region id l.toArray true).wp P Q) n L H) := fun h => Tri.mix Hs p (by rw [hl]; exact h trivial)
theorem AtH.r {Hs F : List Atom} {id mm : Nat} {l : List Oper} [hm : TMixed P] (p : Pulls H Hs F) (hnd : l.all nodefer = true) (hl : l.length = mm) : AtH Hs (TriM P w0 l.toArray Q Hs mm (Array.replicate mm false) n L F) (Tri w0 (Code.wr rO P (Code.region id l.toArray true) Q) n L H) := fun h => TriR.mix Hs p hnd (by rw [hl]; exact h trivial)
theorem Wm (Hs : List Atom) {X G : Prop} (k : X) (h : AtH Hs X G := by (first | with_reducible apply AtH.m | ((with_reducible apply AtH.r); (case hnd => rfl))); (case p => exact Wps); (case hl => first | (dsimp only [List.length] <;> exact rfl) | exact rfl)) : G := h fun _ => k
theorem Znm (s : Nat) (Hk Hs : List Atom) {id mm : Nat} {l : List Oper} {F : List Atom} [hm : TMixed P] (h : TriN P w0 l.toArray Q s Hk Hs mm (Array.replicate mm false) n L F) (hp : ∃ X, Hs = Hk ++ X := by exact ⟨_, rfl⟩) (p : Pulls H Hs F := by exact Wps) (hl : l.length = mm := by first | (dsimp only [List.length] <;> exact rfl) | exact rfl) : Tri w0 ((Code.region id l.toArray true).wp P Q) n L H := Tri.mixN s Hk Hs hp p (by rw [hl]; exact h)
theorem Zag {α : Type} {m : α → Nat} {Lx : α → Slots} {Hx : α → List Atom} {mx : Nat} (y : α) (hL : SubL L (Lx y) := by exact Wsl) (p : Pulls H (Hx y) R := by (try dsimp only); exact Wps) (hm : m y < mx := by (try dsimp only); omega) : Tri w0 (fun a w => ∃ y, m y < mx ∧ Has a n (Lx y) ∧ St w0 w (Hx y)) n L H := Tri.again y hm hL p
theorem Zrc {α : Type} {Lx : α → Slots} {Hx : α → List Atom} (y : α) (hL : SubL L (Lx y) := by exact Wsl) (p : Pulls H (Hx y) R := by (try dsimp only); exact Wps) : Tri w0 (fun a w => ∃ y, Has a n (Lx y) ∧ St w0 w (Hx y)) n L H := Tri.reach y hL p
section
variable {α : Type} (m : α → Nat) (Lx : α → Slots) (Hx : α → List Atom) (x0 : α)
def AtL {α : Type} (m : α → Nat) (Lx : α → Slots) (Hx : α → List Atom) (x0 : α) (X G : Prop) : Prop := (True → X) → G
theorem AtL.l {c : Code} (hL : SubL L (Lx x0)) (hH : ∀ w, St w0 w H → St w0 w (Hx x0)) : AtL m Lx Hx x0 (∀ x mx, mx = m x → Tri w0 (c.wp P (Exit.then (fun a w => ∃ y, m y < mx ∧ Has a n (Lx y) ∧ St w0 w (Hx y)) Q)) n (Lx x) (Hx x)) (Tri w0 ((Code.loop c).wp P Q) n L H) := fun h => Tri.loop m Lx Hx x0 hL hH (h trivial)
theorem AtL.r {c : Code} (hL : SubL L (Lx x0)) (hH : ∀ w, St w0 w H → St w0 w (Hx x0)) : AtL m Lx Hx x0 (∀ x mx, mx = m x → Tri w0 (Code.wr rO P c (Exit.then (fun a w => ∃ y, m y < mx ∧ Has a n (Lx y) ∧ St w0 w (Hx y)) Q)) n (Lx x) (Hx x)) (Tri w0 (Code.wr rO P (Code.loop c) Q) n L H) := fun h => TriR.loop m Lx Hx x0 hL hH (h trivial)
theorem Wl {X G : Prop} (k : X) (h : AtL m Lx Hx x0 X G := by (first | with_reducible apply AtL.l | with_reducible apply AtL.r); (case hL => exact Wsl); (case hH => ((try dsimp only); apply St.all; exact Wps))) : G := h fun _ => k
end
def AtS {α : Type} (Lx : α → Slots) (Hx : α → List Atom) (X Y G : Prop) : Prop := (True → X) → (True → Y) → G
theorem AtS.m {α : Type} {c e : Code} {Lx : α → Slots} {Hx : α → List Atom} : AtS Lx Hx (Tri w0 (c.wp P (Exit.then (fun a w => ∃ y, Has a n (Lx y) ∧ St w0 w (Hx y)) Q)) n L H) (∀ x, Tri w0 (e.wp P Q) n (Lx x) (Hx x)) (Tri w0 ((Code.seq c e).wp P Q) n L H) := fun h1 h2 => Tri.seqMeet Lx Hx (h1 trivial) (h2 trivial)
theorem AtS.r {α : Type} {c e : Code} {Lx : α → Slots} {Hx : α → List Atom} : AtS Lx Hx (Tri w0 (Code.wr rO P c (Exit.then (fun a w => ∃ y, Has a n (Lx y) ∧ St w0 w (Hx y)) Q)) n L H) (∀ x, Tri w0 (Code.wr rO P e Q) n (Lx x) (Hx x)) (Tri w0 (Code.wr rO P (Code.seq c e) Q) n L H) := fun h1 h2 => TriR.seqMeet Lx Hx (h1 trivial) (h2 trivial)
def At2 (X Y G : Prop) : Prop := (True → X) → (True → Y) → G
theorem Wcd {X Y G : Prop} (x : X) (y : Y) (h : At2 X Y G := by (intro kX kY; first | (with_reducible apply Tri.condD) | (with_reducible apply TriR.condD)); (case hc => rfl); (case ht => exact kX trivial); (case hf => exact kY trivial)) : G := h (fun _ => x) (fun _ => y)
theorem Wcb {X Y G : Prop} (x : X) (y : Y) (h : At2 X Y G := by (intro kX kY; first | (with_reducible apply Tri.cond) | (with_reducible apply TriR.cond)); (case hc => rfl); (case ht => exact kX trivial); (case hf => exact kY trivial)) : G := h (fun _ => x) (fun _ => y)
theorem ZcB (k : Nat) {b : Bool} (ht : b = true → Tri w0 G n ((k, .bool true) :: L) H) (hf : b = false → Tri w0 G n ((k, .bool false) :: L) H) (h : look L k = some (.bool b) := by rfl) : Tri w0 G n L H := Tri.casesB k h ht hf
theorem Wbx {X G : Prop} (k : X) (h : (True → X) → G := by intro kW; (first | ((with_reducible apply o_boxA); (case hx => rfl); (case hn => rfl)) | ((with_reducible apply o_box1); (case hx => rfl); (case h1 => rfl); (case hn => rfl))); exact kW trivial) : G := h fun _ => k
theorem Zd {f : FuncId} {args : List Operand} {ts : Array TypeId} {vs : List Value} {Pre HL HK : List Atom} {V : Value} [TFn P f] (hs : Spec P f vs.toArray Pre (fun r H' => r = V ∧ H' = HL)) (k : Tri w0 K n ((d, V) :: L) HK) (hargs : evs L args vs := by exact Wev) (p : Pulls H Pre H' := by exact Wps) (hn : Nat.blt d n = true := by rfl) (hH : HL ++ H' = HK := by exact Wal) : Tri w0 (OpG P ⟨some d, .call { callee := .value (.func f), args := args.toArray, argTypes := ts }, ty, pos, aft, g⟩ K Q) n L H :=
  o_callS hs hargs p hn (fun v Hq hq => by obtain ⟨rfl, rfl⟩ := hq; rw [hH]; exact k)
theorem Wres {rs : List ResultVar} {vs : List Value} (h : ResL P L H rs vs := by first | exact ResL.cons (Res1.tmp rfl) ResL.nil | exact ResL.cons (Res1.tmp rfl) (ResL.cons (Res1.tmp rfl) ResL.nil) | exact ResL.nil | exact ResL.cons (Res1.tmp rfl) (ResL.cons (Res1.tmp rfl) (ResL.cons (Res1.tmp rfl) ResL.nil)) | (repeat (first | exact ResL.nil | (apply ResL.cons; (case a => (first | exact Res1.tmp rfl | (apply Res1.cell; rfl; exact Wp; rfl) | (apply Res1.agg; rfl; exact Wp; rfl; rfl))))))) : ResL P L H rs vs := h
theorem Zat (A B : Atom) (k : Tri w0 G n L (B :: H')) (p : Pull H A H' := by exact Wp) (e : A = B := by rfl) : Tri w0 G n L H := Tri.eqA p e k
theorem Zqo {ops : Array Oper} {rest : List Oper} {v : Value} (hg : (match o.guard with | none => true | some (j, b) => (match yl L ops j with | some b' => b' == b | none => false)) = true := by rfl) (hd : o.dst = some d := by rfl) (hn : Nat.blt d n = true := by rfl) (h : ∀ K : Act → World → Prop, Tri w0 K n ((d, v) :: L) H → Tri w0 (OpG P o K (fun _ _ _ => False)) n L H) (k : TriQ P w0 ops Q rest n ((d, v) :: L) H) : TriQ P w0 ops Q (o :: rest) n L H := by
  cases hgu : o.guard with
  | none => exact TriQ.op hgu hd hn h k
  | some jb =>
    obtain ⟨j, b⟩ := jb
    cases hy : yl L ops j with
    | none => rw [hgu] at hg; simp [hy] at hg
    | some b' =>
      rw [hgu] at hg
      simp [hy] at hg
      exact TriQ.opYes hgu hy hg hd hn h k
theorem Zfn {m : Nat} {fn : Func} {rs : List ResultVar} {vs : List Value} {Rr : Value → List Atom → Prop} {F R : List Atom} {e : Exit} (Hn : List Atom) (hr : fn.results = rs.toArray := by rfl) (he : e = .ret ∨ e = .normal := by first | exact .inl rfl | exact .inr rfl) (h : ResL P L H rs vs := by exact Wres) (p : Pulls H (Hn ++ F) R := by exact Wps) (hq : Rr (tupled vs) Hn) : Tri w0 (bodyPost P fn (Ret (fun v w' => ∃ H', Rr v H' ∧ St w0 w' (H' ++ F))) e) ⟨m, []⟩ L H := by
  rcases he with rfl | rfl
  · exact Tri.fin hr h (fin_R (Rr := Rr (tupled vs)) p hq)
  · exact Tri.finN hr h (fin_R (Rr := Rr (tupled vs)) p hq)
theorem Zfr {m : Nat} {fn : Func} {rs : List ResultVar} {vs : List Value} {V : Value} {F R : List Atom} {e : Exit} (hr : fn.results = rs.toArray := by rfl) (he : e = .ret ∨ e = .normal := by first | exact .inl rfl | exact .inr rfl) (h : ResL P L H rs vs := by exact Wres) (p : Pulls H ([] ++ F) R := by exact Wps) (hq : tupled vs = V) : Tri w0 (bodyPost P fn (Ret (fun v w' => ∃ H', (v = V ∧ H' = []) ∧ St w0 w' (H' ++ F))) e) ⟨m, []⟩ L H := Zfn [] hr he h p ⟨hq, rfl⟩
theorem Zra {p : Tmp} {T T' : TypeId} {b sz : Nat} {ys : List Value} [TAgg P T sz] (hl : ys.length = sz) (h1 : look L p = some (.pointer (some ⟨b, 0, none⟩)) := by rfl) (q : Pull H (blk b T' ys) H' := by exact Wp) : Res1 P L H (.cell p T) (.agg ys.toArray) := Res1.agg h1 q (by rw [List.drop_zero]; exact List.take_of_length_le (Nat.le_of_eq hl)) hl
end
end Go.Gv
end
