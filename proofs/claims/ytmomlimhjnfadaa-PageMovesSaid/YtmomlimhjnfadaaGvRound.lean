/- Bodies of loops over functions (rounds), and functions that call yield: the rules of control, over the kit's fenced walk with no fence. -/
import Derived.Test.YtmomlimhjnfadaaGvMix3
import Derived.Test.YtmomlimhjnfadaaGvSpec
import Derived.RangeFuncRecord
import Derived.OrdersIn
import Derived.RangeFuncSeq
namespace Go.Gv
open Go Go.RowKit
set_option linter.unusedVariables false
set_option linter.unusedSimpArgs false

/-- no fence; in a round or not -/
def FR (ro : Option Nat) : Fence := { fn := fun _ => True, depth := none, alive := false, round := ro }
theorem FR_none : FR none = Fence.wide := rfl
theorem FR_room (ro : Option Nat) (k : Nat) : (FR ro).room k := fun _ h => by cases h

/-- code, in a round or not -/
def Code.wr (ro : Option Nat) (P : Program) (c : Code) (Q : Exit → Act → World → Prop) : Act → World → Prop := c.wpIn (FR ro) 0 P Q

section
variable {P : Program} {w0 : World} {n : NT} {L : Slots} {H : List Atom} {Q : Exit → Act → World → Prop} {G : Act → World → Prop} {ro : Option Nat}

theorem Tri.wr {c : Code} (h : Tri w0 (Code.wr none P c Q) n L H) : Tri w0 (c.wp P Q) n L H := fun a w ha hw => wpIn_wide.1 (h a w ha hw)
theorem TriR.seq {c d : Code} (h : Tri w0 (Code.wr ro P c (Exit.then (Code.wr ro P d Q) Q)) n L H) : Tri w0 (Code.wr ro P (Code.seq c d) Q) n L H := fun a w ha hw => wpIn_seq (h a w ha hw)
theorem TriR.block {id : Nat} {c : Code} (h : Tri w0 (Code.wr ro P c (Exit.inBlock id Q)) n L H) : Tri w0 (Code.wr ro P (Code.block id c) Q) n L H := fun a w ha hw => wpIn_block (h a w ha hw)
theorem TriR.skip (h : Tri w0 (Q .normal) n L H) : Tri w0 (Code.wr ro P Code.skip Q) n L H := fun a w ha hw => wpIn_skip (h a w ha hw)
theorem TriR.exit {id : Nat} (h : Tri w0 (Q (.exit id)) n L H) : Tri w0 (Code.wr ro P (Code.exit id) Q) n L H := fun a w ha hw => wpIn_exit (h a w ha hw)
theorem TriR.ret (h : Tri w0 (Q .ret) n L H) : Tri w0 (Code.wr ro P Code.ret Q) n L H := fun a w ha hw => wpIn_ret (h a w ha hw)
theorem TriR.cond {c : Operand} {x y : Code} {b : Bool} (hc : ev L c = .some (.bool b)) (ht : b = true → Tri w0 (Code.wr ro P x Q) n L H) (hf : b = false → Tri w0 (Code.wr ro P y Q) n L H) : Tri w0 (Code.wr ro P (Code.cond c x y) Q) n L H := fun a w ha hw =>
  wpIn_cond_split (ha.eval hc) (fun e => ht e a w ha hw) (fun e => hf e a w ha hw)
theorem TriR.condD {c : Operand} {x y : Code} {p : Prop} {dp : Decidable p} (hc : ev L c = .some (.bool (@decide p dp))) (ht : p → Tri w0 (Code.wr ro P x Q) n L H) (hf : ¬ p → Tri w0 (Code.wr ro P y Q) n L H) : Tri w0 (Code.wr ro P (Code.cond c x y) Q) n L H :=
  TriR.cond hc (fun e => ht (of_decide_eq_true e)) (fun e => hf (of_decide_eq_false e))
theorem TriR.condT {c : Operand} {x y : Code} {b : Bool} (hc : ev L c = .some (.bool b)) (hb : b = true) (h : Tri w0 (Code.wr ro P x Q) n L H) : Tri w0 (Code.wr ro P (Code.cond c x y) Q) n L H := TriR.cond hc (fun _ => h) (fun e => by rw [hb] at e; cases e)
theorem TriR.condF {c : Operand} {x y : Code} {b : Bool} (hc : ev L c = .some (.bool b)) (hb : b = false) (h : Tri w0 (Code.wr ro P y Q) n L H) : Tri w0 (Code.wr ro P (Code.cond c x y) Q) n L H := TriR.cond hc (fun e => by rw [hb] at e; cases e) (fun _ => h)
theorem TriR.loop {α : Type} {c : Code} (m : α → Nat) (Lx : α → Slots) (Hx : α → List Atom) (x0 : α) (hL : SubL L (Lx x0)) (hH : ∀ w, St w0 w H → St w0 w (Hx x0))
    (h : ∀ x mx, mx = m x → Tri w0 (Code.wr ro P c (Exit.then (fun a w => ∃ y, m y < mx ∧ Has a n (Lx y) ∧ St w0 w (Hx y)) Q)) n (Lx x) (Hx x)) : Tri w0 (Code.wr ro P (Code.loop c) Q) n L H := fun a w ha hw => by
  intro b k cs hro hb hr
  have key : ∀ q x, m x = q → ∀ a w, Has a n (Lx x) → St w0 w (Hx x) →
      ∃ e a' w', Q e a' w' ∧ ArrivesIn (Machine.fenced P (FR ro)) P (lone (b.atR a (.code c :: .inLoop c :: k)) cs w) b k cs e a' w' := by
    intro q
    induction q using Nat.strongRecOn with
    | _ q ih =>
      intro x hx a w ha hw
      obtain ⟨e, a1, w1, hq, harr⟩ := h x (m x) rfl a w ha hw b (.inLoop c :: k) cs hro hb hr
      cases e with
      | normal =>
        obtain ⟨y, hlt, hb', hc⟩ := hq
        obtain ⟨e2, a2, w2, hq2, harr2⟩ := ih (m y) (by omega) y rfl a1 w1 hb' hc
        exact ⟨e2, a2, w2, hq2, .of_steps (StepsIn.trans harr (.one (fenced_calm hb hr rfl) stepR_inLoop)) harr2⟩
      | exit id => exact ⟨_, a1, w1, hq, .pass (x := .inLoop c) rfl (fun _ _ => .inl (by simp)) harr⟩
      | goto l => exact ⟨_, a1, w1, hq, .pass (x := .inLoop c) rfl (fun _ _ => .inl (by simp)) harr⟩
      | ret => exact ⟨_, a1, w1, hq, .pass (x := .inLoop c) rfl (fun _ _ => .inl (by simp)) harr⟩
      | panic ch => exact ⟨_, a1, w1, hq, .pass (x := .inLoop c) rfl (fun _ _ => .inl (by simp)) harr⟩
      | outgrown => exact ⟨_, a1, w1, hq, .pass (x := .inLoop c) rfl (fun _ _ => .inl (by simp)) harr⟩
  obtain ⟨e, a', w', hq, harr⟩ := key _ x0 rfl a w (ha.sub hL) (hH w hw)
  exact ⟨e, a', w', hq, .of_steps (.one (fenced_calm hb hr rfl) stepR_loop) harr⟩

/-! operations -/
theorem rowsIn_FR {row : String} {args : Array Value} {w : World} {R : Value → World → Prop} (h : Rows P row args w R) : RowsIn (FR ro) 0 P row args w R := fun c cs _ => by
  obtain ⟨v, w', r, s⟩ := h c cs
  exact ⟨v, w', r, (stepsIn_wide (P := P)).2 s⟩
theorem callsIn_FR {f : FuncId} {args : Array Value} {w : World} {R : Ending → World → Prop} (h : Calls P f args w R) : CallsIn (FR ro) 0 P f args w R := (callsIn_wide (n := 0)).2 h
/-- an operation that is no deferred call goes in a round as elsewhere -/
theorem wpIn_of_wp {o : Oper} {a : Act} {w : World} {K : Act → World → Prop} (hd : ∀ c, o.op ≠ .defer c) (h : o.wp P a w K (fun _ _ _ => False)) : o.wpIn (FR ro) 0 P a w K Q := by
  refine ⟨fun _ _ => trivial, ?_⟩
  rw [Oper.semAt_eq _ _ _ hd]
  unfold Oper.wp at h
  generalize (execOp a.eval o).run P w = r at h
  cases r with
  | halt x w' => cases x <;> exact h.elim
  | ok nx w' =>
    cases nx with
    | value u => exact h
    | skip => exact h
    | defer d => exact h
    | enter f args =>
      refine ⟨fun hd => (nomatch hd), CallsIn.mono (callsIn_FR h) ?_⟩
      intro e w'' he
      cases e with
      | returned u => exact he
      | panicked c => exact he.elim
      | outgrown => obtain ⟨_, _, he⟩ := he; exact he.elim
    | row r args => exact ⟨fun hd => (nomatch hd), rowsIn_FR h⟩
    | _ => exact h.elim
/-- the operations of a region in a row -/
def wlr (ro : Option Nat) (P : Program) (ops : Array Oper) (Q : Exit → Act → World → Prop) : List Oper → Act → World → Prop
  | [], a, w => Q .normal a w
  | o :: rest, a, w => if Region.wanted o (yielded ops a.tmps) = true then o.wpIn (FR ro) 0 P a w (wlr ro P ops Q rest) Q else wlr ro P ops Q rest (a.put o.dst undef) w
theorem wlr_ops {ops : Array Oper} : ∀ (rest : List Oper) (k : Nat) (a : Act) (w : World), ops.toList.drop k = rest → wlr ro P ops Q rest a w → wpOpsIn (FR ro) 0 P ops Q (List.range' k rest.length) a w
  | [], k, a, w, _, h => h
  | o :: rest, k, a, w, hk, h => by
    have hlt : k < ops.toList.length := by
      have := congrArg List.length hk
      simp at this ⊢; omega
    have ho : ops[k]? = some o := by
      rw [← Array.getElem?_toList, ← Nat.add_zero k, ← List.getElem?_drop, hk]; rfl
    have hk' : ops.toList.drop (k + 1) = rest := by
      rw [List.drop_eq_getElem_cons hlt] at hk
      exact (List.cons.inj hk).2
    rw [List.length_cons, List.range'_succ]
    simp only [wpOpsIn, ho]
    unfold wlr at h
    split
    · rename_i hw
      rw [if_pos hw] at h
      exact Oper.wpIn_mono (fun a' w' => wlr_ops rest (k + 1) a' w' hk') h
    · rename_i hw
      rw [if_neg hw] at h
      exact ⟨fun _ _ => trivial, wlr_ops rest (k + 1) _ w hk' h⟩
theorem TriR.region {id : Nat} {l : List Oper} (h : Tri w0 (wlr ro P l.toArray Q l) n L H) : Tri w0 (Code.wr ro P (Code.region id l.toArray false) Q) n L H := fun a w ha hw => by
  refine wpIn_region ?_
  have := wlr_ops l 0 a w rfl (h a w ha hw)
  rw [← List.range_eq_range'] at this
  simpa using this
theorem TriR.nil {ops : Array Oper} (h : Tri w0 (Q .normal) n L H) : Tri w0 (wlr ro P ops Q []) n L H := h
/-- no deferred call -/
def nodefer (o : Oper) : Bool := match o.op with | .defer _ => false | .call { callee := .value (.tmp _), .. } => false | _ => true
theorem nodefer_spec {o : Oper} (h : nodefer o = true) : ∀ c, o.op ≠ .defer c := fun c e => by simp [nodefer, e] at h
theorem opG_of {o : Oper} {a : Act} {w : World} {K : Act → World → Prop} (hnd : nodefer o = true) (h : OpG P o K (fun _ _ _ => False) a w) : o.wpIn (FR ro) 0 P a w K Q := by
  rcases h with h | ⟨_, _, _, h⟩
  · exact wpIn_of_wp (nodefer_spec hnd) h
  · exact h.elim
theorem TriR.op {ops : Array Oper} {o : Oper} {rest : List Oper} (hg : o.guard = none) (hnd : nodefer o = true) (h : Tri w0 (OpG P o (wlr ro P ops Q rest) (fun _ _ _ => False)) n L H) : Tri w0 (wlr ro P ops Q (o :: rest)) n L H := fun a w ha hw => by
  unfold wlr
  rw [if_pos (by simp [Region.wanted, hg])]
  exact opG_of hnd (h a w ha hw)
/-- a call of a function value that isn't a yield -/
theorem TriR.opC {ops : Array Oper} {o : Oper} {c : Call} {rest : List Oper} (hg : o.guard = none) (hc : o.op = .call c) (h : Tri w0 (OpG P o (wlr ro P ops Q rest) (fun _ _ _ => False)) n L H) : Tri w0 (wlr ro P ops Q (o :: rest)) n L H := fun a w ha hw => by
  unfold wlr
  rw [if_pos (by simp [Region.wanted, hg])]
  rcases h a w ha hw with h | ⟨_, _, _, h⟩
  · exact wpIn_of_wp (fun d e => by rw [hc] at e; cases e) h
  · exact h.elim
theorem TriR.opYes {ops : Array Oper} {o : Oper} {rest : List Oper} {j : Nat} {b b' : Bool} (hg : o.guard = some (j, b)) (hy : yl L ops j = some b') (hb : b' = b) (hnd : nodefer o = true) (h : Tri w0 (OpG P o (wlr ro P ops Q rest) (fun _ _ _ => False)) n L H) : Tri w0 (wlr ro P ops Q (o :: rest)) n L H := fun a w ha hw => by
  subst hb
  unfold wlr
  rw [if_pos (by simp [Region.wanted, hg, yl_yielded ha hy])]
  exact opG_of hnd (h a w ha hw)
theorem TriR.opNo {ops : Array Oper} {o : Oper} {rest : List Oper} {j : Nat} {b b' c : Bool} {d : Nat} (hg : o.guard = some (j, b)) (hd : o.dst = some d) (hn : Nat.blt d n = true) (hy : yl L ops j = some b') (hb : b' = c) (hc : (c != b) = true) (h : Tri w0 (wlr ro P ops Q rest) n ((d, undef) :: L) H) : Tri w0 (wlr ro P ops Q (o :: rest)) n L H := fun a w ha hw => by
  subst hb
  have hne : b' ≠ b := by simpa using hc
  unfold wlr
  rw [if_neg (by simp [Region.wanted, hg, yl_yielded ha hy, hne]), hd]
  exact h _ w (ha.put hn _) hw
theorem TriR.opNoU {ops : Array Oper} {o : Oper} {rest : List Oper} {j : Nat} {b : Bool} {d : Nat} (hg : o.guard = some (j, b)) (hyu : yu L ops j = true) (hd : o.dst = some d) (hn : Nat.blt d n = true) (h : Tri w0 (wlr ro P ops Q rest) n ((d, undef) :: L) H) : Tri w0 (wlr ro P ops Q (o :: rest)) n L H := fun a w ha hw => by
  unfold wlr
  rw [if_neg (by rw [yu_wanted ha hg hyu]; simp), hd]
  exact h _ w (ha.put hn _) hw

/-! regions whose order is open, in a round -/
theorem anyIn_of_m {ops : Array Oper} {md : Region.Mode} {DD : WP → Prop} (hnd : ops.toList.all nodefer = true) : ∀ (f : Nat) (listed : Array Bool) (a : Act) (D : WP) (w : World), D w → mAny P md ops DD Q f listed a D → wpAnyIn (FR ro) 0 P md ops Q f listed a w
  | 0, listed, a, D, w, hw, h => ⟨h.1, h.2 w hw⟩
  | f + 1, listed, a, D, w, hw, h => by
    refine ⟨fun h0 => h.1 h0 w hw, fun i hi => ?_⟩
    have hs := h.2 i hi
    unfold mOp at hs
    unfold wpOpIn
    cases ho : ops[i]? with
    | none => simp only [ho] at hs ⊢; exact anyIn_of_m hnd f _ _ _ _ hw hs
    | some o =>
      simp only [ho] at hs ⊢
      have hno : nodefer o = true := by
        rw [← Array.getElem?_toList] at ho
        exact List.all_eq_true.1 hnd o (List.mem_of_getElem? ho)
      by_cases hwt : Region.wanted o (yielded ops a.tmps) = true
      · rw [if_pos hwt] at hs ⊢
        refine Oper.wpIn_mono ?_ (wpIn_of_wp (nodefer_spec hno) (hs w hw))
        rintro a' w' ⟨D', _, hd, hk⟩
        exact anyIn_of_m hnd f _ _ _ _ hd hk
      · rw [if_neg hwt] at hs ⊢
        exact ⟨fun _ _ => trivial, anyIn_of_m hnd f _ _ _ _ hw hs⟩
theorem TriR.mix (Hs : List Atom) {id : Nat} {l : List Oper} {F : List Atom} [hm : TMixed P] (p : Pulls H Hs F) (hnd : l.all nodefer = true) (h : TriM P w0 l.toArray Q Hs l.length (Array.replicate l.length false) n L F) : Tri w0 (Code.wr ro P (Code.region id l.toArray true) Q) n L H := fun a w ha hw => by
  refine wpIn_region_any hm.ok ?_
  have := anyIn_of_m (ro := ro) hnd _ _ _ _ { w with drawn := w.drawn + 1 } ((hw.pulls p).drawn (w.drawn + 1)) (h a ha)
  simp only [List.size_toArray]; exact this
end
end Go.Gv
