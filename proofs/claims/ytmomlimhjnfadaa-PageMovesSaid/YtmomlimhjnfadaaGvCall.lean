/- Functions: contracts, entry, results, frames; slices that are made, cut, appended to and copied. -/
import Derived.Test.YtmomlimhjnfadaaGvMem
namespace Go.Gv
open Go Go.RowKit
set_option linter.unusedVariables false
set_option linter.unusedSimpArgs false

/-! contracts -/
/-- A contract: memory that reads as Pre becomes memory that reads as the answer says; all else stays. -/
def Spec (P : Program) (f : FuncId) (args : Array Value) (Pre : List Atom) (R : Value → List Atom → Prop) : Prop :=
  ∀ w0 w H, St w0 w (Pre ++ H) → Calls P f args w (Ret fun v w' => ∃ H', R v H' ∧ St w0 w' (H' ++ H))
/-- A contract of a function that changes nothing that was there. -/
def SpecR (P : Program) (f : FuncId) (args : Array Value) (Pre : World → Prop) (R : Value → List Atom → Prop) : Prop :=
  ∀ w0 w H, St w0 w H → Pre w → Calls P f args w (Ret fun v w' => ∃ H', R v H' ∧ St w0 w' (H' ++ H))

theorem Sat.exhp {w w' : World} {av : Nat → Prop} {H : List Atom} (h : Sat w' (fun _ => True) (H ++ [Ex (hp w)])) : (∀ b, b < w.heap.size → w'.heap[b]? = w.heap[b]?) ∧ Sat w' (fun b => ¬ b < w.heap.size) H := by
  have key : ∀ (H : List Atom) (av : Nat → Prop), Sat w' av (H ++ [Ex (hp w)]) → (∀ b, b < w.heap.size → w'.heap[b]? = w.heap[b]? ∧ av b) ∧ Sat w' (fun b => av b ∧ ¬ b < w.heap.size) H := by
    intro H
    induction H with
    | nil =>
      intro av h
      obtain ⟨s, h1, h2, _⟩ := h
      have h2' : res w' s = hp w := h2
      refine ⟨fun b hb => ?_, trivial⟩
      have e := congrFun h2' b
      unfold res hp at e
      split at e
      · exact ⟨e, (h1 b ‹_›).1⟩
      · simp [hb] at e
    | cons A H ih =>
      intro av h
      obtain ⟨s, h1, h2, h3⟩ := h
      obtain ⟨g1, g2⟩ := ih _ h3
      refine ⟨fun b hb => ⟨(g1 b hb).1, (g1 b hb).2.1⟩, s, fun b hb => ⟨⟨(h1 b hb).1, fun hl => (g1 b hl).2.2 hb⟩, (h1 b hb).2⟩, h2, g2.mono (fun b _ hb => ⟨⟨hb.1.1, hb.2⟩, hb.1.2⟩)⟩
  obtain ⟨g1, g2⟩ := key H _ h
  exact ⟨fun b hb => (g1 b hb).1, g2.mono (fun b _ hb => hb.2)⟩

theorem St.rebase (w : World) : St w w [Ex (hp w)] := ⟨Env.refl w, fun b => b < w.heap.size, fun b hb => ⟨trivial, hb⟩, by
  show res w _ = hp w
  funext b; unfold res hp; split
  · rfl
  · rename_i h; simp only [] at h; exact (Array.getElem?_eq_none (by omega)).symm, trivial⟩

theorem St.frame {w0 w w' : World} {H H' : List Atom} (h : St w0 w H) (k : St w w' (H' ++ [Ex (hp w)])) : St w0 w' (H' ++ H) := by
  obtain ⟨g1, g2⟩ := Sat.exhp (av := fun _ => True) k.2
  refine ⟨h.1.trans k.1, Sat.append (av1 := fun b => ¬ b < w.heap.size) (av2 := fun b => b < w.heap.size) (fun _ _ => trivial) (fun _ _ => trivial) (fun b h1 h2 => h1 h2) g2 ?_⟩
  exact (Sat.congr (w := w) k.1.size (fun b _ hl => g1 b hl) h.2.lt).mono (fun b _ hb => hb.2)

/-- The way to prove a contract of a function that changes nothing. -/
theorem SpecR.of {P : Program} {f : FuncId} {args : Array Value} {Pre : World → Prop} {R : Value → List Atom → Prop}
    (h : ∀ w, Pre w → Calls P f args w (Ret fun v w' => ∃ H', R v H' ∧ St w w' (H' ++ [Ex (hp w)]))) : SpecR P f args Pre R := fun w0 w H hw hp => by
  refine (h w hp).mono ?_
  intro e w' he
  cases e with
  | returned v => obtain ⟨H', h1, h2⟩ := he; exact ⟨H', h1, hw.frame h2⟩
  | panicked c => exact he.elim
  | outgrown => exact he.elim

/-- what a slice reads as in a world -/
abbrev RdW (w : World) (v : Value) (n : Nat) (xs : List Value) : Prop := Rd (hp w) v n xs

theorem res_hp {w : World} {s : Nat → Prop} : ∀ b o, res w s b = some o → hp w b = some o := fun _ _ h => (res_some h).2

section
variable {P : Program} {w0 : World} {n : NT} {L : Slots} {H H' : List Atom} {Q : Exit → Act → World → Prop} {K : Act → World → Prop} {o : Oper} {d : Nat}
variable {ty : TypeId} {pos : String} {aft : Array Edge} {g : Option (Nat × Bool)}

theorem rdw_own {e : TypeId} {size m : Nat} {v : Value} {xs : List Value} (p : Pull H (own e size v m xs) H') : ∀ w, St w0 w H → RdW w v m xs := fun w hw => by
  obtain ⟨s, hA⟩ := (hw.pull p).2.head
  exact (own_Rd hA).mono res_hp
theorem rdw_ex {h0 : PH} {m : Nat} {v : Value} {xs : List Value} (p : Pull H (Ex h0) H') (hr : Rd h0 v m xs) : ∀ w, St w0 w H → RdW w v m xs := fun w hw => by
  obtain ⟨s, rfl⟩ := St.ex hw p
  exact hr.mono res_hp

/-- arguments that are read off the slots -/
def evs (L : Slots) : List Operand → List Value → Prop
  | [], [] => True
  | x :: xs, v :: vs => ev L x = some v ∧ evs L xs vs
  | _, _ => False
theorem evs.map {a : Act} (ha : Has a n L) : ∀ {xs : List Operand} {vs : List Value}, evs L xs vs → xs.map a.eval = vs
  | [], [], _ => rfl
  | _ :: _, _ :: _, h => by rw [List.map_cons, ha.eval h.1, evs.map ha h.2]
  | [], _ :: _, h => h.elim
  | _ :: _, [], h => h.elim

theorem o_callX {f : FuncId} {args : List Operand} {ts : Array TypeId} {vs : List Value} [TFn P f] (hargs : evs L args vs) (hn : Nat.blt d n = true) {R : Value → List Atom → Prop} {Hf : List Atom}
    (hc : ∀ w, St w0 w H → Calls P f vs.toArray w (Ret fun v w' => ∃ H', R v H' ∧ St w0 w' (H' ++ Hf)))
    (k : ∀ v H', R v H' → Tri w0 K n ((d, v) :: L) (H' ++ Hf)) :
    Tri w0 (OpG P ⟨some d, .call { callee := .value (.func f), args := args.toArray, argTypes := ts }, ty, pos, aft, g⟩ K Q) n L H := fun a w ha hw => by
  refine .inl ?_
  unfold Oper.wp
  have hr : (execOp a.eval ⟨some d, .call { callee := .value (.func f), args := args.toArray, argTypes := ts }, ty, pos, aft, g⟩).run P w = .ok (.enter f vs.toArray) w := by
    have e : Act.eval a (.func f) = .func (.func f) #[] #[] := rfl
    simp [execOp, resolve, Deferred.ofValue, e, invoke, evs.map ha hargs, fn_run (P := P) (f := f)]
  rw [hr, Oper.upon_enter]
  refine (hc w hw).mono ?_
  intro e w' he
  cases e with
  | returned v =>
    obtain ⟨H', h1, h2⟩ := he
    exact k v H' h1 _ w' (ha.put hn v) h2
  | panicked c => exact he.elim
  | outgrown => exact he.elim

theorem o_callR {f : FuncId} {args : List Operand} {ts : Array TypeId} {vs : List Value} {Pre : World → Prop} {R : Value → List Atom → Prop} [TFn P f] (hs : SpecR P f vs.toArray Pre R) (hargs : evs L args vs) (hpre : ∀ w, St w0 w H → Pre w) (hn : Nat.blt d n = true)
    (k : ∀ v H', R v H' → Tri w0 K n ((d, v) :: L) (H' ++ H)) :
    Tri w0 (OpG P ⟨some d, .call { callee := .value (.func f), args := args.toArray, argTypes := ts }, ty, pos, aft, g⟩ K Q) n L H :=
  o_callX hargs hn (fun w hw => hs w0 w H hw (hpre w hw)) k

/-- several atoms out of a list -/
inductive Pulls : List Atom → List Atom → List Atom → Prop
  | nil {H : List Atom} : Pulls H [] H
  | cons {H H1 H2 : List Atom} {A : Atom} {As : List Atom} (a : Pull H A H1) (q : Pulls H1 As H2) : Pulls H (A :: As) H2

theorem Sat.under {w : World} {A : Atom} {H H' : List Atom} (hH : ∀ av, Sat w av H → Sat w av H') : ∀ av, Sat w av (A :: H) → Sat w av (A :: H') := fun av ⟨s, h1, h2, h3⟩ => ⟨s, h1, h2, hH _ h3⟩
theorem Sat.pulls {w : World} : ∀ {H As H' : List Atom}, Pulls H As H' → ∀ av, Sat w av H → Sat w av (As ++ H')
  | _, _, _, .nil, _, h => h
  | _, _, _, .cons p q, av, h => Sat.under (fun av => Sat.pulls q av) av (h.pull p)
theorem St.pulls {w : World} {As : List Atom} (p : Pulls H As H') (hw : St w0 w H) : St w0 w (As ++ H') := ⟨hw.1, Sat.pulls p _ hw.2⟩

theorem o_callS {f : FuncId} {args : List Operand} {ts : Array TypeId} {vs : List Value} {Pre : List Atom} {R : Value → List Atom → Prop} [TFn P f] (hs : Spec P f vs.toArray Pre R) (hargs : evs L args vs) (p : Pulls H Pre H') (hn : Nat.blt d n = true)
    (k : ∀ v Hq, R v Hq → Tri w0 K n ((d, v) :: L) (Hq ++ H')) :
    Tri w0 (OpG P ⟨some d, .call { callee := .value (.func f), args := args.toArray, argTypes := ts }, ty, pos, aft, g⟩ K Q) n L H :=
  o_callX hargs hn (fun w hw => hs w0 w H' (hw.pulls p)) k

/-! entry -/
def argSlots : Nat → List Value → Slots
  | _, [] => []
  | k, v :: vs => (k, v) :: argSlots (k + 1) vs

theorem look_argSlots : ∀ (vs : List Value) (k t : Nat) (v : Value), look (argSlots k vs) t = some v → k ≤ t ∧ vs[t - k]? = some v
  | [], _, _, _, h => by simp [argSlots, look] at h
  | u :: vs, k, t, v, h => by
    simp only [argSlots] at h
    rw [look_cons] at h
    by_cases e : k = t
    · subst e; simp at h; subst h; simp
    · rw [if_neg e] at h
      obtain ⟨h1, h2⟩ := look_argSlots vs (k + 1) t v h
      refine ⟨by omega, ?_⟩
      have : t - k = (t - (k + 1)) + 1 := by omega
      rw [this, List.getElem?_cons_succ]; exact h2

theorem Calls.enter {f : FuncId} {fn : Func} {c : Code} {args : List Value} {w : World} {R : Ending → World → Prop} (hf : P.funcs[f]? = some fn) (hb : fn.body = some c) {m : Nat} (hn : fn.ntmps = m) (hle : Nat.ble args.length m = true) (hw : St w0 w H)
    (h : Tri w0 (c.wp P (bodyPost P fn R)) ⟨m, []⟩ (argSlots 0 args) H) : Calls P f args.toArray w R := by
  refine calls_of_wp hf hb (h _ w ⟨rfl, ?_, fun t v ht => ?_⟩ hw)
  · have := Nat.le_of_ble_eq_true hle
    simp [hn]; omega
  · obtain ⟨_, h2⟩ := look_argSlots args 0 t v ht
    simp only [Nat.sub_zero] at h2
    have hlt : t < args.length := (List.getElem?_eq_some_iff.1 h2).1
    simp [Array.getElem?_append, hlt]
    exact (List.getElem?_eq_some_iff.1 h2).2

/-! results -/
inductive Res1 (P : Program) (L : Slots) (H : List Atom) : ResultVar → Value → Prop
  | tmp {t : Tmp} {v : Value} : look L t = some v → Res1 P L H (.tmp t) v
  | cell {p : Tmp} {T T' : TypeId} {b i : Nat} {cs : List Value} {v : Value} {H' : List Atom} [TPlain P T] : look L p = some (.pointer (some ⟨b, i, none⟩)) → Pull H (blk b T' cs) H' → cs[i]? = some v → Res1 P L H (.cell p T) v
  | agg {p : Tmp} {T T' : TypeId} {b i sz : Nat} {cs ys : List Value} {H' : List Atom} [TAgg P T sz] : look L p = some (.pointer (some ⟨b, i, none⟩)) → Pull H (blk b T' cs) H' → (cs.drop i).take sz = ys → ys.length = sz → Res1 P L H (.cell p T) (.agg ys.toArray)

def resVar (tmps : Array Value) : ResultVar → Sem Value
  | .tmp t => pure (tmps.getD t undef)
  | .cell a t => do loadVar t (← asAddr (tmps.getD a undef))

theorem Res1.run {a : Act} {w : World} {rv : ResultVar} {v : Value} (ha : Has a n L) (hw : St w0 w H) (h : Res1 P L H rv v) : (resVar a.tmps rv).run P w = .ok v w := by
  cases h with
  | tmp h1 => simp [resVar, ha.get _ _ h1]
  | @cell pp T T' b i cs v H' hT h1 p h2 =>
    have e := ha.get _ _ h1
    have hc : w.cell? ⟨b, i, none⟩ = some v := by simp [World.cell?, St.blk hw p, h2]
    simp only [resVar]
    simp [e, asAddr, load_cell (P := P) (T := T) hc]
  | @agg pp T T' b i sz cs ys H' hT h1 p h2 h3 =>
    have e := ha.get _ _ h1
    simp only [resVar]
    have hq : (loadVar T ⟨b, i, none⟩).run P w = .ok (.agg ys.toArray) w := load_agg h3 (fun j v hj => by
      rw [← h2, List.getElem?_take] at hj
      split at hj
      · rw [List.getElem?_drop] at hj
        rw [Addr.add_lit]
        simp [World.cell?, St.blk hw p, hj]
      · cases hj)
    simp [e, asAddr, hq]

def ResL (P : Program) (L : Slots) (H : List Atom) : List ResultVar → List Value → Prop
  | [], [] => True
  | r :: rs, v :: vs => Res1 P L H r v ∧ ResL P L H rs vs
  | _, _ => False

theorem ResL.nil : ResL P L H [] [] := trivial
theorem ResL.cons {r : ResultVar} {rs : List ResultVar} {v : Value} {vs : List Value} (a : Res1 P L H r v) (b : ResL P L H rs vs) : ResL P L H (r :: rs) (v :: vs) := ⟨a, b⟩
theorem ResL.run {a : Act} {w : World} (ha : Has a n L) (hw : St w0 w H) : ∀ {rs : List ResultVar} {vs : List Value}, ResL P L H rs vs → (rs.mapM (resVar a.tmps)).run P w = .ok vs w
  | [], [], _ => by simp
  | _ :: _, _ :: _, h => by simp [List.mapM_cons, Res1.run ha hw h.1, ResL.run ha hw h.2]
  | [], _ :: _, h => h.elim
  | _ :: _, [], h => h.elim

def tupled : List Value → Value
  | [v] => v
  | vs => .tuple vs.toArray

theorem results_run {fn : Func} {a : Act} {w : World} {rs : List ResultVar} {vs : List Value} (hr : fn.results = rs.toArray) (ha : Has a n L) (hw : St w0 w H) (h : ResL P L H rs vs) : (results fn a.tmps).run P w = .ok (tupled vs) w := by
  have e : results fn a.tmps = (do let vs ← fn.results.mapM (resVar a.tmps); pure (if h : vs.size = 1 then vs[0] else .tuple vs)) := by
    unfold results
    congr 1
  rw [e, hr]
  simp only [List.mapM_toArray, Sem.run_bind, Sem.run_map, ResL.run ha hw h, Result.andThen_ok, Sem.run_pure]
  congr 1
  cases vs with
  | nil => rfl
  | cons v vs => cases vs with
    | nil => rfl
    | cons u us => simp [tupled]

theorem Tri.fin {m : Nat} {fn : Func} {rs : List ResultVar} {vs : List Value} {R : Value → World → Prop} (hr : fn.results = rs.toArray) (h : ResL P L H rs vs) (hR : ∀ w, St w0 w H → R (tupled vs) w) : Tri w0 (bodyPost P fn (Ret R) .ret) ⟨m, []⟩ L H := fun a w ha hw =>
  ⟨ha.defers, _, results_run hr ha hw h, hR w hw⟩
theorem Tri.finN {m : Nat} {fn : Func} {rs : List ResultVar} {vs : List Value} {R : Value → World → Prop} (hr : fn.results = rs.toArray) (h : ResL P L H rs vs) (hR : ∀ w, St w0 w H → R (tupled vs) w) : Tri w0 (bodyPost P fn (Ret R) .normal) ⟨m, []⟩ L H := fun a w ha hw =>
  ⟨ha.defers, _, results_run hr ha hw h, hR w hw⟩
end
end Go.Gv
