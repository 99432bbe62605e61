/- Loops over functions: what an iterator is asked, and the rule of the loop. -/
import Derived.Test.YtmomlimhjnfadaaGvRound
import Derived.RangeFuncIn
namespace Go.Gv
open Go Go.RowKit
set_option linter.unusedVariables false
set_option linter.unusedSimpArgs false

/-- the record of a loop over a function -/
def lpA (l : Nat) (r : Loop) : Atom := fun h => h l = some (.loop r)
/-- the block for what rounds defer: nothing -/
def dfA (D : Nat) : Atom := fun h => h D = some (.deferred (some []))
def mark (D : Nat) : Deferred := { target := .collected D, args := #[] }
/-- several atoms as one -/
def star (As : List Atom) : Atom := fun h => ∃ (w : World) (s : Nat → Prop), h = res w s ∧ (∀ b, s b → b < w.heap.size) ∧ Sat w s As
/-- an atom with a witness -/
def exA {α : Type} (A : α → Atom) : Atom := fun h => ∃ x, A x h

theorem Sat.split {w : World} : ∀ {As H : List Atom} {av : Nat → Prop}, Sat w av (As ++ H) → ∃ s : Nat → Prop, (∀ b, s b → av b ∧ b < w.heap.size) ∧ Sat w s As ∧ Sat w (fun b => av b ∧ ¬ s b) H
  | [], H, av, h => ⟨fun _ => False, fun _ h => h.elim, trivial, h.mono (fun _ _ hb => ⟨hb, fun x => x⟩)⟩
  | A :: As, H, av, ⟨t, h1, h2, h3⟩ => by
    obtain ⟨s, g1, g2, g3⟩ := Sat.split (As := As) h3
    refine ⟨fun b => t b ∨ s b, fun b hb => hb.elim (fun h => h1 b h) (fun h => ⟨(g1 b h).1.1, (g1 b h).2⟩), ⟨t, fun b hb => ⟨.inl hb, (h1 b hb).2⟩, h2, g2.mono (fun b _ hb => ⟨.inr hb, (g1 b hb).1.2⟩)⟩, g3.mono (fun b _ hb => ⟨hb.1.1, fun h => h.elim hb.1.2 hb.2⟩)⟩
theorem Sat.move {w w2 : World} : ∀ {As : List Atom} {s2 t : Nat → Prop}, (∀ b, s2 b → b < w2.heap.size → t b ∧ w.heap[b]? = w2.heap[b]?) → Sat w2 s2 As → Sat w t As
  | [], _, _, _, _ => trivial
  | A :: As, s2, t, h, ⟨s, g1, g2, g3⟩ => by
    refine ⟨s, fun b hb => ⟨(h b (g1 b hb).1 (g1 b hb).2).1, ?_⟩, ?_, Sat.move (s2 := fun b => s2 b ∧ ¬ s b) (fun b hb hl => ⟨⟨(h b hb.1 hl).1, hb.2⟩, (h b hb.1 hl).2⟩) g3⟩
    · have e := (h b (g1 b hb).1 (g1 b hb).2).2
      rw [Array.getElem?_eq_getElem (g1 b hb).2] at e
      exact (Array.getElem?_eq_some_iff.1 e).1
    · rw [res_congr (w := w2) (w' := w) (s := s) (fun b hb => (h b (g1 b hb).1 (g1 b hb).2).2)]; exact g2
theorem Sat.star {w : World} {As H : List Atom} {av : Nat → Prop} (h : Sat w av (As ++ H)) : Sat w av (star As :: H) := by
  obtain ⟨s, h1, h2, h3⟩ := Sat.split h
  exact ⟨s, h1, ⟨w, s, rfl, fun b hb => (h1 b hb).2, h2⟩, h3⟩
theorem Sat.unstar {w : World} {As H : List Atom} {av : Nat → Prop} (h : Sat w av (Gv.star As :: H)) : Sat w av (As ++ H) := by
  obtain ⟨t, h1, ⟨w2, s2, e, hs2, hsat⟩, h3⟩ := h
  refine Sat.append (av1 := t) (av2 := fun b => av b ∧ ¬ t b) (fun b hb => (h1 b hb).1) (fun b hb => hb.1) (fun b x y => y.2 x) (Sat.move (w2 := w2) (s2 := s2) (fun b hb hl => ?_) hsat) h3
  have eb := congrFun e b
  unfold res at eb
  rw [if_pos hb, Array.getElem?_eq_getElem hl] at eb
  split at eb
  · exact ⟨‹_›, by rw [eb, Array.getElem?_eq_getElem hl]⟩
  · cases eb
section
variable {P : Program} {w0 : World} {n : NT} {L : Slots} {H H' : List Atom} {Q : Exit → Act → World → Prop} {G : Act → World → Prop} {ro : Option Nat}
theorem St.star {w : World} {As : List Atom} (h : St w0 w (As ++ H)) : St w0 w (Gv.star As :: H) := ⟨h.1, h.2.star⟩
theorem St.unstar {w : World} {As : List Atom} (h : St w0 w (Gv.star As :: H)) : St w0 w (As ++ H) := ⟨h.1, h.2.unstar⟩
theorem St.exA {α : Type} {w : World} {A : α → Atom} (h : St w0 w (Gv.exA A :: H)) : ∃ x, St w0 w (A x :: H) := by
  obtain ⟨he, s, h1, ⟨x, h2⟩, h3⟩ := h
  exact ⟨x, he, s, h1, h2, h3⟩
theorem St.toExA {α : Type} {w : World} {A : α → Atom} (x : α) (h : St w0 w (A x :: H)) : St w0 w (Gv.exA A :: H) := h.imp (fun _ hA => ⟨x, hA⟩)
theorem Tri.unstar {As : List Atom} (p : Pull H (Gv.star As) H') (h : Tri w0 G n L (As ++ H')) : Tri w0 G n L H := Tri.conv (fun w hw => (hw.pull p).unstar) h
theorem Tri.exA {α : Type} {A : α → Atom} (p : Pull H (Gv.exA A) H') (h : ∀ x, Tri w0 G n L (A x :: H')) : Tri w0 G n L H := Tri.ex p (fun _ h => h) h

/-- a part of memory that is set aside comes back as it was -/
theorem St.aside {w : World} {X R : List Atom} (h : St w0 w (X ++ R)) : ∃ h0, St w0 w (X ++ [Ex h0]) ∧ ∀ (w' : World) (X' : List Atom), St w0 w' (X' ++ [Ex h0]) → St w0 w' (X' ++ R) := by
  obtain ⟨s, h1, h2, h3⟩ := Sat.cut h.2
  refine ⟨res w s, ⟨h.1, h3⟩, fun w' X' hX => ⟨hX.1, ?_⟩⟩
  obtain ⟨k1, k2⟩ := Sat.uncut (fun b hb => (h1 b hb).2) X' _ hX.2
  refine Sat.append (av1 := fun b => True ∧ ¬ s b) (av2 := s) (fun _ _ => trivial) (fun _ _ => trivial) (fun b x y => x.2 y) k2 ?_
  exact Sat.move (w2 := w) (s2 := s) (fun b hb _ => ⟨hb, (k1 b hb).1⟩) h2

/-- what a call of yield does -/
def YSpec (P : Program) (w0 : World) (l : Nat) (args : Array Value) (A B C : Atom) : Prop :=
  ∀ w H, St w0 w (A :: H) → YieldAt Fence.wide 0 P l args w (fun e w' => (e = .returned (.bool true) ∧ St w0 w' (B :: H)) ∨ (e = .returned (.bool false) ∧ St w0 w' (C :: H)))
theorem TriR.yield {ops : Array Oper} {rest : List Oper} {x : Operand} {l d : Nat} {args : List Operand} {ts : Array TypeId} {vs : List Value} {A B C : Atom} {ty : TypeId} {pos : String} {aft : Array Edge} (hy : YSpec P w0 l vs.toArray A B C)
    (hx : ev L x = some (.func (.yield l) #[] #[])) (hargs : evs L args vs) (hn : Nat.blt d n = true) (p : Pull H A H')
    (kt : Tri w0 (wlr ro P ops Q rest) n ((d, .bool true) :: L) (B :: H')) (kf : Tri w0 (wlr ro P ops Q rest) n ((d, .bool false) :: L) (C :: H')) :
    Tri w0 (wlr ro P ops Q (⟨some d, .call { callee := .value x, args := args.toArray, argTypes := ts }, ty, pos, aft, none⟩ :: rest)) n L H := fun a w ha hw => by
  unfold wlr
  rw [if_pos (by simp [Region.wanted])]
  refine ⟨fun _ _ => trivial, ?_⟩
  rw [Oper.semAt_eq _ _ _ (by intro c; simp)]
  obtain ⟨fn, tmps, assign, body, hrun, hround⟩ := hy w H' (hw.pull p)
  have hr : (execOp a.eval (⟨some d, .call { callee := .value x, args := args.toArray, argTypes := ts }, ty, pos, aft, none⟩ : Oper)).run P w = .ok (.round l fn tmps assign body) w := by
    have he : (List.map a.eval args).toArray = vs.toArray := by rw [evs.map ha hargs]
    simp [execOp, resolve, Deferred.ofValue, ha.eval hx, invoke, he, hrun]
  rw [hr, Oper.uponIn_round]
  refine ⟨fun h => (nomatch h), RoundIn.mono (F := Fence.wide) (n := 0) hround ?_⟩
  rintro e w' (⟨rfl, hs⟩ | ⟨rfl, hs⟩)
  · exact kt _ w' (ha.put hn _) hs
  · exact kf _ w' (ha.put hn _) hs

/-- a function that calls yield with some rows of values, one behind the other, until they end, or yield says no -/
def Iter (P : Program) (g : FuncId) (lb : List Value) (C : List Atom) (xs : List (List Value)) : Prop :=
  ∀ (w0 : World) (l : Nat) (I : Nat → Atom) (J : Atom), (∀ k vs, xs[k]? = some vs → YSpec P w0 l vs.toArray (I k) (I (k + 1)) J) → ∀ w H, St w0 w (I 0 :: (C ++ H)) →
    Calls P g (#[.func (.yield l) #[] #[]] ++ lb.toArray) w (Ret fun _ w' => St w0 w' (I xs.length :: (C ++ H)) ∨ St w0 w' (J :: (C ++ H)))

/-- slots with a round's values -/
def zipL : List Tmp → List Value → Slots → Slots
  | p :: ps, v :: vs, L => zipL ps vs ((p, v) :: L)
  | _, _, L => L
theorem Has.zip {n : NT} : ∀ (ps : List Tmp) (vs : List Value) {a : Act} {L : Slots}, Has a n L → (∀ q ∈ ps, Nat.blt q n = true) → Has { tmps := (ps.zip vs).foldl (fun t q => t.setIfInBounds q.1 q.2) a.tmps, defers := a.defers } n (zipL ps vs L)
  | [], _, _, _, h, _ => h
  | _ :: _, [], _, _, h, _ => h
  | p :: ps, v :: vs, a, L, h, hq => by
    have h1 := h.put (hq p (List.mem_cons_self ..)) v
    exact Has.zip ps vs h1 (fun q hm => hq q (List.mem_cons_of_mem _ hm))

theorem upd_lp {w : World} {l : Nat} {r : Loop} (r' : Loop) (hw : St w0 w (lpA l r :: H)) : St w0 (w.putObj l (.loop r')) (lpA l r' :: H) := by
  refine hw.upd ⟨rfl, rfl, rfl, by simp⟩ (fun s hs hA => ⟨⟨s, fun c hc => ⟨by have := hs c hc; simpa using this, .inl hc⟩, ?_⟩, fun c hc hl => ?_⟩)
  · have hb := res_some (o := .loop r) hA
    show res _ s l = _
    unfold res; rw [if_pos hb.1]
    exact World.putObj_heap_same (hs l hb.1)
  · have hb := res_some (o := .loop r) hA
    exact World.putObj_heap_other (fun e => hc (e ▸ hb.1))
theorem St.lp {w : World} {l : Nat} {r : Loop} (hw : St w0 w (lpA l r :: H)) : w.heap[l]? = some (.loop r) := by
  obtain ⟨s, hs⟩ := hw.2.head
  exact (res_some (o := .loop r) hs).2
theorem St.df {w : World} {D : Nat} (hw : St w0 w (dfA D :: H)) : w.heap[D]? = some (.deferred (some [])) := by
  obtain ⟨s, hs⟩ := hw.2.head
  exact (res_some (o := .deferred (some [])) hs).2
theorem St.rot {w : World} {A : Atom} : ∀ {X R : List Atom}, St w0 w (X ++ (A :: R)) → St w0 w (A :: (X ++ R))
  | [], _, h => h
  | B :: X, R, h => by
    refine ⟨h.1, Sat.swap ?_⟩
    exact Sat.under (fun av hs => (rotS X R av hs)) _ h.2
where
  rotS {w : World} {A : Atom} : ∀ (X R : List Atom) (av : Nat → Prop), Sat w av (X ++ (A :: R)) → Sat w av (A :: (X ++ R))
    | [], _, _, h => h
    | B :: X, R, av, h => Sat.swap (Sat.under (fun av hs => rotS X R av hs) av h)
theorem St.unrot {w : World} {A : Atom} : ∀ {X R : List Atom}, St w0 w (A :: (X ++ R)) → St w0 w (X ++ (A :: R))
  | X, R, h => ⟨h.1, rotU X R _ h.2⟩
where
  rotU {w : World} {A : Atom} : ∀ (X R : List Atom) (av : Nat → Prop), Sat w av (A :: (X ++ R)) → Sat w av (X ++ (A :: R))
    | [], _, _, h => h
    | B :: X, R, av, h => Sat.under (fun av hs => rotU X R av hs) av (Sat.swap h)

/-- what a round's body is asked: it ends (the next state), or jumps (a state of those that end the loop) -/
def RdQ {α β : Type} (w0 : World) (idx : α → Nat) (Hx : α → List Atom) (Jc : β → Code) (Hj : β → List Atom) (k : Nat) (h0 : PH) : Exit → Act → World → Prop
  | .normal, _, w => ∃ y, idx y = k + 1 ∧ St w0 w (Hx y ++ [Ex h0])
  | .ret, _, w => ∃ y, Jc y = .ret ∧ St w0 w (Hj y ++ [Ex h0])
  | .exit id, _, w => ∃ y, Jc y = .exit id ∧ St w0 w (Hj y ++ [Ex h0])
  | _, _, _ => False

theorem TriR.range {α β γ : Type} (idx : α → Nat) (Hx : α → List Atom) (x0 : α) (Jc : β → Code) (Hj : β → List Atom) (Lm : α → γ → Slots) (Hm : α → γ → List Atom) {g : Operand} {gf : FuncId} {lb : List Value} {C : List Atom} {xs : List (List Value)} {ps : List Tmp} {assign body : Code} [TFn P gf]
    (hit : Iter P gf lb C xs) (hg : ev L g = some (.func (.func gf) #[] lb.toArray)) (h0 : idx x0 = 0) (p : Pulls H (Hx x0 ++ C) H') (hps : ∀ v ∈ xs, v.length = ps.length) (hpn : ∀ q ∈ ps, Nat.blt q n = true)
    (hassign : ∀ l x vs, xs[idx x]? = some vs → ∀ h0, Tri w0 (Code.wr (some l) P assign (Exit.then (fun a w => ∃ z : γ, Has a ⟨n.k, []⟩ (Lm x z) ∧ St w0 w (Hm x z ++ [Ex h0])) (fun _ _ _ => False))) ⟨n.k, []⟩ (zipL ps vs L) (Hx x ++ [Ex h0]))
    (hbody : ∀ l x vs, xs[idx x]? = some vs → ∀ z h0, Tri w0 (Code.wr (some l) P body (RdQ w0 idx Hx Jc Hj (idx x) h0)) ⟨n.k, []⟩ (Lm x z) (Hm x z ++ [Ex h0]))
    (hdone : ∀ D y, idx y = xs.length → Tri w0 (Q .normal) ⟨n.k, mark D :: n.ds⟩ L (dfA D :: (Hx y ++ (C ++ H'))))
    (hjump : ∀ D y, Tri w0 (Code.wr none P (Jc y) Q) ⟨n.k, mark D :: n.ds⟩ L (dfA D :: (Hj y ++ (C ++ H')))) :
    Tri w0 (Code.wr none P (Code.rangeFunc g ps.toArray assign body) Q) n L H := fun a w ha hw => by
  refine wpIn_rangeFunc (F := FR none) (n := 0) (fun fn _ => ?_)
  let r0 : Loop := { state := .ready, pending := none, fn, tmps := a.tmps, params := ps.toArray, assign, body, defers := w.heap.size }
  let w1 : World := (w.alloc (.deferred (some []))).alloc (.loop r0)
  have hsz : (w.alloc (.deferred (some []))).heap.size = w.heap.size + 1 := by show (w.heap.push _).size = _; simp
  have hst0 : St w0 w1 (lpA (w.heap.size + 1) r0 :: dfA w.heap.size :: ((Hx x0 ++ C) ++ H')) := by
    have q1 := (hw.pulls p).alloc (.deferred (some [])) (dfA w.heap.size) (fun h e => e)
    have q2 := q1.alloc (.loop r0) (lpA (w.heap.size + 1) r0) (fun h e => by rw [hsz] at e; exact e)
    exact q2
  let I : Nat → Atom := fun k => Gv.exA (fun x : { x : α // idx x = k } => Gv.star (lpA (w.heap.size + 1) r0 :: Hx x.1))
  let J : Atom := Gv.exA (fun y : β => Gv.star (lpA (w.heap.size + 1) { r0 with state := .done, pending := some (Jc y) } :: Hj y))
  have hY : ∀ k vs, xs[k]? = some vs → YSpec P w0 (w.heap.size + 1) vs.toArray (I k) (I (k + 1)) J := by
    intro k vs hvs w2 Hf hw2
    obtain ⟨⟨x, hx⟩, hw3⟩ := St.exA hw2
    subst hx
    have hw4 := St.unstar hw3
    have hl := St.lp hw4
    have hlen : vs.length = ps.length := hps vs (List.mem_of_getElem? hvs)
    refine ⟨_, _, _, _, run_yield hl (by show vs.toArray.size = ps.toArray.size; simpa using hlen), ?_⟩
    have hz : Has { tmps := (ps.toArray.zip vs.toArray).foldl (fun t (q : Tmp × Value) => t.setIfInBounds q.1 q.2) a.tmps, defers := [] } ⟨n.k, []⟩ (zipL ps vs L) := by
      have := Has.zip (n := ⟨n.k, []⟩) ps vs (a := { tmps := a.tmps, defers := [] }) (L := L) ⟨rfl, ha.size, ha.get⟩ hpn
      simpa using this
    refine roundIn_of_wpIn (F := Fence.wide) (n := 0) trivial ?_
    have hw5 : St w0 w2 (Hx x ++ (lpA (w.heap.size + 1) r0 :: Hf)) := St.unrot hw4
    obtain ⟨hA, hA1, hA2⟩ := St.aside hw5
    refine wpIn_mono (hassign (w.heap.size + 1) x vs hvs hA _ w2 hz hA1) ?_
    intro e a1 w3 hq
    cases e with
    | normal =>
      obtain ⟨z, hz1, hz2⟩ := hq
      have hw6 := St.rot (hA2 w3 _ hz2)
      refine ⟨_, run_beginRound (St.lp hw6) rfl, ?_⟩
      have hw7 := St.unrot (upd_lp { r0 with state := .busy } hw6)
      obtain ⟨hB, hB1, hB2⟩ := St.aside hw7
      refine wpIn_mono (hbody (w.heap.size + 1) x vs hvs z hB _ _ hz1 hB1) ?_
      intro e2 a2 w4 hq2
      cases e2 with
      | normal =>
        obtain ⟨y, hy1, hy2⟩ := hq2
        have hw8 := St.rot (hB2 w4 _ hy2)
        refine ⟨_, _, run_endRound none (St.lp hw8), .inl ⟨rfl, ?_⟩⟩
        exact St.toExA (A := fun x' : { x' : α // idx x' = idx x + 1 } => Gv.star (lpA (w.heap.size + 1) r0 :: Hx x'.1)) ⟨y, hy1⟩ (St.star (As := lpA _ r0 :: Hx y) (upd_lp _ hw8))
      | ret =>
        obtain ⟨y, hy1, hy2⟩ := hq2
        have hw8 := St.rot (hB2 w4 _ hy2)
        refine ⟨_, _, run_endRound (some .ret) (St.lp hw8), .inr ⟨rfl, ?_⟩⟩
        exact St.toExA (A := fun y : β => Gv.star (lpA (w.heap.size + 1) { r0 with state := .done, pending := some (Jc y) } :: Hj y)) y (St.star (As := lpA _ _ :: Hj y) (by rw [hy1]; exact upd_lp _ hw8))
      | exit id =>
        obtain ⟨y, hy1, hy2⟩ := hq2
        have hw8 := St.rot (hB2 w4 _ hy2)
        refine ⟨_, _, run_endRound (some (.exit id)) (St.lp hw8), .inr ⟨rfl, ?_⟩⟩
        exact St.toExA (A := fun y : β => Gv.star (lpA (w.heap.size + 1) { r0 with state := .done, pending := some (Jc y) } :: Hj y)) y (St.star (As := lpA _ _ :: Hj y) (by rw [hy1]; exact upd_lp _ hw8))
      | goto t => exact hq2.elim
      | panic c => exact hq2.elim
      | outgrown => exact hq2.elim
    | ret => exact hq.elim
    | exit id => exact hq.elim
    | goto t => exact hq.elim
    | panic c => exact hq.elim
    | outgrown => exact hq.elim
  have hst1 : St w0 w1 (I 0 :: (C ++ (dfA w.heap.size :: H'))) := by
    have q1 : St w0 w1 (dfA w.heap.size :: ((lpA (w.heap.size + 1) r0 :: (Hx x0 ++ C)) ++ H')) := ⟨hst0.1, Sat.swap hst0.2⟩
    have q2 := St.unrot q1
    have q3 : St w0 w1 ((lpA (w.heap.size + 1) r0 :: Hx x0) ++ (C ++ (dfA w.heap.size :: H'))) := by simpa [List.append_assoc] using q2
    exact St.toExA (A := fun x' : { x' : α // idx x' = 0 } => Gv.star (lpA (w.heap.size + 1) r0 :: Hx x'.1)) ⟨x0, h0⟩ (St.star q3)
  have hcall := hit w0 (w.heap.size + 1) I J hY w1 (dfA w.heap.size :: H') hst1
  have ev1 : ∀ (a' : Act), a'.eval (.const (.func (.yield (w.heap.size + 1)) #[] #[])) = .func (.yield (w.heap.size + 1)) #[] #[] := fun _ => rfl
  have hmk : ∀ (z : List Deferred), Has { a with defers := [mark w.heap.size] ++ a.defers } ⟨n.k, mark w.heap.size :: n.ds⟩ L := fun _ => ⟨by simp [ha.defers], ha.size, ha.get⟩
  refine ⟨_, [mark w.heap.size], w1, ⟨.fn (.func gf) lb.toArray, #[.func (.yield (w.heap.size + 1)) #[] #[]]⟩, w1, gf, _, w1, run_enterLoop_outer fn a.tmps ps.toArray assign body, ?_, fun _ _ => trivial, ?_, fun h => (nomatch h), CallsIn.mono (callsIn_FR hcall) ?_⟩
  · simp [resolve, rangeCall, Deferred.ofValue, ha.eval hg, ev1]
  · simp only [invoke]
    exact fn_run
  · intro e w3 he
    cases e with
    | returned v =>
      rcases he with he | he
      · obtain ⟨⟨y, hy⟩, hw3⟩ := St.exA he
        have hw4 := St.unstar hw3
        refine ⟨none, _, run_endLoop (St.lp hw4) (by simp [r0]), ?_⟩
        have hw5 := (upd_lp { r0 with state := .exhausted } hw4).drop
        refine hdone w.heap.size y hy _ _ (hmk []) ?_
        have q : St w0 (w3.putObj (w.heap.size + 1) (.loop { r0 with state := .exhausted })) ((Hx y ++ C) ++ (dfA w.heap.size :: H')) := by simpa [List.append_assoc] using hw5
        simpa [List.append_assoc] using St.rot q
      · obtain ⟨y, hw3⟩ := St.exA he
        have hw4 := St.unstar hw3
        refine ⟨some (Jc y), _, run_endLoop (St.lp hw4) (by simp), ?_⟩
        have hw5 := (upd_lp { r0 with state := .exhausted, pending := some (Jc y) } hw4).drop
        refine hjump w.heap.size y _ _ (hmk []) ?_
        have q : St w0 (w3.putObj (w.heap.size + 1) (.loop { r0 with state := .exhausted, pending := some (Jc y) })) ((Hj y ++ C) ++ (dfA w.heap.size :: H')) := by simpa [List.append_assoc] using hw5
        simpa [List.append_assoc] using St.rot q
    | panicked c => exact he.elim
    | outgrown => exact he.elim

/-! functions that hold such a loop -/
theorem Calls.enterM {f : FuncId} {fn : Func} {c : Code} {args : List Value} {w : World} {R : Ending → World → Prop} (hf : P.funcs[f]? = some fn) (hb : fn.body = some c) {m : Nat} (hn : fn.ntmps = m) (hle : Nat.ble args.length m = true) (hw : St w0 w H)
    (h : Tri w0 (Code.wr none P c (bodyPostM Fence.wide 0 P fn R)) ⟨m, []⟩ (argSlots 0 args) H) : Calls P f args.toArray w R := by
  refine (callsIn_wide (n := 0)).1 (callsIn_of_wp_marks (F := Fence.wide) hf hb trivial (h _ w ⟨rfl, ?_, fun t v ht => ?_⟩ hw))
  · have := Nat.le_of_ble_eq_true hle
    simp [hn]; omega
  · obtain ⟨_, h2⟩ := look_argSlots args 0 t v ht
    simp only [Nat.sub_zero] at h2
    have hlt : t < args.length := (List.getElem?_eq_some_iff.1 h2).1
    simp [Array.getElem?_append, hlt]
    exact (List.getElem?_eq_some_iff.1 h2).2
theorem leaves0 {fn : Func} {rs : List ResultVar} {vs : List Value} {R : Value → World → Prop} {m : Nat} {a : Act} {w : World} (hr : fn.results = rs.toArray) (h : ResL P L H rs vs) (hR : ∀ w, St w0 w H → R (tupled vs) w) (ha : Has a ⟨m, []⟩ L) (hw : St w0 w H) : LeavesInM Fence.wide 0 P fn a.tmps (Ret R) a.defers .returning w := by
  rw [ha.defers]
  exact ⟨_, results_run hr ha hw h, hR w hw⟩
theorem leaves1 {fn : Func} {rs : List ResultVar} {vs : List Value} {R : Value → World → Prop} {m D : Nat} {a : Act} {w : World} (p : Pull H (dfA D) H') (hr : fn.results = rs.toArray) (h : ResL P L H' rs vs) (hR : ∀ w, St w0 w H' → R (tupled vs) w) (ha : Has a ⟨m, [mark D]⟩ L) (hw : St w0 w H) : LeavesInM Fence.wide 0 P fn a.tmps (Ret R) a.defers .returning w := by
  rw [ha.defers]
  have hp := hw.pull p
  have hd := St.df hp
  have hw' : St w0 (w.putObj D (.deferred none)) H' := by
    have : St w0 (w.putObj D (.deferred none)) (fact True :: H') := by
      refine hp.upd ⟨rfl, rfl, rfl, by simp⟩ (fun s hs hA => ⟨⟨fun _ => False, fun c hc => hc.elim, trivial⟩, fun c hc hl => ?_⟩)
      have hb := res_some (o := .deferred (some [])) hA
      exact World.putObj_heap_other (fun e => hc (e ▸ hb.1))
    exact this.drop
  have ha' : Has { tmps := a.tmps, defers := [] } ⟨m, []⟩ L := ⟨rfl, ha.size, ha.get⟩
  have hq := results_run hr ha' hw' h
  exact ⟨by simp, .inl ⟨D, _, rfl, run_takeDeferred hd, ⟨_, hq, hR _ hw'⟩⟩⟩
theorem Tri.finM0 {m : Nat} {fn : Func} {rs : List ResultVar} {vs : List Value} {R : Value → World → Prop} (hr : fn.results = rs.toArray) (h : ResL P L H rs vs) (hR : ∀ w, St w0 w H → R (tupled vs) w) : Tri w0 (bodyPostM Fence.wide 0 P fn (Ret R) .ret) ⟨m, []⟩ L H := fun a w ha hw => leaves0 hr h hR ha hw
theorem Tri.finM0N {m : Nat} {fn : Func} {rs : List ResultVar} {vs : List Value} {R : Value → World → Prop} (hr : fn.results = rs.toArray) (h : ResL P L H rs vs) (hR : ∀ w, St w0 w H → R (tupled vs) w) : Tri w0 (bodyPostM Fence.wide 0 P fn (Ret R) .normal) ⟨m, []⟩ L H := fun a w ha hw => leaves0 hr h hR ha hw
theorem Tri.finM1 {m D : Nat} {fn : Func} {rs : List ResultVar} {vs : List Value} {R : Value → World → Prop} (p : Pull H (dfA D) H') (hr : fn.results = rs.toArray) (h : ResL P L H' rs vs) (hR : ∀ w, St w0 w H' → R (tupled vs) w) : Tri w0 (bodyPostM Fence.wide 0 P fn (Ret R) .ret) ⟨m, [mark D]⟩ L H := fun a w ha hw => leaves1 p hr h hR ha hw
theorem Tri.finM1N {m D : Nat} {fn : Func} {rs : List ResultVar} {vs : List Value} {R : Value → World → Prop} (p : Pull H (dfA D) H') (hr : fn.results = rs.toArray) (h : ResL P L H' rs vs) (hR : ∀ w, St w0 w H' → R (tupled vs) w) : Tri w0 (bodyPostM Fence.wide 0 P fn (Ret R) .normal) ⟨m, [mark D]⟩ L H := fun a w ha hw => leaves1 p hr h hR ha hw
end
end Go.Gv
