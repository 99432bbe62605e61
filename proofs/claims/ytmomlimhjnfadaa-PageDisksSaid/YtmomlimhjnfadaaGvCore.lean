/- The core of a small separation logic over the model's weakest preconditions: slots, atoms, worlds that satisfy lists of atoms, and the rules of control. -/
import Derived.WalkKit
import Derived.ProofKit
import Derived.KernelRfl
namespace Go.Gv
open Go Go.RowKit
set_option linter.unusedVariables false
set_option linter.unusedSimpArgs false

abbrev PH := Nat → Option Obj
abbrev Atom := PH → Prop
abbrev Slots := List (Nat × Value)

def look : Slots → Nat → Option Value
  | [], _ => none
  | (k, v) :: L, t => bif Nat.beq k t then some v else look L t

theorem look_cons (k : Nat) (v : Value) (L : Slots) (t : Nat) : look ((k, v) :: L) t = if k = t then some v else look L t := by
  by_cases h : k = t
  · subst h; simp [look]
  · have : Nat.beq k t = false := by
      cases hb : Nat.beq k t
      · rfl
      · exact absurd (Nat.eq_of_beq_eq_true hb) h
    simp [look, this, h]

/-- how many slots an activation has, and what it is to do when it ends -/
structure NT where
  k : Nat
  ds : List Deferred
instance : Coe NT Nat := ⟨NT.k⟩

structure Has (a : Act) (n : NT) (L : Slots) : Prop where
  defers : a.defers = n.ds
  size : a.tmps.size = n.k
  get : ∀ t v, look L t = some v → a.tmps[t]? = some v

def ev (L : Slots) : Operand → Option Value
  | .tmp t => look L t
  | .const v => some v
  | .global g => some (.pointer (some ⟨g, 0, none⟩))
  | .func f => some (.func (.func f) #[] #[])

theorem Has.eval {a : Act} {n : NT} {L : Slots} (h : Has a n L) {x : Operand} {v : Value} (e : ev L x = some v) : a.eval x = v := by
  cases x with
  | tmp t => simp only [ev] at e; simp [Act.eval, h.get t v e]
  | const u => simpa [ev, Act.eval] using e
  | global g => simpa [ev, Act.eval] using e
  | func f => simpa [ev, Act.eval] using e

theorem Has.put {a : Act} {n : NT} {L : Slots} (h : Has a n L) {d : Nat} (hd : Nat.blt d n.k = true) (v : Value) : Has (a.put (some d) v) n ((d, v) :: L) := by
  have hd' : d < n.k := by simpa [Nat.blt_eq] using hd
  refine ⟨h.defers, by simp [Act.put, h.size], fun t u hu => ?_⟩
  rw [look_cons] at hu
  by_cases e : d = t
  · subst e
    simp at hu; subst hu
    simp [Act.put, h.size, hd']
  · rw [if_neg e] at hu
    have := h.get t u hu
    simp [Act.put, Array.getElem?_setIfInBounds_ne e, this]

theorem Has.put_none {a : Act} {n : NT} {L : Slots} (h : Has a n L) (v : Value) : Has (a.put none v) n L := h

/-- all entries of one list of slots are found in another one -/
def SubL (L : Slots) : Slots → Prop
  | [] => True
  | (k, v) :: l => look L k = some v ∧ SubL L l

theorem SubL.look {L : Slots} : ∀ {l : Slots}, SubL L l → ∀ t v, look l t = some v → Gv.look L t = some v
  | [], _, t, v, h => by simp [Gv.look] at h
  | (k, u) :: l, hs, t, v, h => by
    rw [look_cons] at h
    by_cases e : k = t
    · subst e; simp at h; subst h; exact hs.1
    · rw [if_neg e] at h; exact SubL.look hs.2 t v h

theorem Has.sub {a : Act} {n : NT} {L l : Slots} (h : Has a n L) (hs : SubL L l) : Has a n l := ⟨h.defers, h.size, fun t v e => h.get t v (hs.look t v e)⟩

/-! worlds and atoms -/
open Classical in
noncomputable def res (w : World) (s : Nat → Prop) : PH := fun b => if s b then w.heap[b]? else none

theorem res_congr {w w' : World} {s : Nat → Prop} (h : ∀ b, s b → w'.heap[b]? = w.heap[b]?) : res w' s = res w s := by
  funext b; unfold res; split
  · exact h b ‹_›
  · rfl

def Sat (w : World) : (Nat → Prop) → List Atom → Prop
  | _, [] => True
  | av, A :: H => ∃ s : Nat → Prop, (∀ b, s b → av b ∧ b < w.heap.size) ∧ A (res w s) ∧ Sat w (fun b => av b ∧ ¬ s b) H

theorem Sat.mono {w : World} : ∀ {H : List Atom} {av av' : Nat → Prop}, (∀ b, b < w.heap.size → av b → av' b) → Sat w av H → Sat w av' H
  | [], _, _, _, _ => trivial
  | _ :: _, _, _, h, ⟨s, h1, h2, h3⟩ => ⟨s, fun b hb => ⟨h b (h1 b hb).2 (h1 b hb).1, (h1 b hb).2⟩, h2, Sat.mono (fun b hl hb => ⟨h b hl hb.1, hb.2⟩) h3⟩

theorem Sat.congr {w w' : World} (hs : w.heap.size ≤ w'.heap.size) : ∀ {H : List Atom} {av : Nat → Prop}, (∀ b, av b → b < w.heap.size → w'.heap[b]? = w.heap[b]?) → Sat w av H → Sat w' av H
  | [], _, _, _ => trivial
  | _ :: _, av, h, ⟨s, h1, h2, h3⟩ => ⟨s, fun b hb => ⟨(h1 b hb).1, Nat.lt_of_lt_of_le (h1 b hb).2 hs⟩, by rw [res_congr (fun b hb => h b (h1 b hb).1 (h1 b hb).2)]; exact h2,
      Sat.congr hs (fun b hb hl => h b hb.1 hl) h3⟩

theorem Sat.lt {w : World} : ∀ {H : List Atom} {av : Nat → Prop}, Sat w av H → Sat w (fun b => av b ∧ b < w.heap.size) H
  | _, _, h => Sat.mono (fun _ hl hb => ⟨hb, hl⟩) h

theorem Sat.swap {w : World} {av : Nat → Prop} {A B : Atom} {H : List Atom} (h : Sat w av (A :: B :: H)) : Sat w av (B :: A :: H) := by
  obtain ⟨s, h1, h2, t, g1, g2, h3⟩ := h
  refine ⟨t, fun b hb => ⟨(g1 b hb).1.1, (g1 b hb).2⟩, g2, s, fun b hb => ⟨⟨(h1 b hb).1, fun ht => (g1 b ht).1.2 hb⟩, (h1 b hb).2⟩, h2, h3.mono (fun b _ hb => ⟨⟨hb.1.1, hb.2⟩, hb.1.2⟩)⟩

/-- 'Pull H A H'': A stands in H; H' is the rest. -/
inductive Pull : List Atom → Atom → List Atom → Prop
  | head {A : Atom} {H : List Atom} : Pull (A :: H) A H
  | tail {A B : Atom} {H H' : List Atom} : Pull H A H' → Pull (B :: H) A (B :: H')

theorem Sat.pull {w : World} {A : Atom} : ∀ {H H' : List Atom} {av : Nat → Prop}, Pull H A H' → Sat w av H → Sat w av (A :: H')
  | _, _, _, .head, h => h
  | _, _, _, .tail p, ⟨s, h1, h2, h3⟩ => Sat.swap ⟨s, h1, h2, Sat.pull p h3⟩

theorem Sat.push {w : World} {A : Atom} : ∀ {H H' : List Atom} {av : Nat → Prop}, Pull H A H' → Sat w av (A :: H') → Sat w av H
  | _, _, _, .head, h => h
  | _, _, _, .tail p, h => by
    obtain ⟨s, h1, h2, h3⟩ := Sat.swap h
    exact ⟨s, h1, h2, Sat.push p h3⟩

theorem Sat.drop {w : World} {A : Atom} {H : List Atom} {av : Nat → Prop} (h : Sat w av (A :: H)) : Sat w av H := by
  obtain ⟨s, _, _, h3⟩ := h
  exact h3.mono (fun _ _ hb => hb.1)

theorem Sat.imp {w : World} {A B : Atom} {H : List Atom} {av : Nat → Prop} (hAB : ∀ h, A h → B h) (h : Sat w av (A :: H)) : Sat w av (B :: H) := by
  obtain ⟨s, h1, h2, h3⟩ := h
  exact ⟨s, h1, hAB _ h2, h3⟩

/-- what an atom says of the world at large -/
theorem Sat.head {w : World} {A : Atom} {H : List Atom} {av : Nat → Prop} (h : Sat w av (A :: H)) : ∃ s : Nat → Prop, A (res w s) := by
  obtain ⟨s, _, h2, _⟩ := h; exact ⟨s, h2⟩

def blk (b : Nat) (T : TypeId) (cs : List Value) : Atom := fun h => h b = some (.cells cs.toArray T (0, 0))
def Ex (h0 : PH) : Atom := fun h => h = h0
/-- a fact that needs no memory -/
def fact (p : Prop) : Atom := fun _ => p

noncomputable def hp (w : World) : PH := fun b => w.heap[b]?

theorem res_some {w : World} {s : Nat → Prop} {b : Nat} {o : Obj} (h : res w s b = some o) : s b ∧ w.heap[b]? = some o := by
  unfold res at h; split at h
  · exact ⟨‹_›, h⟩
  · cases h

theorem Sat.append {w : World} : ∀ {H1 H2 : List Atom} {av av1 av2 : Nat → Prop}, (∀ b, av1 b → av b) → (∀ b, av2 b → av b) → (∀ b, av1 b → av2 b → False) → Sat w av1 H1 → Sat w av2 H2 → Sat w av (H1 ++ H2)
  | [], _, _, _, _, _, h2, _, _, s2 => s2.mono (fun b _ hb => h2 b hb)
  | _ :: _, _, _, av1, _, h1, h2, hd, ⟨s, g1, g2, g3⟩, s2 =>
    ⟨s, fun b hb => ⟨h1 b (g1 b hb).1, (g1 b hb).2⟩, g2, Sat.append (av1 := fun b => av1 b ∧ ¬ s b) (fun b hb => ⟨h1 b hb.1, hb.2⟩) (fun b hb => ⟨h2 b hb, fun hs => hd b (g1 b hs).1 hb⟩) (fun b h h' => hd b h.1 h') g3 s2⟩

theorem Sat.left {w : World} : ∀ {H1 H2 : List Atom} {av : Nat → Prop}, Sat w av (H1 ++ H2) → Sat w av H1
  | [], _, _, _ => trivial
  | _ :: _, _, _, ⟨s, g1, g2, g3⟩ => ⟨s, g1, g2, g3.left⟩

theorem Sat.right {w : World} : ∀ {H1 H2 : List Atom} {av : Nat → Prop}, Sat w av (H1 ++ H2) → Sat w av H2
  | [], _, _, h => h
  | _ :: _, _, _, ⟨_, _, _, g3⟩ => (Sat.right g3).mono (fun _ _ hb => hb.1)

/-- The world's own circumstances: what a call may not turn. -/
structure Env (w0 w : World) : Prop where
  os : w.os = w0.os
  tape : w.tape = w0.tape
  output : w.output = w0.output
  size : w0.heap.size ≤ w.heap.size

theorem Env.refl (w : World) : Env w w := ⟨rfl, rfl, rfl, Nat.le_refl _⟩
theorem Env.trans {a b c : World} (h : Env a b) (k : Env b c) : Env a c := ⟨k.os.trans h.os, k.tape.trans h.tape, k.output.trans h.output, Nat.le_trans h.size k.size⟩

def St (w0 w : World) (H : List Atom) : Prop := Env w0 w ∧ Sat w (fun _ => True) H

theorem St.pull {w0 w : World} {A : Atom} {H H' : List Atom} (p : Pull H A H') (h : St w0 w H) : St w0 w (A :: H') := ⟨h.1, h.2.pull p⟩
theorem St.push {w0 w : World} {A : Atom} {H H' : List Atom} (p : Pull H A H') (h : St w0 w (A :: H')) : St w0 w H := ⟨h.1, h.2.push p⟩
theorem St.drop {w0 w : World} {A : Atom} {H : List Atom} (h : St w0 w (A :: H)) : St w0 w H := ⟨h.1, h.2.drop⟩
theorem St.imp {w0 w : World} {A B : Atom} {H : List Atom} (hAB : ∀ h, A h → B h) (h : St w0 w (A :: H)) : St w0 w (B :: H) := ⟨h.1, h.2.imp hAB⟩
theorem St.env {w0 w : World} {H : List Atom} (h : St w0 w H) : Env w0 w := h.1

theorem St.drew {w0 w : World} {H : List Atom} (h : St w0 w H) : St w0 w.drew H :=
  ⟨⟨h.1.os, h.1.tape, h.1.output, h.1.size⟩, Sat.congr (w := w) (w' := w.drew) (Nat.le_refl _) (fun _ _ _ => rfl) h.2⟩
theorem St.drawn {w0 w : World} {H : List Atom} (h : St w0 w H) (n : Nat) : St w0 { w with drawn := n } H :=
  ⟨⟨h.1.os, h.1.tape, h.1.output, h.1.size⟩, Sat.congr (w := w) (w' := { w with drawn := n }) (Nat.le_refl _) (fun _ _ _ => rfl) h.2⟩

theorem Sat.alloc {w : World} {H : List Atom} (h : Sat w (fun _ => True) H) (o : Obj) (A : Atom) (hA : ∀ h : PH, h w.heap.size = some o → A h) : Sat (w.alloc o) (fun _ => True) (A :: H) := by
  have hz : (w.alloc o).heap.size = w.heap.size + 1 := by show (w.heap.push o).size = _; simp
  refine ⟨fun b => b = w.heap.size, fun b hb => ⟨trivial, by omega⟩, hA _ ?_, ?_⟩
  · unfold res; simp only [if_true]; exact Go.heap_alloc_new w o
  · have h' := h.lt
    refine (Sat.congr (w := w) (by omega) (fun b _ hl => Below.heap_alloc w o b hl) h').mono (fun b _ hb => ⟨trivial, by have := hb.2; show ¬ b = w.heap.size; omega⟩)

theorem St.alloc {w0 w : World} {H : List Atom} (h : St w0 w H) (o : Obj) (A : Atom) (hA : ∀ h : PH, h w.heap.size = some o → A h) : St w0 (w.alloc o) (A :: H) :=
  ⟨⟨h.1.os, h.1.tape, h.1.output, by have : (w.alloc o).heap.size = w.heap.size + 1 := by { show (w.heap.push o).size = _; simp }
                                     have := h.1.size; omega⟩, h.2.alloc o A hA⟩

theorem St.alloc' {w0 w : World} {H : List Atom} (h : St w0 w H) (o : Obj) : St w0 (w.alloc o) H := (h.alloc o (fact True) (fun _ _ => trivial)).drop

/-- A change of the blocks that one atom owns. -/
theorem St.upd {w0 w w' : World} {A A' : Atom} {H : List Atom} (h : St w0 w (A :: H)) (he : Env w w')
    (hu : ∀ s : Nat → Prop, (∀ b, s b → b < w.heap.size) → A (res w s) → (∃ s' : Nat → Prop, (∀ b, s' b → b < w'.heap.size ∧ (s b ∨ w.heap.size ≤ b)) ∧ A' (res w' s')) ∧ ∀ b, ¬ s b → b < w.heap.size → w'.heap[b]? = w.heap[b]?) :
    St w0 w' (A' :: H) := by
  obtain ⟨he0, s, h1, h2, h3⟩ := h
  obtain ⟨⟨s', g1, g2⟩, g3⟩ := hu s (fun b hb => (h1 b hb).2) h2
  refine ⟨he0.trans he, s', fun b hb => ⟨trivial, (g1 b hb).1⟩, g2, ?_⟩
  refine (Sat.congr (w := w) he.size (fun b hb hl => g3 b hb.1.2 hl) h3.lt).mono (fun b hl hb => ⟨trivial, fun hs' => ?_⟩)
  rcases (g1 b hs').2 with h | h
  · exact hb.1.2 h
  · have := hb.2; omega

/-! the judgement -/
def Tri (w0 : World) (G : Act → World → Prop) (n : NT) (L : Slots) (H : List Atom) : Prop := ∀ a w, Has a n L → St w0 w H → G a w

section
variable {P : Program} {w0 : World} {n : NT} {L : Slots} {H : List Atom} {Q : Exit → Act → World → Prop} {G : Act → World → Prop}

theorem Tri.sub {l : Slots} (hs : SubL L l) (h : Tri w0 G n l H) : Tri w0 G n L H := fun a w ha hw => h a w (ha.sub hs) hw
theorem Tri.conv {H' : List Atom} (hs : ∀ w, St w0 w H → St w0 w H') (h : Tri w0 G n L H') : Tri w0 G n L H := fun a w ha hw => h a w ha (hs w hw)
theorem Tri.pull {A : Atom} {H' : List Atom} (p : Pull H A H') (h : Tri w0 G n L (A :: H')) : Tri w0 G n L H := Tri.conv (fun _ hw => hw.pull p) h
theorem Tri.drop {A : Atom} {H' : List Atom} (p : Pull H A H') (h : Tri w0 G n L H') : Tri w0 G n L H := Tri.conv (fun _ hw => (hw.pull p).drop) h
theorem Tri.imp {A B : Atom} {H' : List Atom} (p : Pull H A H') (hAB : ∀ h, A h → B h) (h : Tri w0 G n L (B :: H')) : Tri w0 G n L H := Tri.conv (fun _ hw => (hw.pull p).imp hAB) h
theorem Tri.weak {A B : Atom} {H' : List Atom} (p : Pull H A H') (hAB : ∀ h, A h → B h) (h : Tri w0 G n L (B :: H')) : Tri w0 G n L H := Tri.imp p hAB h
/-- a fact out of an atom -/
theorem Tri.know {A : Atom} {H' : List Atom} {p : Prop} (q : Pull H A H') (hA : ∀ h, A h → p) (h : p → Tri w0 G n L H) : Tri w0 G n L H := fun a w ha hw => by
  obtain ⟨s, hs⟩ := (hw.pull q).2.head
  exact h (hA _ hs) a w ha hw
/-- an atom's witness -/
theorem Tri.ex {α : Type} {A : Atom} {B : α → Atom} {H' : List Atom} (p : Pull H A H') (hAB : ∀ h, A h → ∃ x, B x h) (h : ∀ x, Tri w0 G n L (B x :: H')) : Tri w0 G n L H := fun a w ha hw => by
  obtain ⟨he, s, h1, h2, h3⟩ := hw.pull p
  obtain ⟨x, hx⟩ := hAB _ h2
  exact h x a w ha ⟨he, s, h1, hx, h3⟩
/-- an atom held as the very memory that it owns -/
theorem Tri.open {A : Atom} {H' : List Atom} (p : Pull H A H') (h : ∀ h0, A h0 → Tri w0 G n L (Ex h0 :: H')) : Tri w0 G n L H := fun a w ha hw => by
  obtain ⟨he, s, h1, h2, h3⟩ := hw.pull p
  exact h _ h2 a w ha ⟨he, s, h1, rfl, h3⟩
theorem Tri.close {A : Atom} {h0 : PH} {H' : List Atom} (p : Pull H (Ex h0) H') (hA : A h0) (h : Tri w0 G n L (A :: H')) : Tri w0 G n L H := Tri.imp p (fun g e => by have e' : g = h0 := e; rw [e']; exact hA) h

/-! control -/
theorem Tri.seq {c d : Code} (h : Tri w0 (c.wp P (Exit.then (d.wp P Q) Q)) n L H) : Tri w0 ((Code.seq c d).wp P Q) n L H := fun a w ha hw => wp_seq (h a w ha hw)
theorem Tri.block {id : Nat} {c : Code} (h : Tri w0 (c.wp P (Exit.inBlock id Q)) n L H) : Tri w0 ((Code.block id c).wp P Q) n L H := fun a w ha hw => wp_block (h a w ha hw)
theorem Tri.skip (h : Tri w0 (Q .normal) n L H) : Tri w0 (Code.skip.wp P Q) n L H := fun a w ha hw => wp_skip (h a w ha hw)
theorem Tri.exit {id : Nat} (h : Tri w0 (Q (.exit id)) n L H) : Tri w0 ((Code.exit id).wp P Q) n L H := fun a w ha hw => wp_exit (h a w ha hw)
theorem Tri.ret (h : Tri w0 (Q .ret) n L H) : Tri w0 (Code.ret.wp P Q) n L H := fun a w ha hw => wp_ret (h a w ha hw)
theorem Tri.thenN {K : Act → World → Prop} (h : Tri w0 K n L H) : Tri w0 (Exit.then K Q .normal) n L H := h
theorem Tri.thenE {K : Act → World → Prop} {id : Nat} (h : Tri w0 (Q (.exit id)) n L H) : Tri w0 (Exit.then K Q (.exit id)) n L H := h
theorem Tri.thenR {K : Act → World → Prop} (h : Tri w0 (Q .ret) n L H) : Tri w0 (Exit.then K Q .ret) n L H := h
theorem Tri.blockN {id : Nat} (h : Tri w0 (Q .normal) n L H) : Tri w0 (Exit.inBlock id Q .normal) n L H := h
theorem Tri.blockR {id : Nat} (h : Tri w0 (Q .ret) n L H) : Tri w0 (Exit.inBlock id Q .ret) n L H := h
theorem Tri.blockE {id : Nat} (h : Tri w0 (Q .normal) n L H) : Tri w0 (Exit.inBlock id Q (.exit id)) n L H := fun a w ha hw => by simp only [Exit.inBlock, if_true]; exact h a w ha hw
theorem Tri.blockE' {id id' : Nat} (hne : Nat.beq id' id = false) (h : Tri w0 (Q (.exit id')) n L H) : Tri w0 (Exit.inBlock id Q (.exit id')) n L H := fun a w ha hw => by
  have : id' ≠ id := by intro e; subst e; simp at hne
  simp only [Exit.inBlock, this, if_false]; exact h a w ha hw

theorem Tri.cond {c : Operand} {x y : Code} {b : Bool} (hc : ev L c = .some (.bool b)) (ht : b = true → Tri w0 (x.wp P Q) n L H) (hf : b = false → Tri w0 (y.wp P Q) n L H) : Tri w0 ((Code.cond c x y).wp P Q) n L H := fun a w ha hw =>
  wp_cond_split (ha.eval hc) (fun e => ht e a w ha hw) (fun e => hf e a w ha hw)
theorem Tri.condD {c : Operand} {x y : Code} {p : Prop} {dp : Decidable p} (hc : ev L c = .some (.bool (@decide p dp))) (ht : p → Tri w0 (x.wp P Q) n L H) (hf : ¬ p → Tri w0 (y.wp P Q) n L H) : Tri w0 ((Code.cond c x y).wp P Q) n L H :=
  Tri.cond hc (fun e => ht (of_decide_eq_true e)) (fun e => hf (of_decide_eq_false e))
theorem Tri.condT {c : Operand} {x y : Code} {b : Bool} (hc : ev L c = .some (.bool b)) (hb : b = true) (h : Tri w0 (x.wp P Q) n L H) : Tri w0 ((Code.cond c x y).wp P Q) n L H := Tri.cond hc (fun _ => h) (fun e => by rw [hb] at e; cases e)
theorem Tri.condF {c : Operand} {x y : Code} {b : Bool} (hc : ev L c = .some (.bool b)) (hb : b = false) (h : Tri w0 (y.wp P Q) n L H) : Tri w0 ((Code.cond c x y).wp P Q) n L H := Tri.cond hc (fun e => by rw [hb] at e; cases e) (fun _ => h)

theorem Tri.region {id : Nat} {l : List Oper} (h : Tri w0 (wpList P l.toArray Q l) n L H) : Tri w0 ((Code.region id l.toArray false).wp P Q) n L H := fun a w ha hw => wp_region_lit (h a w ha hw)
theorem Tri.nil {ops : Array Oper} (h : Tri w0 (Q .normal) n L H) : Tri w0 (wpList P ops Q []) n L H := h

/-- one operation that is wanted, with what follows -/
def OpG (P : Program) (o : Oper) (K : Act → World → Prop) (Q : Exit → Act → World → Prop) : Act → World → Prop := fun a w => o.wp P a w K Q ∨ (o.asks P a w ∧ LetsOut Q)

theorem Tri.op {ops : Array Oper} {o : Oper} {rest : List Oper} (hg : o.guard = none) (h : Tri w0 (OpG P o (wpList P ops Q rest) Q) n L H) : Tri w0 (wpList P ops Q (o :: rest)) n L H := fun a w ha hw => by
  unfold wpList
  rw [if_pos (by simp [Region.wanted, hg])]
  exact h a w ha hw

/-- what a guard reads -/
def yl (L : Slots) (ops : Array Oper) (j : Nat) : Option Bool :=
  match (ops[j]?).bind (·.dst) with
  | some d => match look L d with
    | some (.bool b) => some b
    | _ => none
  | none => none

theorem yl_yielded {a : Act} {ops : Array Oper} {j : Nat} {b : Bool} (ha : Has a n L) (h : yl L ops j = some b) : yielded ops a.tmps j = some b := by
  unfold yl at h
  cases hd : (ops[j]?).bind (·.dst) with
  | none => simp [hd] at h
  | some d =>
    simp only [hd] at h
    cases hl : look L d with
    | none => simp [hl] at h
    | some v =>
      have hv := ha.get d v hl
      cases v with
      | bool c =>
        simp [hl] at h; subst h
        cases ho : ops[j]? with
        | none => simp [ho] at hd
        | some o =>
          simp [ho] at hd
          simp [yielded, ho, hd, hv]
      | _ => simp [hl] at h

theorem Tri.opYes {ops : Array Oper} {o : Oper} {rest : List Oper} {j : Nat} {b b' : Bool} (hg : o.guard = some (j, b)) (hy : yl L ops j = some b') (hb : b' = b) (h : Tri w0 (OpG P o (wpList P ops Q rest) Q) n L H) : Tri w0 (wpList P ops Q (o :: rest)) n L H := fun a w ha hw => by
  subst hb
  unfold wpList
  rw [if_pos (by simp [Region.wanted, hg, yl_yielded ha hy])]
  exact h a w ha hw

theorem Tri.opNo {ops : Array Oper} {o : Oper} {rest : List Oper} {j : Nat} {b b' c : Bool} {d : Nat} (hg : o.guard = some (j, b)) (hd : o.dst = some d) (hn : Nat.blt d n = true) (hy : yl L ops j = some b') (hb : b' = c) (hc : (c != b) = true) (h : Tri w0 (wpList P ops Q rest) n ((d, undef) :: L) H) : Tri w0 (wpList P ops Q (o :: rest)) n L H := fun a w ha hw => by
  subst hb
  have hne : b' ≠ b := by simpa using hc
  unfold wpList
  rw [if_neg (by simp [Region.wanted, hg, yl_yielded ha hy, hne]), hd]
  exact h _ w (ha.put hn _) hw

/-- the loop -/
theorem Tri.loop {α : Type} {c : Code} (m : α → Nat) (Lx : α → Slots) (Hx : α → List Atom) (x0 : α) (hL : SubL L (Lx x0)) (hH : ∀ w, St w0 w H → St w0 w (Hx x0))
    (h : ∀ x mx, mx = m x → Tri w0 (c.wp P (Exit.then (fun a w => ∃ y, m y < mx ∧ Has a n (Lx y) ∧ St w0 w (Hx y)) Q)) n (Lx x) (Hx x)) : Tri w0 ((Code.loop c).wp P Q) n L H := fun a w ha hw => by
  intro b kk cs
  have key : ∀ k x, m x = k → ∀ a w, Has a n (Lx x) → St w0 w (Hx x) →
      ∃ e a' w', Q e a' w' ∧ Arrives P (lone (b.at a (.code c :: .inLoop c :: kk)) cs w) b kk cs e a' w' := by
    intro k
    induction k using Nat.strongRecOn with
    | _ k ih =>
      intro x hx a w ha hw
      obtain ⟨e, a1, w1, hq, harr⟩ := h x (m x) rfl a w ha hw b (.inLoop c :: kk) cs
      cases e with
      | normal =>
        obtain ⟨y, hlt, hb, hc⟩ := hq
        obtain ⟨e2, a2, w2, hq2, harr2⟩ := ih (m y) (by omega) y rfl a1 w1 hb hc
        exact ⟨e2, a2, w2, hq2, .of_steps (Steps.trans harr (.one step_inLoop)) harr2⟩
      | exit id => exact ⟨_, a1, w1, hq, .pass (x := .inLoop c) rfl (fun _ _ => .inl (by simp)) harr⟩
      | goto l => exact ⟨_, a1, w1, hq, .pass (x := .inLoop c) rfl (fun _ _ => .inl (by simp)) harr⟩
      | ret => exact ⟨_, a1, w1, hq, .pass (x := .inLoop c) rfl (fun _ _ => .inl (by simp)) harr⟩
      | panic ch => exact ⟨_, a1, w1, hq, .pass (x := .inLoop c) rfl (fun _ _ => .inl (by simp)) harr⟩
      | outgrown => exact ⟨_, a1, w1, hq, .pass (x := .inLoop c) rfl (fun _ _ => .inl (by simp)) harr⟩
  obtain ⟨e, a', w', hq, harr⟩ := key _ x0 rfl a w (ha.sub hL) (hH w hw)
  exact ⟨e, a', w', hq, .of_steps (.one step_loop) harr⟩

end
end Go.Gv
