/- Texts of this claim, put together: GvCore, GvOps, GvMem, GvCall, GvBits, GvMore, GvDraw, GvTail, GvData, GvEq, GvExt, GvField. -/
import Derived.WalkKit
import Derived.ProofKit
import Derived.KernelRfl
import Derived.StillTail
import Derived.ChangeKeysEq
set_option maxHeartbeats 64000000
namespace Go
theorem dTt {p : Prop} [h : Decidable p] (q : p) : decide p = true := decide_eq_true q
theorem dFf {p : Prop} [h : Decidable p] (q : ¬p) : decide p = false := decide_eq_false q
theorem lAp {α : Type _} {x y : List α} : (x ++ y).length = x.length + y.length := List.length_append
theorem aAs {α : Type _} (x y z : List α) : x ++ y ++ z = x ++ (y ++ z) := List.append_assoc x y z
theorem gDe {α : Type _} {l : List α} {i : Nat} {a : α} : l.getD i a = l[i]?.getD a := List.getD_eq_getElem?_getD
theorem gEe {α : Type _} {l : List α} {i : Nat} (h : i < l.length) : l[i]? = some l[i] := List.getElem?_eq_getElem h
theorem lTk {α : Type _} {i : Nat} {l : List α} : (l.take i).length = min i l.length := List.length_take
theorem lDp {α : Type _} {i : Nat} {l : List α} : (l.drop i).length = l.length - i := List.length_drop
theorem cAp {α : Type _} (a : α) (x y : List α) : a :: x ++ y = a :: (x ++ y) := rfl
theorem nAp {α : Type _} (x : List α) : [] ++ x = x := rfl
theorem mCm {α : Type _} {a : α} {l : List α} (b : α) (h : a ∈ l) : a ∈ b :: l := List.mem_cons_of_mem b h
theorem mAl {α : Type _} {a : α} {l : List α} (x : List α) (h : a ∈ l) : a ∈ l ++ x := List.mem_append_left x h
theorem mAr {α : Type _} {a : α} {l : List α} (x : List α) (h : a ∈ l) : a ∈ x ++ l := List.mem_append_right x h
theorem lCn {α : Type _} {a : α} {l : List α} : (a :: l).length = l.length + 1 := List.length_cons
end Go
set_option linter.unusedVariables false
set_option linter.unusedSimpArgs false
namespace Go.Gv
open Go Go.RowKit
abbrev PH:=Nat→Option Obj
abbrev Atom:=PH→Prop
abbrev Slots:=List (Nat×Value)
def look:Slots→Nat→Option Value
 | [],_=>none
 | (k,v)::L,t=>bif Nat.beq k t then some v else look L t
theorem look_cons (k:Nat)(v:Value)(L:Slots)(t:Nat):look ((k,v)::L) t=if k=t then some v else look L t:=by
 by_cases h:k=t
 ·subst h;simp [look]
 ·have:Nat.beq k t=false:=by
   cases hb:Nat.beq k t
   ·rfl
   ·exact absurd (Nat.eq_of_beq_eq_true hb) h
  simp [look,this,h]
structure NT where
 k:Nat
 ds:List Deferred
instance:Coe NT Nat:=⟨NT.k⟩
structure Has (a:Act)(n:NT)(L:Slots):Prop where
 defers:a.defers=n.ds
 size:a.tmps.size=n.k
 get: ∀t v,look L t=some v→a.tmps[t]? =some v
def ev (L:Slots):Operand→Option Value
 | .tmp t=>look L t
 | .const v=>some v
 | .global g=>some (.pointer (some ⟨g,0,none⟩))
 | .func f=>some (.func (.func f) #[] #[])
theorem Has.eval {a:Act}{n:NT}{L:Slots}(h:Has a n L){x:Operand}{v:Value}(e:ev L x=some v):a.eval x=v:=by
 cases x with
 | tmp t=>simp only [ev] at e;simp [Act.eval,h.get t v e]
 | const u=>simpa [ev,Act.eval] using e
 | global g=>simpa [ev,Act.eval] using e
 | func f=>simpa [ev,Act.eval] using e
theorem Has.put {a:Act}{n:NT}{L:Slots}(h:Has a n L){d:Nat}(hd:Nat.blt d n.k=true)(v:Value):Has (a.put (some d) v) n ((d,v)::L):=by
 have hd':d<n.k:=by simpa [Nat.blt_eq] using hd
 refine⟨h.defers,by simp [Act.put,h.size],fun t u hu=>?_⟩
 rw [look_cons] at hu
 by_cases e:d=t
 ·subst e
  simp at hu;subst hu
  simp [Act.put,h.size,hd']
 ·rw [if_neg e] at hu
  have:=h.get t u hu
  simp [Act.put,Array.getElem?_setIfInBounds_ne e,this]
def SubL (L:Slots):Slots→Prop
 | [] =>True
 | (k,v)::l=>look L k=some v∧SubL L l
theorem SubL.look {L:Slots}: ∀{l:Slots},SubL L l→ ∀t v,look l t=some v→Gv.look L t=some v
 | [],_,t,v,h=>by simp [Gv.look] at h
 | (k,u)::l,hs,t,v,h=>by
  rw [look_cons] at h
  by_cases e:k=t
  ·subst e;simp at h;subst h;exact hs.1
  ·rw [if_neg e] at h;exact SubL.look hs.2 t v h
theorem Has.sub {a:Act}{n:NT}{L l:Slots}(h:Has a n L)(hs:SubL L l):Has a n l:=⟨h.defers,h.size,fun t v e=>h.get t v (hs.look t v e)⟩
open Classical in
noncomputable def res (w:World) (s:Nat→Prop):PH:=fun b=>if s b then w.heap[b]? else none
theorem res_congr {w w':World}{s:Nat→Prop}(h: ∀b,s b→w'.heap[b]? =w.heap[b]?):res w' s=res w s:=by
 funext b;unfold res;split
 ·exact h b ‹_›
 ·rfl
def Sat (w:World):(Nat→Prop)→List Atom→Prop
 | _, [] =>True
 | av,A::H=> ∃s:Nat→Prop,(∀b,s b→av b∧b<w.heap.size)∧A (res w s)∧Sat w (fun b=>av b∧ ¬s b) H
theorem Sat.mono {w:World}: ∀{H:List Atom} {av av':Nat→Prop},(∀b,b<w.heap.size→av b→av' b)→Sat w av H→Sat w av' H
 | [],_,_,_,_=>trivial
 | _::_,_,_,h,⟨s,h1,h2,h3⟩=>⟨s,fun b hb=>⟨h b (h1 b hb).2 (h1 b hb).1,(h1 b hb).2⟩,h2,Sat.mono (fun b hl hb=>⟨h b hl hb.1,hb.2⟩) h3⟩
theorem Sat.congr {w w':World}(hs:w.heap.size≤w'.heap.size): ∀{H:List Atom} {av:Nat→Prop},(∀b,av b→b<w.heap.size→w'.heap[b]? =w.heap[b]?)→Sat w av H→Sat w' av H
 | [],_,_,_=>trivial
 | _::_,av,h,⟨s,h1,h2,h3⟩=>⟨s,fun b hb=>⟨(h1 b hb).1,Nat.lt_of_lt_of_le (h1 b hb).2 hs⟩,by rw [res_congr (fun b hb=>h b (h1 b hb).1 (h1 b hb).2)];exact h2,
   Sat.congr hs (fun b hb hl=>h b hb.1 hl) h3⟩
theorem Sat.lt {w:World}: ∀{H:List Atom} {av:Nat→Prop},Sat w av H→Sat w (fun b=>av b∧b<w.heap.size) H
 | _,_,h=>Sat.mono (fun _ hl hb=>⟨hb,hl⟩) h
theorem Sat.swap {w:World}{av:Nat→Prop}{A B:Atom}{H:List Atom}(h:Sat w av (A::B::H)):Sat w av (B::A::H):=by
 obtain⟨s,h1,h2,t,g1,g2,h3⟩:=h
 refine⟨t,fun b hb=>⟨(g1 b hb).1.1,(g1 b hb).2⟩,g2,s,fun b hb=>⟨⟨(h1 b hb).1,fun ht=>(g1 b ht).1.2 hb⟩,(h1 b hb).2⟩,h2,h3.mono (fun b _ hb=>⟨⟨hb.1.1,hb.2⟩,hb.1.2⟩)⟩
inductive Pull:List Atom→Atom→List Atom→Prop
 | head {A:Atom} {H:List Atom}:Pull (A::H) A H
 | tail {A B:Atom} {H H':List Atom}:Pull H A H'→Pull (B::H) A (B::H')
theorem Sat.pull {w:World}{A:Atom}: ∀{H H':List Atom} {av:Nat→Prop},Pull H A H'→Sat w av H→Sat w av (A::H')
 | _,_,_, .head,h=>h
 | _,_,_, .tail p,⟨s,h1,h2,h3⟩=>Sat.swap ⟨s,h1,h2,Sat.pull p h3⟩
theorem Sat.push {w:World}{A:Atom}: ∀{H H':List Atom} {av:Nat→Prop},Pull H A H'→Sat w av (A::H')→Sat w av H
 | _,_,_, .head,h=>h
 | _,_,_, .tail p,h=>by
  obtain⟨s,h1,h2,h3⟩:=Sat.swap h
  exact⟨s,h1,h2,Sat.push p h3⟩
theorem Sat.drop {w:World}{A:Atom}{H:List Atom}{av:Nat→Prop}(h:Sat w av (A::H)):Sat w av H:=by
 obtain⟨s,_,_,h3⟩:=h
 exact h3.mono (fun _ _ hb=>hb.1)
theorem Sat.imp {w:World}{A B:Atom}{H:List Atom}{av:Nat→Prop}(hAB: ∀h,A h→B h)(h:Sat w av (A::H)):Sat w av (B::H):=by
 obtain⟨s,h1,h2,h3⟩:=h
 exact⟨s,h1,hAB _ h2,h3⟩
theorem Sat.head {w:World}{A:Atom}{H:List Atom}{av:Nat→Prop}(h:Sat w av (A::H)): ∃s:Nat→Prop,A (res w s):=by
 obtain⟨s,_,h2,_⟩:=h;exact⟨s,h2⟩
def blk (b:Nat)(T:TypeId)(cs:List Value):Atom:=fun h=>h b=some (.cells cs.toArray T (0,0))
def Ex (h0:PH):Atom:=fun h=>h=h0
def fact (p:Prop):Atom:=fun _=>p
noncomputable def hp (w:World):PH:=fun b=>w.heap[b]?
theorem res_some {w:World}{s:Nat→Prop}{b:Nat}{o:Obj}(h:res w s b=some o):s b∧w.heap[b]? =some o:=by
 unfold res at h;split at h
 ·exact⟨‹_›,h⟩
 ·cases h
theorem Sat.append {w:World}: ∀{H1 H2:List Atom} {av av1 av2:Nat→Prop},(∀b,av1 b→av b)→(∀b,av2 b→av b)→(∀b,av1 b→av2 b→False)→Sat w av1 H1→Sat w av2 H2→Sat w av (H1++H2)
 | [],_,_,_,_,_,h2,_,_,s2=>s2.mono (fun b _ hb=>h2 b hb)
 | _::_,_,_,av1,_,h1,h2,hd,⟨s,g1,g2,g3⟩,s2=>
  ⟨s,fun b hb=>⟨h1 b (g1 b hb).1,(g1 b hb).2⟩,g2,Sat.append (av1:=fun b=>av1 b∧ ¬s b) (fun b hb=>⟨h1 b hb.1,hb.2⟩) (fun b hb=>⟨h2 b hb,fun hs=>hd b (g1 b hs).1 hb⟩) (fun b h h'=>hd b h.1 h') g3 s2⟩
theorem Sat.left {w:World}: ∀{H1 H2:List Atom} {av:Nat→Prop},Sat w av (H1++H2)→Sat w av H1
 | [],_,_,_=>trivial
 | _::_,_,_,⟨s,g1,g2,g3⟩=>⟨s,g1,g2,g3.left⟩
theorem Sat.right {w:World}: ∀{H1 H2:List Atom} {av:Nat→Prop},Sat w av (H1++H2)→Sat w av H2
 | [],_,_,h=>h
 | _::_,_,_,⟨_,_,_,g3⟩=>(Sat.right g3).mono (fun _ _ hb=>hb.1)
structure Env (w0 w:World):Prop where
 os:w.os=w0.os
 tape:w.tape=w0.tape
 output:w.output=w0.output
 size:w0.heap.size≤w.heap.size
theorem Env.refl (w:World):Env w w:=⟨rfl,rfl,rfl,Nat.le_refl _⟩
theorem Env.trans {a b c:World}(h:Env a b)(k:Env b c):Env a c:=⟨k.os.trans h.os,k.tape.trans h.tape,k.output.trans h.output,Nat.le_trans h.size k.size⟩
def St (w0 w:World)(H:List Atom):Prop:=Env w0 w∧Sat w (fun _=>True) H
theorem St.pull {w0 w:World}{A:Atom}{H H':List Atom}(p:Pull H A H')(h:St w0 w H):St w0 w (A::H'):=⟨h.1,h.2.pull p⟩
theorem St.push {w0 w:World}{A:Atom}{H H':List Atom}(p:Pull H A H')(h:St w0 w (A::H')):St w0 w H:=⟨h.1,h.2.push p⟩
theorem St.drop {w0 w:World}{A:Atom}{H:List Atom}(h:St w0 w (A::H)):St w0 w H:=⟨h.1,h.2.drop⟩
theorem St.imp {w0 w:World}{A B:Atom}{H:List Atom}(hAB: ∀h,A h→B h)(h:St w0 w (A::H)):St w0 w (B::H):=⟨h.1,h.2.imp hAB⟩
theorem St.drew {w0 w:World}{H:List Atom}(h:St w0 w H):St w0 w.drew H:=
 ⟨⟨h.1.os,h.1.tape,h.1.output,h.1.size⟩,Sat.congr (w:=w) (w':=w.drew) (Nat.le_refl _) (fun _ _ _=>rfl) h.2⟩
theorem St.drawn {w0 w:World}{H:List Atom}(h:St w0 w H)(n:Nat):St w0 { w with drawn:=n } H:=
 ⟨⟨h.1.os,h.1.tape,h.1.output,h.1.size⟩,Sat.congr (w:=w) (w':={ w with drawn:=n }) (Nat.le_refl _) (fun _ _ _=>rfl) h.2⟩
theorem Sat.alloc {w:World}{H:List Atom}(h:Sat w (fun _=>True) H)(o:Obj)(A:Atom)(hA: ∀h:PH,h w.heap.size=some o→A h):Sat (w.alloc o) (fun _=>True) (A::H):=by
 have hz:(w.alloc o).heap.size=w.heap.size+1:=by show (w.heap.push o).size=_;simp
 refine⟨fun b=>b=w.heap.size,fun b hb=>⟨trivial,by omega⟩,hA _ ?_, ?_⟩
 ·unfold res;simp only [if_true];exact Go.heap_alloc_new w o
 ·have h':=h.lt
  refine(Sat.congr (w:=w) (by omega) (fun b _ hl=>Below.heap_alloc w o b hl) h').mono (fun b _ hb=>⟨trivial,by have:=hb.2;show ¬b=w.heap.size;omega⟩)
theorem St.alloc {w0 w:World}{H:List Atom}(h:St w0 w H)(o:Obj)(A:Atom)(hA: ∀h:PH,h w.heap.size=some o→A h):St w0 (w.alloc o) (A::H):=
 ⟨⟨h.1.os,h.1.tape,h.1.output,by have:(w.alloc o).heap.size=w.heap.size+1:=by { show (w.heap.push o).size=_;simp }
                                 have:=h.1.size;omega⟩,h.2.alloc o A hA⟩
theorem St.upd {w0 w w':World}{A A':Atom}{H:List Atom}(h:St w0 w (A::H))(he:Env w w')
  (hu: ∀s:Nat→Prop,(∀b,s b→b<w.heap.size)→A (res w s)→(∃s':Nat→Prop,(∀b,s' b→b<w'.heap.size∧(s b∨w.heap.size≤b))∧A' (res w' s'))∧ ∀b, ¬s b→b<w.heap.size→w'.heap[b]? =w.heap[b]?):
  St w0 w' (A'::H):=by
 obtain⟨he0,s,h1,h2,h3⟩:=h
 obtain⟨⟨s',g1,g2⟩,g3⟩:=hu s (fun b hb=>(h1 b hb).2) h2
 refine⟨he0.trans he,s',fun b hb=>⟨trivial,(g1 b hb).1⟩,g2, ?_⟩
 refine(Sat.congr (w:=w) he.size (fun b hb hl=>g3 b hb.1.2 hl) h3.lt).mono (fun b hl hb=>⟨trivial,fun hs'=>?_⟩)
 rcases(g1 b hs').2 with h | h
 ·exact hb.1.2 h
 ·have:=hb.2;omega
def Tri (w0:World)(G:Act→World→Prop)(n:NT)(L:Slots)(H:List Atom):Prop:= ∀a w,Has a n L→St w0 w H→G a w
section
variable {P:Program} {w0:World} {n:NT} {L:Slots} {H:List Atom} {Q:Exit→Act→World→Prop} {G:Act→World→Prop}
theorem Tri.sub {l:Slots}(hs:SubL L l)(h:Tri w0 G n l H):Tri w0 G n L H:=fun a w ha hw=>h a w (ha.sub hs) hw
theorem Tri.conv {H':List Atom}(hs: ∀w,St w0 w H→St w0 w H')(h:Tri w0 G n L H'):Tri w0 G n L H:=fun a w ha hw=>h a w ha (hs w hw)
theorem Tri.pull {A:Atom}{H':List Atom}(p:Pull H A H')(h:Tri w0 G n L (A::H')):Tri w0 G n L H:=Tri.conv (fun _ hw=>hw.pull p) h
theorem Tri.drop {A:Atom}{H':List Atom}(p:Pull H A H')(h:Tri w0 G n L H'):Tri w0 G n L H:=Tri.conv (fun _ hw=>(hw.pull p).drop) h
theorem Tri.imp {A B:Atom}{H':List Atom}(p:Pull H A H')(hAB: ∀h,A h→B h)(h:Tri w0 G n L (B::H')):Tri w0 G n L H:=Tri.conv (fun _ hw=>(hw.pull p).imp hAB) h
theorem Tri.know {A:Atom}{H':List Atom}{p:Prop}(q:Pull H A H')(hA: ∀h,A h→p)(h:p→Tri w0 G n L H):Tri w0 G n L H:=fun a w ha hw=>by
 obtain⟨s,hs⟩:=(hw.pull q).2.head
 exact h (hA _ hs) a w ha hw
theorem Tri.ex {α:Type}{A:Atom}{B:α→Atom}{H':List Atom}(p:Pull H A H')(hAB: ∀h,A h→ ∃x,B x h)(h: ∀x,Tri w0 G n L (B x::H')):Tri w0 G n L H:=fun a w ha hw=>by
 obtain⟨he,s,h1,h2,h3⟩:=hw.pull p
 obtain⟨x,hx⟩:=hAB _ h2
 exact h x a w ha ⟨he,s,h1,hx,h3⟩
theorem Tri.open {A:Atom}{H':List Atom}(p:Pull H A H')(h: ∀h0,A h0→Tri w0 G n L (Ex h0::H')):Tri w0 G n L H:=fun a w ha hw=>by
 obtain⟨he,s,h1,h2,h3⟩:=hw.pull p
 exact h _ h2 a w ha ⟨he,s,h1,rfl,h3⟩
theorem Tri.close {A:Atom}{h0:PH}{H':List Atom}(p:Pull H (Ex h0) H')(hA:A h0)(h:Tri w0 G n L (A::H')):Tri w0 G n L H:=Tri.imp p (fun g e=>by have e':g=h0:=e;rw [e'];exact hA) h
theorem Tri.seq {c d:Code}(h:Tri w0 (c.wp P (Exit.then (d.wp P Q) Q)) n L H):Tri w0 ((Code.seq c d).wp P Q) n L H:=fun a w ha hw=>wp_seq (h a w ha hw)
theorem Tri.block {id:Nat}{c:Code}(h:Tri w0 (c.wp P (Exit.inBlock id Q)) n L H):Tri w0 ((Code.block id c).wp P Q) n L H:=fun a w ha hw=>wp_block (h a w ha hw)
theorem Tri.skip (h:Tri w0 (Q .normal) n L H):Tri w0 (Code.skip.wp P Q) n L H:=fun a w ha hw=>wp_skip (h a w ha hw)
theorem Tri.exit {id:Nat}(h:Tri w0 (Q (.exit id)) n L H):Tri w0 ((Code.exit id).wp P Q) n L H:=fun a w ha hw=>wp_exit (h a w ha hw)
theorem Tri.ret (h:Tri w0 (Q .ret) n L H):Tri w0 (Code.ret.wp P Q) n L H:=fun a w ha hw=>wp_ret (h a w ha hw)
theorem Tri.thenN {K:Act→World→Prop}(h:Tri w0 K n L H):Tri w0 (Exit.then K Q .normal) n L H:=h
theorem Tri.thenE {K:Act→World→Prop}{id:Nat}(h:Tri w0 (Q (.exit id)) n L H):Tri w0 (Exit.then K Q (.exit id)) n L H:=h
theorem Tri.thenR {K:Act→World→Prop}(h:Tri w0 (Q .ret) n L H):Tri w0 (Exit.then K Q .ret) n L H:=h
theorem Tri.blockN {id:Nat}(h:Tri w0 (Q .normal) n L H):Tri w0 (Exit.inBlock id Q .normal) n L H:=h
theorem Tri.blockR {id:Nat}(h:Tri w0 (Q .ret) n L H):Tri w0 (Exit.inBlock id Q .ret) n L H:=h
theorem Tri.blockE {id:Nat}(h:Tri w0 (Q .normal) n L H):Tri w0 (Exit.inBlock id Q (.exit id)) n L H:=fun a w ha hw=>by simp only [Exit.inBlock,if_true];exact h a w ha hw
theorem Tri.blockE' {id id':Nat}(hne:Nat.beq id' id=false)(h:Tri w0 (Q (.exit id')) n L H):Tri w0 (Exit.inBlock id Q (.exit id')) n L H:=fun a w ha hw=>by
 have:id'≠id:=by intro e;subst e;simp at hne
 simp only [Exit.inBlock,this,if_false];exact h a w ha hw
theorem Tri.cond {c:Operand}{x y:Code}{b:Bool}(hc:ev L c= .some (.bool b))(ht:b=true→Tri w0 (x.wp P Q) n L H)(hf:b=false→Tri w0 (y.wp P Q) n L H):Tri w0 ((Code.cond c x y).wp P Q) n L H:=fun a w ha hw=>
 wp_cond_split (ha.eval hc) (fun e=>ht e a w ha hw) (fun e=>hf e a w ha hw)
theorem Tri.condD {c:Operand}{x y:Code}{p:Prop}{dp:Decidable p}(hc:ev L c= .some (.bool (@decide p dp)))(ht:p→Tri w0 (x.wp P Q) n L H)(hf: ¬p→Tri w0 (y.wp P Q) n L H):Tri w0 ((Code.cond c x y).wp P Q) n L H:=
 Tri.cond hc (fun e=>ht (of_decide_eq_true e)) (fun e=>hf (of_decide_eq_false e))
theorem Tri.condT {c:Operand}{x y:Code}{b:Bool}(hc:ev L c= .some (.bool b))(hb:b=true)(h:Tri w0 (x.wp P Q) n L H):Tri w0 ((Code.cond c x y).wp P Q) n L H:=Tri.cond hc (fun _=>h) (fun e=>by rw [hb] at e;cases e)
theorem Tri.condF {c:Operand}{x y:Code}{b:Bool}(hc:ev L c= .some (.bool b))(hb:b=false)(h:Tri w0 (y.wp P Q) n L H):Tri w0 ((Code.cond c x y).wp P Q) n L H:=Tri.cond hc (fun e=>by rw [hb] at e;cases e) (fun _=>h)
theorem Tri.region {id:Nat}{l:List Oper}(h:Tri w0 (wpList P l.toArray Q l) n L H):Tri w0 ((Code.region id l.toArray false).wp P Q) n L H:=fun a w ha hw=>wp_region_lit (h a w ha hw)
theorem Tri.nil {ops:Array Oper}(h:Tri w0 (Q .normal) n L H):Tri w0 (wpList P ops Q []) n L H:=h
def OpG (P:Program)(o:Oper)(K:Act→World→Prop)(Q:Exit→Act→World→Prop):Act→World→Prop:=fun a w=>o.wp P a w K Q∨(o.asks P a w∧LetsOut Q)
theorem Tri.op {ops:Array Oper}{o:Oper}{rest:List Oper}(hg:o.guard=none)(h:Tri w0 (OpG P o (wpList P ops Q rest) Q) n L H):Tri w0 (wpList P ops Q (o::rest)) n L H:=fun a w ha hw=>by
 unfold wpList
 rw [if_pos (by simp [Region.wanted,hg])]
 exact h a w ha hw
def yl (L:Slots)(ops:Array Oper)(j:Nat):Option Bool:=
 match (ops[j]?).bind (·.dst) with
 | some d=>match look L d with
  | some (.bool b)=>some b
  | _=>none
 | none=>none
theorem yl_yielded {a:Act}{ops:Array Oper}{j:Nat}{b:Bool}(ha:Has a n L)(h:yl L ops j=some b):yielded ops a.tmps j=some b:=by
 unfold yl at h
 cases hd:(ops[j]?).bind (·.dst) with
 | none=>simp [hd] at h
 | some d=>
  simp only [hd] at h
  cases hl:look L d with
  | none=>simp [hl] at h
  | some v=>
   have hv:=ha.get d v hl
   cases v with
   | bool c=>
    simp [hl] at h;subst h
    cases ho:ops[j]? with
    | none=>simp [ho] at hd
    | some o=>
     simp [ho] at hd
     simp [yielded,ho,hd,hv]
   | _=>simp [hl] at h
theorem Tri.opYes {ops:Array Oper}{o:Oper}{rest:List Oper}{j:Nat}{b b':Bool}(hg:o.guard=some (j,b))(hy:yl L ops j=some b')(hb:b'=b)(h:Tri w0 (OpG P o (wpList P ops Q rest) Q) n L H):Tri w0 (wpList P ops Q (o::rest)) n L H:=fun a w ha hw=>by
 subst hb
 unfold wpList
 rw [if_pos (by simp [Region.wanted,hg,yl_yielded ha hy])]
 exact h a w ha hw
theorem Tri.opNo {ops:Array Oper}{o:Oper}{rest:List Oper}{j:Nat}{b b' c:Bool}{d:Nat}(hg:o.guard=some (j,b))(hd:o.dst=some d)(hn:Nat.blt d n=true)(hy:yl L ops j=some b')(hb:b'=c)(hc:(c !=b)=true)(h:Tri w0 (wpList P ops Q rest) n ((d,undef)::L) H):Tri w0 (wpList P ops Q (o::rest)) n L H:=fun a w ha hw=>by
 subst hb
 have hne:b'≠b:=by simpa using hc
 unfold wpList
 rw [if_neg (by simp [Region.wanted,hg,yl_yielded ha hy,hne]),hd]
 exact h _ w (ha.put hn _) hw
theorem Tri.loop {α:Type}{c:Code}(m:α→Nat)(Lx:α→Slots)(Hx:α→List Atom)(x0:α)(hL:SubL L (Lx x0))(hH: ∀w,St w0 w H→St w0 w (Hx x0))
  (h: ∀x mx,mx=m x→Tri w0 (c.wp P (Exit.then (fun a w=> ∃y,m y<mx∧Has a n (Lx y)∧St w0 w (Hx y)) Q)) n (Lx x) (Hx x)):Tri w0 ((Code.loop c).wp P Q) n L H:=fun a w ha hw=>by
 intro b kk cs
 have key: ∀k x,m x=k→ ∀a w,Has a n (Lx x)→St w0 w (Hx x)→
   ∃e a' w',Q e a' w'∧Arrives P (lone (b.at a (.code c:: .inLoop c::kk)) cs w) b kk cs e a' w':=by
  intro k
  induction k using Nat.strongRecOn with
  | _ k ih=>
   intro x hx a w ha hw
   obtain⟨e,a1,w1,hq,harr⟩:=h x (m x) rfl a w ha hw b (.inLoop c::kk) cs
   cases e with
   | normal=>
    obtain⟨y,hlt,hb,hc⟩:=hq
    obtain⟨e2,a2,w2,hq2,harr2⟩:=ih (m y) (by omega) y rfl a1 w1 hb hc
    exact⟨e2,a2,w2,hq2, .of_steps (Steps.trans harr (.one step_inLoop)) harr2⟩
   | exit id=>exact⟨_,a1,w1,hq, .pass (x:= .inLoop c) rfl (fun _ _=> .inl (by simp)) harr⟩
   | goto l=>exact⟨_,a1,w1,hq, .pass (x:= .inLoop c) rfl (fun _ _=> .inl (by simp)) harr⟩
   | ret=>exact⟨_,a1,w1,hq, .pass (x:= .inLoop c) rfl (fun _ _=> .inl (by simp)) harr⟩
   | panic ch=>exact⟨_,a1,w1,hq, .pass (x:= .inLoop c) rfl (fun _ _=> .inl (by simp)) harr⟩
   | outgrown=>exact⟨_,a1,w1,hq, .pass (x:= .inLoop c) rfl (fun _ _=> .inl (by simp)) harr⟩
 obtain⟨e,a',w',hq,harr⟩:=key _ x0 rfl a w (ha.sub hL) (hH w hw)
 exact⟨e,a',w',hq, .of_steps (.one step_loop) harr⟩
end
class TPlain (P:Program) (T:TypeId):Prop where
 ok:(match P.underlying T with | some (.struct _) | some (.array _ _) | none=>false | some _=>true)=true
class TAgg (P:Program) (T:TypeId) (n:outParam Nat):Prop where
 ok:(match P.underlying T with | some (.struct _) | some (.array _ _)=>true | _=>false)=true
 size:(P.info? T).map (·.size)=some n
class TSize (P:Program) (T:TypeId) (n:outParam Nat):Prop where
 ok:(P.info? T).map (·.size)=some n
class TZero (P:Program) (T:TypeId) (z:outParam (List Value)):Prop where
 ok:(P.info? T).map (fun i=>i.zero.map (·.cells.toList))=some (some z)
class TField (P:Program) (T:TypeId) (f:Nat) (off:outParam Nat):Prop where
 ok: ∃fs fd,P.underlying T=some (.struct fs)∧fs[f]? =some fd∧fd.offset=off∧((P.info? fd.type).map fun i=>decide (i.size=0))=some false
class TInt (P:Program) (T:TypeId) (k:outParam IntKind):Prop where
 ok:P.underlying T=some (.int k)
class TSlice (P:Program) (T:TypeId) (e:outParam TypeId):Prop where
 ok:P.underlying T=some (.slice e)
class TElem (P:Program) (e:TypeId) (size bytes:outParam Nat) (z:outParam (List Value)):Prop where
 ok:(P.info? e).map (fun i=>(i.size,i.bytes,i.zero.map (·.cells.toList)))=some (size,bytes,some z)
 pos:(Nat.blt 0 size && Nat.ble size bytes && Nat.beq z.length size && Nat.ble bytes 65536)=true
class TArr (P:Program) (T:TypeId) (n:outParam Nat) (e:outParam TypeId) (size:outParam Nat):Prop where
 ok:P.underlying T=some (.array n e)
 size:(P.info? e).map (·.size)=some size
class TBool (P:Program) (T:TypeId):Prop where
 ok:P.underlying T=some .bool
class TPtr (P:Program) (T:TypeId):Prop where
 ok:P.underlying T=some (.pointer (P.pointee T))
class TStr (P:Program) (T:TypeId):Prop where
 ok:P.underlying T=some .string
class TFn (P:Program) (f:FuncId):Prop where
 ok : ∃ fn, P.funcs[f]? = some fn ∧ fn.body.isNone = false ∧ (fn.name == "runtime.NumGoroutine") = false
section
variable {P:Program} {w0:World} {n:NT} {L:Slots} {H:List Atom} {Q:Exit→Act→World→Prop} {K:Act→World→Prop} {o:Oper} {d:Nat}
theorem Tri.val (hd:o.dst=some d)(hn:Nat.blt d n=true)(v:Value)(he: ∀a w,Has a n L→St w0 w H→(execOp a.eval o).run P w= .ok (.value v) w)(k:Tri w0 K n ((d,v)::L) H):Tri w0 (OpG P o K Q) n L H:=fun a w ha hw=>by
 refine .inl ?_
 unfold Oper.wp
 rw [he a w ha hw,Oper.upon_value,hd]
 exact k _ w (ha.put hn v) hw
theorem Tri.valW (hd:o.dst=some d)(hn:Nat.blt d n=true)(he: ∀a w,Has a n L→St w0 w H→ ∃v w',(execOp a.eval o).run P w= .ok (.value v) w'∧ ∀a',Has a' n ((d,v)::L)→K a' w'):Tri w0 (OpG P o K Q) n L H:=fun a w ha hw=>by
 refine .inl ?_
 obtain⟨v,w',hr,hk⟩:=he a w ha hw
 unfold Oper.wp
 rw [hr,Oper.upon_value,hd]
 exact hk _ (ha.put hn v)
theorem Tri.skipW (hd:o.dst=none)(he: ∀a w,Has a n L→St w0 w H→ ∃w',(execOp a.eval o).run P w= .ok .skip w'∧ ∀a',Has a' n L→K a' w'):Tri w0 (OpG P o K Q) n L H:=fun a w ha hw=>by
 refine .inl ?_
 obtain⟨w',hr,hk⟩:=he a w ha hw
 unfold Oper.wp
 rw [hr,Oper.upon_skip,hd]
 exact hk _ ha
variable {ty:TypeId} {pos:String} {aft:Array Edge} {g:Option (Nat×Bool)}
theorem o_move {x:Operand}{v:Value}(hx:ev L x=some v)(hn:Nat.blt d n=true)(k:Tri w0 K n ((d,v)::L) H):Tri w0 (OpG P ⟨some d, .move x,ty,pos,aft,g⟩ K Q) n L H:=
 Tri.val rfl hn v (fun a w ha _=>by simp [execOp,ha.eval hx]) k
theorem o_assign {x:Operand}{v:Value}(hx:ev L x=some v)(hn:Nat.blt d n=true)(k:Tri w0 K n ((d,v)::L) H):Tri w0 (OpG P ⟨some d, .assign x,ty,pos,aft,g⟩ K Q) n L H:=
 Tri.val rfl hn v (fun a w ha _=>by simp [execOp,ha.eval hx]) k
theorem o_pickT {c x y:Operand}{v:Value}{b:Bool}(hc:ev L c=some (.bool b))(hb:b=true)(hx:ev L x=some v)(hn:Nat.blt d n=true)(k:Tri w0 K n ((d,v)::L) H):Tri w0 (OpG P ⟨some d, .pick c x y,ty,pos,aft,g⟩ K Q) n L H:=
 Tri.val rfl hn v (fun a w ha _=>by simp [execOp,ha.eval hx,ha.eval hc,asBool,hb]) k
theorem o_pickF {c x y:Operand}{v:Value}{b:Bool}(hc:ev L c=some (.bool b))(hb:b=false)(hy:ev L y=some v)(hn:Nat.blt d n=true)(k:Tri w0 K n ((d,v)::L) H):Tri w0 (OpG P ⟨some d, .pick c x y,ty,pos,aft,g⟩ K Q) n L H:=
 Tri.val rfl hn v (fun a w ha _=>by simp [execOp,ha.eval hy,ha.eval hc,asBool,hb]) k
theorem o_add64 {t1 t2:TypeId}{x y:Operand}{i j:Int}(hx:ev L x=some (.int .i64 i))(hy:ev L y=some (.int .i64 j))(hn:Nat.blt d n=true)(hb: -9223372036854775808≤i+j∧i+j≤9223372036854775807)(k:Tri w0 K n ((d, .int .i64 (i+j))::L) H):
  Tri w0 (OpG P ⟨some d, .binOp .add t1 x y t2,ty,pos,aft,g⟩ K Q) n L H:=
 Tri.val rfl hn _ (fun a w ha _=>by simp only [execOp,ha.eval hx,ha.eval hy];simp [go_sem,IntWalk.i64_in _ hb]) k
theorem o_sub64 {t1 t2:TypeId}{x y:Operand}{i j:Int}(hx:ev L x=some (.int .i64 i))(hy:ev L y=some (.int .i64 j))(hn:Nat.blt d n=true)(hb: -9223372036854775808≤i-j∧i-j≤9223372036854775807)(k:Tri w0 K n ((d, .int .i64 (i-j))::L) H):
  Tri w0 (OpG P ⟨some d, .binOp .sub t1 x y t2,ty,pos,aft,g⟩ K Q) n L H:=
 Tri.val rfl hn _ (fun a w ha _=>by simp only [execOp,ha.eval hx,ha.eval hy];simp [go_sem,IntWalk.i64_in _ hb]) k
theorem o_mul64 {t1 t2:TypeId}{x y:Operand}{i j:Int}(hx:ev L x=some (.int .i64 i))(hy:ev L y=some (.int .i64 j))(hn:Nat.blt d n=true)(hb: -9223372036854775808≤i*j∧i*j≤9223372036854775807)(k:Tri w0 K n ((d, .int .i64 (i*j))::L) H):
  Tri w0 (OpG P ⟨some d, .binOp .mul t1 x y t2,ty,pos,aft,g⟩ K Q) n L H:=
 Tri.val rfl hn _ (fun a w ha _=>by simp only [execOp,ha.eval hx,ha.eval hy];simp [go_sem,IntWalk.i64_in _ hb]) k
theorem o_add {t1 t2:TypeId}{x y:Operand}{ik:IntKind}{i j:Int}(hx:ev L x=some (.int ik i))(hy:ev L y=some (.int ik j))(hn:Nat.blt d n=true)(k:Tri w0 K n ((d, .int ik (ik.wrap (i+j)))::L) H):
  Tri w0 (OpG P ⟨some d, .binOp .add t1 x y t2,ty,pos,aft,g⟩ K Q) n L H:=
 Tri.val rfl hn _ (fun a w ha _=>by simp only [execOp,ha.eval hx,ha.eval hy];simp [go_sem]) k
theorem o_sub {t1 t2:TypeId}{x y:Operand}{ik:IntKind}{i j:Int}(hx:ev L x=some (.int ik i))(hy:ev L y=some (.int ik j))(hn:Nat.blt d n=true)(k:Tri w0 K n ((d, .int ik (ik.wrap (i-j)))::L) H):
  Tri w0 (OpG P ⟨some d, .binOp .sub t1 x y t2,ty,pos,aft,g⟩ K Q) n L H:=
 Tri.val rfl hn _ (fun a w ha _=>by simp only [execOp,ha.eval hx,ha.eval hy];simp [go_sem]) k
theorem o_mul {t1 t2:TypeId}{x y:Operand}{ik:IntKind}{i j:Int}(hx:ev L x=some (.int ik i))(hy:ev L y=some (.int ik j))(hn:Nat.blt d n=true)(k:Tri w0 K n ((d, .int ik (ik.wrap (i*j)))::L) H):
  Tri w0 (OpG P ⟨some d, .binOp .mul t1 x y t2,ty,pos,aft,g⟩ K Q) n L H:=
 Tri.val rfl hn _ (fun a w ha _=>by simp only [execOp,ha.eval hx,ha.eval hy];simp [go_sem]) k
theorem o_lss {t1 t2:TypeId}{x y:Operand}{ik:IntKind}{i j:Int}(hx:ev L x=some (.int ik i))(hy:ev L y=some (.int ik j))(hn:Nat.blt d n=true)(k:Tri w0 K n ((d, .bool (decide (i<j)))::L) H):
  Tri w0 (OpG P ⟨some d, .binOp .lss t1 x y t2,ty,pos,aft,g⟩ K Q) n L H:=
 Tri.val rfl hn _ (fun a w ha _=>by simp only [execOp,ha.eval hx,ha.eval hy];simp [go_sem]) k
theorem o_leq {t1 t2:TypeId}{x y:Operand}{ik:IntKind}{i j:Int}(hx:ev L x=some (.int ik i))(hy:ev L y=some (.int ik j))(hn:Nat.blt d n=true)(k:Tri w0 K n ((d, .bool (decide (i≤j)))::L) H):
  Tri w0 (OpG P ⟨some d, .binOp .leq t1 x y t2,ty,pos,aft,g⟩ K Q) n L H:=
 Tri.val rfl hn _ (fun a w ha _=>by simp only [execOp,ha.eval hx,ha.eval hy];simp [go_sem]) k
theorem o_gtr {t1 t2:TypeId}{x y:Operand}{ik:IntKind}{i j:Int}(hx:ev L x=some (.int ik i))(hy:ev L y=some (.int ik j))(hn:Nat.blt d n=true)(k:Tri w0 K n ((d, .bool (decide (j<i)))::L) H):
  Tri w0 (OpG P ⟨some d, .binOp .gtr t1 x y t2,ty,pos,aft,g⟩ K Q) n L H:=
 Tri.val rfl hn _ (fun a w ha _=>by simp only [execOp,ha.eval hx,ha.eval hy];simp [go_sem]) k
theorem o_geq {t1 t2:TypeId}{x y:Operand}{ik:IntKind}{i j:Int}(hx:ev L x=some (.int ik i))(hy:ev L y=some (.int ik j))(hn:Nat.blt d n=true)(k:Tri w0 K n ((d, .bool (decide (j≤i)))::L) H):
  Tri w0 (OpG P ⟨some d, .binOp .geq t1 x y t2,ty,pos,aft,g⟩ K Q) n L H:=
 Tri.val rfl hn _ (fun a w ha _=>by simp only [execOp,ha.eval hx,ha.eval hy];simp [go_sem]) k
theorem o_eql {t1 t2:TypeId}{x y:Operand}{ik:IntKind}{i j:Int}(hx:ev L x=some (.int ik i))(hy:ev L y=some (.int ik j))(hn:Nat.blt d n=true)(k:Tri w0 K n ((d, .bool (decide (i=j)))::L) H):
  Tri w0 (OpG P ⟨some d, .binOp .eql t1 x y t2,ty,pos,aft,g⟩ K Q) n L H:=
 Tri.val rfl hn _ (fun a w ha _=>by simp only [execOp,ha.eval hx,ha.eval hy];simp [go_sem];rfl) k
theorem o_neq {t1 t2:TypeId}{x y:Operand}{ik:IntKind}{i j:Int}(hx:ev L x=some (.int ik i))(hy:ev L y=some (.int ik j))(hn:Nat.blt d n=true)(k:Tri w0 K n ((d, .bool (decide (i≠j)))::L) H):
  Tri w0 (OpG P ⟨some d, .binOp .neq t1 x y t2,ty,pos,aft,g⟩ K Q) n L H:=
 Tri.val rfl hn _ (fun a w ha _=>by
  have e:(i !=j)=decide (i≠j):=by rw [bne_eq,decide_not];rfl
  simp only [execOp,ha.eval hx,ha.eval hy];simp [go_sem,e]) k
theorem o_rem {t1 t2:TypeId}{x y:Operand}{ik:IntKind}{i j:Int}(hx:ev L x=some (.int ik i))(hy:ev L y=some (.int ik j))(hn:Nat.blt d n=true)(hi:0≤i)(hj:0<j)(k:Tri w0 K n ((d, .int ik (i%j))::L) H):
  Tri w0 (OpG P ⟨some d, .binOp .rem t1 x y t2,ty,pos,aft,g⟩ K Q) n L H:=
 Tri.val rfl hn _ (fun a w ha _=>by
  have hj':j≠0:=by omega
  simp only [execOp,ha.eval hx,ha.eval hy];simp [go_sem,hj',Int.tmod_eq_emod_of_nonneg hi]) k
theorem o_remT {t1 t2:TypeId}{x y:Operand}{ik:IntKind}{i j:Int}(hx:ev L x=some (.int ik i))(hy:ev L y=some (.int ik j))(hn:Nat.blt d n=true)(hj:j≠0)(k:Tri w0 K n ((d, .int ik (Int.tmod i j))::L) H):
  Tri w0 (OpG P ⟨some d, .binOp .rem t1 x y t2,ty,pos,aft,g⟩ K Q) n L H:=
 Tri.val rfl hn _ (fun a w ha _=>by simp only [execOp,ha.eval hx,ha.eval hy];simp [go_sem,hj]) k
theorem o_quo {t1 t2:TypeId}{x y:Operand}{i j:Int}(hx:ev L x=some (.int .i64 i))(hy:ev L y=some (.int .i64 j))(hn:Nat.blt d n=true)(hi:0≤i∧i≤9223372036854775807)(hj:0<j)(k:Tri w0 K n ((d, .int .i64 (i/j))::L) H):
  Tri w0 (OpG P ⟨some d, .binOp .quo t1 x y t2,ty,pos,aft,g⟩ K Q) n L H:=
 Tri.val rfl hn _ (fun a w ha _=>by
  have hj':j≠0:=by omega
  have h1:0≤i/j:=Int.ediv_nonneg hi.1 (by omega)
  have h2:i/j≤i:=Int.ediv_le_self j hi.1
  simp only [execOp,ha.eval hx,ha.eval hy];simp [go_sem,hj',Int.tdiv_eq_ediv_of_nonneg hi.1,IntWalk.i64_in _ (show -9223372036854775808≤i/j∧i/j≤9223372036854775807 by omega)]) k
theorem o_shr {t1 t2:TypeId}{x y:Operand}{ik yk:IntKind}{i j:Int}(hx:ev L x=some (.int ik i))(hy:ev L y=some (.int yk j))(hn:Nat.blt d n=true)(hj:0≤j)(k:Tri w0 K n ((d, .int ik (i/2 ^ min j.toNat ik.bits))::L) H):
  Tri w0 (OpG P ⟨some d, .binOp .shr t1 x y t2,ty,pos,aft,g⟩ K Q) n L H:=
 Tri.val rfl hn _ (fun a w ha _=>by
  have hj': ¬j<0:=by omega
  have he:i.fdiv (2 ^ min j.toNat ik.bits)=i/2 ^ min j.toNat ik.bits:=Int.fdiv_eq_ediv_of_nonneg i (by exact Int.le_of_lt (Int.pow_pos (by decide)))
  simp only [execOp,ha.eval hx,ha.eval hy];simp [go_sem,Op.shift,hj'];exact he) k
theorem o_shl {t1 t2:TypeId}{x y:Operand}{ik yk:IntKind}{i j:Int}(hx:ev L x=some (.int ik i))(hy:ev L y=some (.int yk j))(hn:Nat.blt d n=true)(hj:0≤j)(k:Tri w0 K n ((d, .int ik (ik.wrap (i*2 ^ min j.toNat ik.bits)))::L) H):
  Tri w0 (OpG P ⟨some d, .binOp .shl t1 x y t2,ty,pos,aft,g⟩ K Q) n L H:=
 Tri.val rfl hn _ (fun a w ha _=>by
  have hj': ¬j<0:=by omega
  simp only [execOp,ha.eval hx,ha.eval hy];simp [go_sem,Op.shift,hj']) k
theorem o_and {t1 t2:TypeId}{x y:Operand}{ik:IntKind}{i j:Int}(hx:ev L x=some (.int ik i))(hy:ev L y=some (.int ik j))(hn:Nat.blt d n=true)(k:Tri w0 K n ((d, .int ik (Go.bits .and ik i j))::L) H):
  Tri w0 (OpG P ⟨some d, .binOp .and t1 x y t2,ty,pos,aft,g⟩ K Q) n L H:=
 Tri.val rfl hn _ (fun a w ha _=>by simp only [execOp,ha.eval hx,ha.eval hy];simp [go_sem,Op.intBits,Go.bits]) k
theorem o_or {t1 t2:TypeId}{x y:Operand}{ik:IntKind}{i j:Int}(hx:ev L x=some (.int ik i))(hy:ev L y=some (.int ik j))(hn:Nat.blt d n=true)(k:Tri w0 K n ((d, .int ik (Go.bits .or ik i j))::L) H):
  Tri w0 (OpG P ⟨some d, .binOp .or t1 x y t2,ty,pos,aft,g⟩ K Q) n L H:=
 Tri.val rfl hn _ (fun a w ha _=>by simp only [execOp,ha.eval hx,ha.eval hy];simp [go_sem,Op.intBits,Go.bits]) k
theorem o_xor {t1 t2:TypeId}{x y:Operand}{ik:IntKind}{i j:Int}(hx:ev L x=some (.int ik i))(hy:ev L y=some (.int ik j))(hn:Nat.blt d n=true)(k:Tri w0 K n ((d, .int ik (Go.bits .xor ik i j))::L) H):
  Tri w0 (OpG P ⟨some d, .binOp .xor t1 x y t2,ty,pos,aft,g⟩ K Q) n L H:=
 Tri.val rfl hn _ (fun a w ha _=>by simp only [execOp,ha.eval hx,ha.eval hy];simp [go_sem,Op.intBits,Go.bits]) k
theorem o_not {t1:TypeId}{x:Operand}{b:Bool}(hx:ev L x=some (.bool b))(hn:Nat.blt d n=true)(k:Tri w0 K n ((d, .bool (!b))::L) H):
  Tri w0 (OpG P ⟨some d, .unOp .not t1 x,ty,pos,aft,g⟩ K Q) n L H:=
 Tri.val rfl hn _ (fun a w ha _=>by simp only [execOp,ha.eval hx];simp [Op.unary]) k
theorem o_notD {t1:TypeId}{x:Operand}{p:Prop}{dp:Decidable p}(hx:ev L x=some (.bool (@decide p dp)))(hn:Nat.blt d n=true)(k:Tri w0 K n ((d, .bool (decide (¬p)))::L) H):
  Tri w0 (OpG P ⟨some d, .unOp .not t1 x,ty,pos,aft,g⟩ K Q) n L H:=o_not hx hn (by rw [decide_not] at k;exact k)
theorem o_neg {t1:TypeId}{x:Operand}{ik:IntKind}{i:Int}(hx:ev L x=some (.int ik i))(hn:Nat.blt d n=true)(k:Tri w0 K n ((d, .int ik (ik.wrap (0-i)))::L) H):
  Tri w0 (OpG P ⟨some d, .unOp .neg t1 x,ty,pos,aft,g⟩ K Q) n L H:=
 Tri.val rfl hn _ (fun a w ha _=>by simp only [execOp,ha.eval hx];simp [Op.unary,go_sem]) k
theorem o_com {t1:TypeId}{x:Operand}{ik:IntKind}{i:Int}(hx:ev L x=some (.int ik i))(hn:Nat.blt d n=true)(k:Tri w0 K n ((d, .int ik (Go.bits .xor ik (if ik.signed then -1 else ik.max) i))::L) H):
  Tri w0 (OpG P ⟨some d, .unOp .xor t1 x,ty,pos,aft,g⟩ K Q) n L H:=
 Tri.val rfl hn _ (fun a w ha _=>by simp only [execOp,ha.eval hx];simp [Op.unary,Op.intBits,Go.bits]) k
theorem o_conv {s t:TypeId}{x:Operand}{ik jk sk:IntKind}{i:Int}[hs:TInt P s sk][ht:TInt P t jk](hx:ev L x=some (.int ik i))(hn:Nat.blt d n=true)(k:Tri w0 K n ((d, .int jk (jk.wrap i))::L) H):
  Tri w0 (OpG P ⟨some d, .convert s t x,ty,pos,aft,g⟩ K Q) n L H:=
 Tri.val rfl hn _ (fun a w ha _=>by simp only [execOp,ha.eval hx,convert];simp [run_underlying hs.ok,run_underlying ht.ok,go_sem]) k
theorem o_convI {s t:TypeId}{x:Operand}{ik jk sk:IntKind}{i:Int}[TInt P s sk][TInt P t jk](hx:ev L x=some (.int ik i))(hn:Nat.blt d n=true)(hw:jk.wrap i=i)(k:Tri w0 K n ((d, .int jk i)::L) H):
  Tri w0 (OpG P ⟨some d, .convert s t x,ty,pos,aft,g⟩ K Q) n L H:=o_conv hx hn (by rw [hw];exact k)
theorem o_extract {x:Operand}{vs:Array Value}{ix:Nat}{v:Value}(hx:ev L x=some (.tuple vs))(hv:vs.toList[ix]? =some v)(hn:Nat.blt d n=true)(k:Tri w0 K n ((d,v)::L) H):
  Tri w0 (OpG P ⟨some d, .extract x ix,ty,pos,aft,g⟩ K Q) n L H:=
 Tri.val rfl hn _ (fun a w ha _=>by simp only [execOp,ha.eval hx];simp [Instr.extract,show vs[ix]? =some v by rw [←Array.getElem?_toList];exact hv]) k
theorem o_nilCheck {x:Operand}{p:Addr}(hx:ev L x=some (.pointer (some p)))(hn:Nat.blt d n=true)(k:Tri w0 K n ((d, .pointer (some p))::L) H):
  Tri w0 (OpG P ⟨some d, .nilCheck x,ty,pos,aft,g⟩ K Q) n L H:=
 Tri.val rfl hn _ (fun a w ha _=>by simp only [execOp,ha.eval hx];simp) k
theorem o_fieldAddr {T:TypeId}{x:Operand}{f off b o':Nat}[hT:TField P T f off](hx:ev L x=some (.pointer (some ⟨b,o',none⟩)))(hn:Nat.blt d n=true)(k:Tri w0 K n ((d, .pointer (some ⟨b,o'+off,none⟩))::L) H):
  Tri w0 (OpG P ⟨some d, .fieldAddr T x f,ty,pos,aft,g⟩ K Q) n L H:=
 Tri.val rfl hn _ (fun a w ha _=>by
  obtain⟨fs,fd,h1,h2,h3,h4⟩:=hT.ok
  cases hi:P.info? fd.type with
  | none=>simp [hi] at h4
  | some i=>
   have hz: ¬i.size=0:=by simpa [hi] using h4
   subst h3
   simp only [execOp,ha.eval hx]
   simp [Instr.fieldAt,run_underlying h1,h2,Instr.sureAddr,fieldPlace,sizeOf,typeInfo,hi,hz,Addr.add_lit]) k
end
def eaddr (v:Value)(k:Nat):Addr:=(match v with | .slice (some a) _ _=>a | _=>default).add k
theorem Addr.add_add (a:Addr)(j k:Nat):(a.add j).add k=a.add (j+k):=by
 unfold Addr.add
 by_cases hj:j=0<;>by_cases hk:k=0<;>simp [hj,hk]
 omega
theorem eaddr_add (v:Value)(j k:Nat):(eaddr v j).add k=eaddr v (j+k):=Addr.add_add _ _ _
def Rd (h:PH)(v:Value)(n:Nat)(xs:List Value):Prop:=
 ∃A c,v= .slice A n c∧(n≤c∧c≤maxLen)∧ ∀j u,xs[j]? =some u→ ∃a,A=some a∧ ∃cs T fr,h a.block=some (.cells cs T fr)∧(a.add j).spot=none∧cs[(a.add j).off]? =some u
def own (e:TypeId)(size:Nat)(v:Value)(n:Nat)(xs:List Value):Atom:=fun h=>
 xs.length=n*size∧((v= .slice none 0 0∧n=0)∨
  ∃g cap cur,v= .slice (some ⟨g,0,none⟩) n cap∧h g=some (.cells cur e (0,0))∧n≤cap∧cap≤maxLen∧cur.size=cap*size∧cur.toList.take (n*size)=xs)
theorem own_nil (e:TypeId)(size:Nat)(h:PH):own e size (.slice none 0 0) 0 [] h:=⟨by simp, .inl ⟨rfl,rfl⟩⟩
theorem own_row {e:TypeId}{size n:Nat}{v:Value}{xs:List Value}{w:World}{s:Nat→Prop}(h:own e size v n xs (res w s)):w.ownsRow 0 e size v n xs:=by
 refine⟨h.1, ?_⟩
 rcases h.2 with h2 | ⟨g,cap,cur,h1,h2,h3,h4,h5,h6⟩
 ·exact .inl h2
 ·exact .inr ⟨g,cap,cur,h1,Nat.zero_le _,(res_some h2).2,h3,h4,h5,h6⟩
theorem own_Rd {e:TypeId}{size n:Nat}{v:Value}{xs:List Value}{h:PH}(ho:own e size v n xs h):Rd h v n xs:=by
 rcases ho.2 with ⟨rfl,rfl⟩ | ⟨g,cap,cur,rfl,h2,h3,h4,h5,h6⟩
 ·refine⟨none,0,rfl,⟨Nat.le_refl _,Nat.zero_le _⟩,fun j u hu=>?_⟩
  have:xs= [] :=List.eq_nil_of_length_eq_zero (by simpa using ho.1)
  subst this;simp at hu
 ·refine⟨_,cap,rfl,⟨h3,h4⟩,fun j u hu=>⟨_,rfl,cur,e,(0,0),h2, ?_, ?_⟩⟩
  ·rw [Addr.add_lit]
  ·rw [Addr.add_lit]
   have e1:cur.toList.take (n*size)=xs:=h6
   rw [←e1,List.getElem?_take] at hu
   split at hu
   ·simpa using hu
   ·cases hu
theorem Rd.slice {h:PH}{v:Value}{n:Nat}{xs:List Value}(hr:Rd h v n xs): ∃A c,v= .slice A n c∧n≤c∧c≤maxLen:=by
 obtain⟨A,c,h1,h2,_⟩:=hr;exact⟨A,c,h1,h2⟩
theorem Rd.le {h:PH}{v:Value}{n:Nat}{xs:List Value}(hr:Rd h v n xs):n≤9223372036854775807:=by
 obtain⟨A,c,h1,h2,_⟩:=hr;unfold maxLen at h2;omega
theorem Rd.cell {w:World}{s:Nat→Prop}{v:Value}{n:Nat}{xs:List Value}(hr:Rd (res w s) v n xs){j:Nat}{u:Value}(hu:xs[j]? =some u):w.cell? (eaddr v j)=some u:=by
 obtain⟨A,c,rfl,_,h3⟩:=hr
 obtain⟨a,rfl,cs,T,fr,g1,g2,g3⟩:=h3 j u hu
 have hb:(a.add j).block=a.block:=by unfold Addr.add;split<;>rfl
 simp only [eaddr,World.cell?,hb,(res_some g1).2,g2,Option.isSome_none,Bool.false_eq_true,if_false]
 exact g3
theorem Rd.mono {h h':PH}(hh: ∀b o,h b=some o→h' b=some o){v:Value}{n:Nat}{xs:List Value}(hr:Rd h v n xs):Rd h' v n xs:=by
 obtain⟨A,c,h1,h2,h3⟩:=hr
 refine⟨A,c,h1,h2,fun j u hu=>?_⟩
 obtain⟨a,rfl,cs,T,fr,g1,g2,g3⟩:=h3 j u hu
 exact⟨a,rfl,cs,T,fr,hh _ _ g1,g2,g3⟩
theorem Rd.sub {h:PH}{v:Value}{n:Nat}{xs:List Value}(hr:Rd h v n xs){size lo hi:Nat}(h1:lo≤hi)(h2:hi≤n):
  ∀A c,v= .slice A n c→Rd h (.slice (if c=lo then A else A.map (·.add (lo*size))) (hi-lo) (c-lo)) (hi-lo) ((xs.drop (lo*size)).take ((hi-lo)*size)):=by
 intro A c hv
 obtain⟨A',c',hv',hc,h3⟩:=hr
 rw [hv] at hv';cases hv'
 refine⟨_,_,rfl,⟨by omega,by omega⟩,fun j u hu=>?_⟩
 rw [List.getElem?_take] at hu
 split at hu
 ·rename_i hj
  rw [List.getElem?_drop] at hu
  have hne:c≠lo:=by
   intro e
   have:hi-lo=0:=by omega
   simp [this] at hj
  rw [if_neg hne]
  obtain⟨a,rfl,cs,T,fr,g1,g2,g3⟩:=h3 _ u hu
  refine⟨a.add (lo*size),rfl,cs,T,fr, ?_, ?_, ?_⟩
  ·have hb:(a.add (lo*size)).block=a.block:=by unfold Addr.add;split<;>rfl
   rw [hb];exact g1
  ·rw [Addr.add_add];exact g2
  ·rw [Addr.add_add];exact g3
 ·cases hu
section
variable {P:Program} {w0:World} {n:NT} {L:Slots} {H H':List Atom} {Q:Exit→Act→World→Prop} {K:Act→World→Prop} {o:Oper} {d:Nat}
variable {ty:TypeId} {pos:String} {aft:Array Edge} {g:Option (Nat×Bool)}
theorem St.blk {w:World}{b:Nat}{T:TypeId}{cs:List Value}(hw:St w0 w H)(p:Pull H (blk b T cs) H'):w.heap[b]? =some (.cells cs.toArray T (0,0)):=by
 obtain⟨s,hs⟩:=(hw.pull p).2.head
 exact(res_some hs).2
theorem St.ex {w:World}{h0:PH}(hw:St w0 w H)(p:Pull H (Ex h0) H'): ∃s:Nat→Prop,h0=res w s:=by
 obtain⟨s,hs⟩:=(hw.pull p).2.head
 exact⟨s,hs.symm⟩
theorem plain_isAgg {T:TypeId}[hT:TPlain P T](w:World):(isAgg T).run P w= .ok false w:=by
 have h:=hT.ok
 cases hu:P.underlying T with
 | none=>simp [hu] at h
 | some d=>
  unfold isAgg
  rw [Sem.run_bind,run_underlying hu w]
  cases d<;>simp_all
theorem agg_isAgg {T:TypeId}{sz:Nat}[hT:TAgg P T sz](w:World):(isAgg T).run P w= .ok true w:=by
 have h:=hT.ok
 cases hu:P.underlying T with
 | none=>simp [hu] at h
 | some d=>
  unfold isAgg
  rw [Sem.run_bind,run_underlying hu w]
  cases d<;>simp_all
theorem size_run {T:TypeId}{sz:Nat}(h:(P.info? T).map (·.size)=some sz)(w:World):(sizeOf T).run P w= .ok sz w:=by
 cases hq:P.info? T with
 | none=>simp [hq] at h
 | some i=>
  have hi:i.size=sz:=by simpa [hq] using h
  simp [sizeOf,typeInfo,hq,hi]
theorem zero_run {T:TypeId}{z:List Value}[hz:TZero P T z](w:World): ∃v,(zeroValue T).run P w= .ok v w∧v.cells.toList=z:=by
 have h:=hz.ok
 cases hq:P.info? T with
 | none=>simp [hq] at h
 | some i=>
  cases hv:i.zero with
  | none=>simp [hq,hv] at h
  | some v=>exact⟨v,by simp [zeroValue,typeInfo,hq,hv],by simpa [hq,hv] using h⟩
theorem load_cell {T:TypeId}[TPlain P T]{w:World}{a:Addr}{v:Value}(h:w.cell? a=some v):(loadVar T a).run P w= .ok v w:=by
 simp [loadVar,plain_isAgg w,load,Sem.run,h]
theorem o_load {T T':TypeId}{x:Operand}{b i:Nat}{cs:List Value}{v:Value}[TPlain P T](hx:ev L x=some (.pointer (some ⟨b,i,none⟩)))(p:Pull H (blk b T' cs) H')(hv:cs[i]? =some v)(hn:Nat.blt d n=true)(k:Tri w0 K n ((d,v)::L) H):
  Tri w0 (OpG P ⟨some d, .load T x,ty,pos,aft,g⟩ K Q) n L H:=
 Tri.val rfl hn v (fun a w ha hw=>by
  have hc:w.cell? ⟨b,i,none⟩=some v:=by simp [World.cell?,St.blk hw p,hv]
  simp [execOp,ha.eval hx,Instr.loadAt,Instr.sureAddr,load_cell (P:=P) (T:=T) hc]) k
theorem o_loadRd {T:TypeId}{x:Operand}{h0:PH}{u v:Value}{m j:Nat}{xs:List Value}[TPlain P T](hx:ev L x=some (.pointer (some (eaddr u j))))(p:Pull H (Ex h0) H')(hr:Rd h0 u m xs)(hv:xs[j]? =some v)(hn:Nat.blt d n=true)(k:Tri w0 K n ((d,v)::L) H):
  Tri w0 (OpG P ⟨some d, .load T x,ty,pos,aft,g⟩ K Q) n L H:=
 Tri.val rfl hn v (fun a w ha hw=>by
  obtain⟨s,rfl⟩:=St.ex hw p
  simp [execOp,ha.eval hx,Instr.loadAt,Instr.sureAddr,load_cell (P:=P) (T:=T) (hr.cell hv)]) k
theorem o_loadOwn {T e:TypeId}{x:Operand}{u v:Value}{m j size:Nat}{xs:List Value}[TPlain P T](hx:ev L x=some (.pointer (some (eaddr u j))))(p:Pull H (own e size u m xs) H')(hv:xs[j]? =some v)(hn:Nat.blt d n=true)(k:Tri w0 K n ((d,v)::L) H):
  Tri w0 (OpG P ⟨some d, .load T x,ty,pos,aft,g⟩ K Q) n L H:=
 Tri.val rfl hn v (fun a w ha hw=>by
  obtain⟨s,hs⟩:=(hw.pull p).2.head
  simp [execOp,ha.eval hx,Instr.loadAt,Instr.sureAddr,load_cell (P:=P) (T:=T) ((own_Rd hs).cell hv)]) k
theorem load_agg {T:TypeId}{sz:Nat}[hT:TAgg P T sz]{w:World}{a:Addr}{ys:List Value}(hl:ys.length=sz)(h: ∀j v,ys[j]? =some v→w.cell? (a.add j)=some v):(loadVar T a).run P w= .ok (.agg ys.toArray) w:=by
 have hc:=run_loadCells_list (P:=P) w a ys h
 simp [loadVar,agg_isAgg (P:=P) (T:=T) w,size_run hT.size, ←hl,hc]
theorem o_loadAgg {T T':TypeId}{sz:Nat}{x:Operand}{b i:Nat}{cs ys:List Value}[TAgg P T sz](hx:ev L x=some (.pointer (some ⟨b,i,none⟩)))(p:Pull H (blk b T' cs) H')(hv:(cs.drop i).take sz=ys)(hl:ys.length=sz)(hn:Nat.blt d n=true)(k:Tri w0 K n ((d, .agg ys.toArray)::L) H):
  Tri w0 (OpG P ⟨some d, .load T x,ty,pos,aft,g⟩ K Q) n L H:=
 Tri.val rfl hn _ (fun a w ha hw=>by
  have hr:(loadVar T ⟨b,i,none⟩).run P w= .ok (.agg ys.toArray) w:=load_agg hl (fun j v hj=>by
   rw [←hv,List.getElem?_take] at hj
   split at hj
   ·rw [List.getElem?_drop] at hj
    rw [Addr.add_lit]
    simp [World.cell?,St.blk hw p,hj]
   ·cases hj)
  simp [execOp,ha.eval hx,Instr.loadAt,Instr.sureAddr,hr]) k
theorem o_loadAggRd {T:TypeId}{sz:Nat}{x:Operand}{h0:PH}{u:Value}{m i:Nat}{xs ys:List Value}[TAgg P T sz](hx:ev L x=some (.pointer (some (eaddr u i))))(p:Pull H (Ex h0) H')(hr:Rd h0 u m xs)(hv:(xs.drop i).take sz=ys)(hl:ys.length=sz)(hn:Nat.blt d n=true)(k:Tri w0 K n ((d, .agg ys.toArray)::L) H):
  Tri w0 (OpG P ⟨some d, .load T x,ty,pos,aft,g⟩ K Q) n L H:=
 Tri.val rfl hn _ (fun a w ha hw=>by
  obtain⟨s,rfl⟩:=St.ex hw p
  have hq:(loadVar T (eaddr u i)).run P w= .ok (.agg ys.toArray) w:=load_agg hl (fun j v hj=>by
   rw [←hv,List.getElem?_take] at hj
   split at hj
   ·rw [List.getElem?_drop] at hj
    rw [eaddr_add]
    exact hr.cell hj
   ·cases hj)
  simp [execOp,ha.eval hx,Instr.loadAt,Instr.sureAddr,hq]) k
theorem upd_row {w:World}{b:Nat}{T:TypeId}{cs:List Value}(hw:St w0 w (Gv.blk b T cs::H))(cs':List Value):St w0 (w.setRow b cs'.toArray) (Gv.blk b T cs'::H):=by
 refine hw.upd ⟨rfl,rfl,rfl,by simp⟩ (fun s hs hA=>⟨⟨s,fun c hc=>⟨by have:=hs c hc;simpa using this, .inl hc⟩, ?_⟩,fun c hc hl=>?_⟩)
 ·have hb:=res_some hA
  show res _ s b=_
  unfold res;rw [if_pos hb.1]
  exact setRow_heap w b _ _ T _ hb.2
 ·have hb:=res_some hA
  exact setRow_other w b c _ (fun e=>hc (e▸hb.1))
theorem o_store {T T':TypeId}{x y:Operand}{b i:Nat}{cs:List Value}{v:Value}[_hT:TPlain P T][hz:TSize P T 1](hx:ev L x=some (.pointer (some ⟨b,i,none⟩)))(hy:ev L y=some v)(h1:v.oneCell'=true)(p:Pull H (blk b T' cs) H')(hi:i<cs.length)(k:Tri w0 K n L (blk b T' (cs.set i v)::H')):
  Tri w0 (OpG P ⟨none, .store T x y,ty,pos,aft,g⟩ K Q) n L H:=
 Tri.skipW rfl (fun a w ha hw=>by
  have hb:=St.blk hw p
  have hcell:v.cells= #[v] :=by cases v<;>simp_all [Value.cells,Value.oneCell']
  have hst:=run_storeCells_at P b i T' [v] 0 cs.toArray w hb (by simp;omega) (by simpa using h1)
  refine⟨_, ?_,fun a' ha'=>k a' _ ha' (upd_row (hw.pull p) (cs.set i v))⟩
  have e:(cs.toArray.toList.take (i+0)++ [v] ++cs.toArray.toList.drop (i+0+ [v].length)).toArray=(cs.set i v).toArray:=by
   congr 1
   rw [List.set_eq_take_append_cons_drop,if_pos hi]
   simp
  rw [e] at hst
  simp [execOp,ha.eval hx,ha.eval hy,Instr.storeAt,Instr.sureAddr,storeVar,size_run hz.ok,hcell,hst]) 
theorem o_storeAgg {T T':TypeId}{sz:Nat}{x y:Operand}{b i:Nat}{cs ys:List Value}[hT:TAgg P T sz](hx:ev L x=some (.pointer (some ⟨b,i,none⟩)))(hy:ev L y=some (.agg ys.toArray))(hl:ys.length=sz)(h1: ∀v∈ys,v.oneCell'=true)(p:Pull H (blk b T' cs) H')(hi:i+sz≤cs.length)(k:Tri w0 K n L (blk b T' (cs.take i++ys++cs.drop (i+sz))::H')):
  Tri w0 (OpG P ⟨none, .store T x y,ty,pos,aft,g⟩ K Q) n L H:=
 Tri.skipW rfl (fun a w ha hw=>by
  have hb:=St.blk hw p
  have hst:=run_storeCells_at P b i T' ys 0 cs.toArray w hb (by simp;omega) h1
  refine⟨_, ?_,fun a' ha'=>k a' _ ha' (upd_row (hw.pull p) _)⟩
  simp only [Nat.add_zero,hl] at hst
  simp [execOp,ha.eval hx,ha.eval hy,Instr.storeAt,Instr.sureAddr,storeVar,size_run hT.size,hl,hst,Value.cells])
theorem o_alloc {T:TypeId}{z:List Value}[hz:TZero P T z](hn:Nat.blt d n=true)(k: ∀b,Tri w0 K n ((d, .pointer (some ⟨b,0,none⟩))::L) (blk b T z::H)):
  Tri w0 (OpG P ⟨some d, .alloc T,ty,pos,aft,g⟩ K Q) n L H:=
 Tri.valW rfl hn (fun a w ha hw=>by
  obtain⟨v,hv,hc⟩:=zero_run (P:=P) (T:=T) w
  refine⟨_,w.alloc (.cells v.cells T), ?_,fun a' ha'=>k w.heap.size a' _ ha' (hw.alloc _ _ (fun h e=>by rw [←hc];simpa [blk] using e))⟩
  simp [execOp,Instr.alloc,hv,newVar,newRow,newObj];rfl)
theorem o_box1 {T:TypeId}{x:Operand}{v:Value}(hx:ev L x=some v)(h1:v.oneCell'=true)(hn:Nat.blt d n=true)(k: ∀b,Tri w0 K n ((d, .pointer (some ⟨b,0,none⟩))::L) (blk b T [v] ::H)):
  Tri w0 (OpG P ⟨some d, .box T x,ty,pos,aft,g⟩ K Q) n L H:=
 Tri.valW rfl hn (fun a w ha hw=>by
  have hcell:v.cells= #[v] :=by cases v<;>simp_all [Value.cells,Value.oneCell']
  refine⟨_,w.alloc (.cells v.cells T), ?_,fun a' ha'=>k w.heap.size a' _ ha' (hw.alloc _ _ (fun h e=>by rw [hcell] at e;simpa [blk] using e))⟩
  simp [execOp,ha.eval hx,Instr.box,newVar,newRow,newObj];rfl)
theorem o_boxA {T:TypeId}{x:Operand}{cs:List Value}(hx:ev L x=some (.agg cs.toArray))(hn:Nat.blt d n=true)(k: ∀b,Tri w0 K n ((d, .pointer (some ⟨b,0,none⟩))::L) (blk b T cs::H)):
  Tri w0 (OpG P ⟨some d, .box T x,ty,pos,aft,g⟩ K Q) n L H:=
 Tri.valW rfl hn (fun a w ha hw=>by
  refine⟨_,w.alloc (.cells cs.toArray T), ?_,fun a' ha'=>k w.heap.size a' _ ha' (hw.alloc _ _ (fun h e=>by simpa [blk] using e))⟩
  simp [execOp,ha.eval hx,Instr.box,newVar,newRow,newObj,Value.cells];rfl)
theorem o_ixArr {T e:TypeId}{m size:Nat}{x y:Operand}{b o':Nat}{ik:IntKind}{i:Int}{j:Nat}[hT:TArr P T m e size](hx:ev L x=some (.pointer (some ⟨b,o',none⟩)))(hy:ev L y=some (.int ik i))(hj:i=(j:Int))(hlt:j<m)(hn:Nat.blt d n=true)(k:Tri w0 K n ((d, .pointer (some ⟨b,o'+j*size,none⟩))::L) H):
  Tri w0 (OpG P ⟨some d, .indexAddr T x y,ty,pos,aft,g⟩ K Q) n L H:=
 Tri.val rfl hn _ (fun a w ha hw=>by
  subst hj
  have h1:(0:Int)≤j∧(j:Int)<m:=by omega
  simp [execOp,ha.eval hx,ha.eval hy,Instr.indexAt,asIntOf,run_underlying hT.ok,Instr.sureAddr,hlt,size_run hT.size,Addr.add_lit]) k
theorem o_ixSl {T e:TypeId}{size:Nat}{x y:Operand}{b o' m c:Nat}{ik:IntKind}{i:Int}{j:Nat}[hT:TSlice P T e][hs:TSize P e size](hx:ev L x=some (.slice (some ⟨b,o',none⟩) m c))(hy:ev L y=some (.int ik i))(hj:i=(j:Int))(hlt:j<m)(hn:Nat.blt d n=true)(k:Tri w0 K n ((d, .pointer (some ⟨b,o'+j*size,none⟩))::L) H):
  Tri w0 (OpG P ⟨some d, .indexAddr T x y,ty,pos,aft,g⟩ K Q) n L H:=
 Tri.val rfl hn _ (fun a w ha hw=>by
  subst hj
  simp [execOp,ha.eval hx,ha.eval hy,Instr.indexAt,asIntOf,run_underlying hT.ok,Instr.sureAddr,hlt,size_run hs.ok,Addr.add_lit]) k
theorem ix_run {T e:TypeId}{size:Nat}[hT:TSlice P T e][hs:TSize P e size]{w:World}{v:Value}{A:Option Addr}{m c j:Nat}{ik:IntKind}(hv:v= .slice A m c)(hA:A.isSome=true)(hlt:j<m):
  (Instr.indexAt T v (.int ik j)).run P w= .ok (.pointer (some (eaddr v (j*size)))) w:=by
 subst hv
 cases A with
 | none=>simp at hA
 | some a=>simp [Instr.indexAt,asIntOf,run_underlying hT.ok,hlt,size_run hs.ok,eaddr]
theorem o_ixRd {T e:TypeId}{size:Nat}{x y:Operand}{h0:PH}{v:Value}{m:Nat}{xs:List Value}{ik:IntKind}{i:Int}{j:Nat}[hT:TSlice P T e][hs:TSize P e size](hx:ev L x=some v)(hy:ev L y=some (.int ik i))(hr:Rd h0 v m xs)(hj:i=(j:Int))(hlt:j<m)(hl:j*size<xs.length)(hn:Nat.blt d n=true)(k:Tri w0 K n ((d, .pointer (some (eaddr v (j*size))))::L) H):
  Tri w0 (OpG P ⟨some d, .indexAddr T x y,ty,pos,aft,g⟩ K Q) n L H:=
 Tri.val rfl hn _ (fun a w ha hw=>by
  subst hj
  obtain⟨A,c,hv,hc,h3⟩:=hr
  obtain⟨a',rfl,_⟩:=h3 (j*size) _ (gEe hl)
  simp [execOp,ha.eval hx,ha.eval hy,ix_run (P:=P) (T:=T) (w:=w) (ik:=ik) hv rfl hlt]) k
theorem o_ixOwn {T e e':TypeId}{size size':Nat}{x y:Operand}{v:Value}{m:Nat}{xs:List Value}{ik:IntKind}{i:Int}{j:Nat}[hT:TSlice P T e][hs:TSize P e size](hx:ev L x=some v)(hy:ev L y=some (.int ik i))(p:Pull H (own e' size' v m xs) H')(hj:i=(j:Int))(hlt:j<m)(hn:Nat.blt d n=true)(k:Tri w0 K n ((d, .pointer (some (eaddr v (j*size))))::L) H):
  Tri w0 (OpG P ⟨some d, .indexAddr T x y,ty,pos,aft,g⟩ K Q) n L H:=
 Tri.val rfl hn _ (fun a w ha hw=>by
  subst hj
  obtain⟨s,hA⟩:=(hw.pull p).2.head
  rcases hA.2 with ⟨rfl,rfl⟩ | ⟨g',cap,cur,hv,_⟩
  ·omega
  ·simp [execOp,ha.eval hx,ha.eval hy,ix_run (P:=P) (T:=T) (w:=w) (ik:=ik) hv rfl hlt]) k
theorem o_fieldE {T:TypeId}{x:Operand}{f off j:Nat}{v:Value}[hT:TField P T f off](hx:ev L x=some (.pointer (some (eaddr v j))))(hn:Nat.blt d n=true)(k:Tri w0 K n ((d, .pointer (some (eaddr v (j+off))))::L) H):
  Tri w0 (OpG P ⟨some d, .fieldAddr T x f,ty,pos,aft,g⟩ K Q) n L H:=
 Tri.val rfl hn _ (fun a w ha _=>by
  obtain⟨fs,fd,h1,h2,h3,h4⟩:=hT.ok
  cases hi:P.info? fd.type with
  | none=>simp [hi] at h4
  | some i=>
   have hz: ¬i.size=0:=by simpa [hi] using h4
   subst h3
   simp only [execOp,ha.eval hx]
   simp [Instr.fieldAt,run_underlying h1,h2,Instr.sureAddr,fieldPlace,sizeOf,typeInfo,hi,hz,eaddr_add]) k
theorem len_run {T e:TypeId}{T2:TypeId}[hT:TSlice P T e]{w:World}{A:Option Addr}{m c:Nat}:(Builtin.len_ #[T] T2 #[.slice A m c]).run P w= .ok (.int .i64 m) w:=by
 simp [Builtin.len_,run_underlying hT.ok,goInt]
theorem o_len {T e:TypeId}{x:Operand}{A:Option Addr}{m c:Nat}[TSlice P T e](hx:ev L x=some (.slice A m c))(hn:Nat.blt d n=true)(k:Tri w0 K n ((d, .int .i64 (m:Int))::L) H):
  Tri w0 (OpG P ⟨some d, .call { callee:= .builtin .len,args:= #[x],argTypes:= #[T] },ty,pos,aft,g⟩ K Q) n L H:=
 Tri.val rfl hn _ (fun a w ha _=>by simp [execOp,resolve,invoke,builtin,ha.eval hx,len_run (P:=P) (T:=T)]) k
theorem o_lenRd {T e:TypeId}{x:Operand}{h0:PH}{v:Value}{m:Nat}{xs:List Value}[TSlice P T e](hx:ev L x=some v)(hr:Rd h0 v m xs)(hn:Nat.blt d n=true)(k:Tri w0 K n ((d, .int .i64 (m:Int))::L) H):
  Tri w0 (OpG P ⟨some d, .call { callee:= .builtin .len,args:= #[x],argTypes:= #[T] },ty,pos,aft,g⟩ K Q) n L H:=by
 obtain⟨A,c,rfl,_,_⟩:=hr
 exact o_len hx hn k
theorem o_lenOwn {T e e':TypeId}{x:Operand}{v:Value}{m size:Nat}{xs:List Value}[TSlice P T e](hx:ev L x=some v)(p:Pull H (own e' size v m xs) H')(hn:Nat.blt d n=true)(k:Tri w0 K n ((d, .int .i64 (m:Int))::L) H):
  Tri w0 (OpG P ⟨some d, .call { callee:= .builtin .len,args:= #[x],argTypes:= #[T] },ty,pos,aft,g⟩ K Q) n L H:=
 Tri.val rfl hn _ (fun a w ha hw=>by
  obtain⟨s,hA⟩:=(hw.pull p).2.head
  obtain⟨A,c,rfl,_,_⟩:=own_Rd hA
  simp [execOp,resolve,invoke,builtin,ha.eval hx,len_run (P:=P) (T:=T)]) k
theorem fn_run {f:FuncId}[hf:TFn P f]{w:World}{args:Array Value}:(callFunc f args).run P w= .ok (.enter f args) w:=by
 obtain⟨fn,h1,h2,h3⟩:=hf.ok
 have h2':fn.body≠none:=by intro e;simp [e] at h2
 have h3' : fn.name ≠ "runtime.NumGoroutine" := by simpa using h3
 simp [callFunc,h1,h2',h3']
def Ret (R:Value→World→Prop):Ending→World→Prop
 | .returned v,w=>R v w
 | _,_=>False
end
def Spec (P:Program)(f:FuncId)(args:Array Value)(Pre:List Atom)(R:Value→List Atom→Prop):Prop:=
 ∀w0 w H,St w0 w (Pre++H)→Calls P f args w (Ret fun v w'=> ∃H',R v H'∧St w0 w' (H'++H))
def SpecR (P:Program)(f:FuncId)(args:Array Value)(Pre:World→Prop)(R:Value→List Atom→Prop):Prop:=
 ∀w0 w H,St w0 w H→Pre w→Calls P f args w (Ret fun v w'=> ∃H',R v H'∧St w0 w' (H'++H))
theorem Sat.exhp {w w':World}{av:Nat→Prop}{H:List Atom}(h:Sat w' (fun _=>True) (H++ [Ex (hp w)])):(∀b,b<w.heap.size→w'.heap[b]? =w.heap[b]?)∧Sat w' (fun b=> ¬b<w.heap.size) H:=by
 have key: ∀(H:List Atom) (av:Nat→Prop),Sat w' av (H++ [Ex (hp w)])→(∀b,b<w.heap.size→w'.heap[b]? =w.heap[b]? ∧av b)∧Sat w' (fun b=>av b∧ ¬b<w.heap.size) H:=by
  intro H
  induction H with
  | nil=>
   intro av h
   obtain⟨s,h1,h2,_⟩:=h
   have h2':res w' s=hp w:=h2
   refine⟨fun b hb=>?_,trivial⟩
   have e:=congrFun h2' b
   unfold res hp at e
   split at e
   ·exact⟨e,(h1 b ‹_›).1⟩
   ·simp [hb] at e
  | cons A H ih=>
   intro av h
   obtain⟨s,h1,h2,h3⟩:=h
   obtain⟨g1,g2⟩:=ih _ h3
   refine⟨fun b hb=>⟨(g1 b hb).1,(g1 b hb).2.1⟩,s,fun b hb=>⟨⟨(h1 b hb).1,fun hl=>(g1 b hl).2.2 hb⟩,(h1 b hb).2⟩,h2,g2.mono (fun b _ hb=>⟨⟨hb.1.1,hb.2⟩,hb.1.2⟩)⟩
 obtain⟨g1,g2⟩:=key H _ h
 exact⟨fun b hb=>(g1 b hb).1,g2.mono (fun b _ hb=>hb.2)⟩
theorem St.rebase (w:World):St w w [Ex (hp w)] :=⟨Env.refl w,fun b=>b<w.heap.size,fun b hb=>⟨trivial,hb⟩,by
 show res w _=hp w
 funext b;unfold res hp;split
 ·rfl
 ·rename_i h;simp only [] at h;exact(Array.getElem?_eq_none (by omega)).symm,trivial⟩
theorem St.frame {w0 w w':World}{H H':List Atom}(h:St w0 w H)(k:St w w' (H'++ [Ex (hp w)])):St w0 w' (H'++H):=by
 obtain⟨g1,g2⟩:=Sat.exhp (av:=fun _=>True) k.2
 refine⟨h.1.trans k.1,Sat.append (av1:=fun b=> ¬b<w.heap.size) (av2:=fun b=>b<w.heap.size) (fun _ _=>trivial) (fun _ _=>trivial) (fun b h1 h2=>h1 h2) g2 ?_⟩
 exact(Sat.congr (w:=w) k.1.size (fun b _ hl=>g1 b hl) h.2.lt).mono (fun b _ hb=>hb.2)
theorem SpecR.of {P:Program}{f:FuncId}{args:Array Value}{Pre:World→Prop}{R:Value→List Atom→Prop}
  (h: ∀w,Pre w→Calls P f args w (Ret fun v w'=> ∃H',R v H'∧St w w' (H'++ [Ex (hp w)]))):SpecR P f args Pre R:=fun w0 w H hw hp=>by
 refine(h w hp).mono ?_
 intro e w' he
 cases e with
 | returned v=>obtain⟨H',h1,h2⟩:=he;exact⟨H',h1,hw.frame h2⟩
 | panicked c=>exact he.elim
 | outgrown=>exact he.elim
abbrev RdW (w:World)(v:Value)(n:Nat)(xs:List Value):Prop:=Rd (hp w) v n xs
theorem res_hp {w:World}{s:Nat→Prop}: ∀b o,res w s b=some o→hp w b=some o:=fun _ _ h=>(res_some h).2
section
variable {P:Program} {w0:World} {n:NT} {L:Slots} {H H':List Atom} {Q:Exit→Act→World→Prop} {K:Act→World→Prop} {o:Oper} {d:Nat}
variable {ty:TypeId} {pos:String} {aft:Array Edge} {g:Option (Nat×Bool)}
theorem rdw_own {e:TypeId}{size m:Nat}{v:Value}{xs:List Value}(p:Pull H (own e size v m xs) H'): ∀w,St w0 w H→RdW w v m xs:=fun w hw=>by
 obtain⟨s,hA⟩:=(hw.pull p).2.head
 exact(own_Rd hA).mono res_hp
theorem rdw_ex {h0:PH}{m:Nat}{v:Value}{xs:List Value}(p:Pull H (Ex h0) H')(hr:Rd h0 v m xs): ∀w,St w0 w H→RdW w v m xs:=fun w hw=>by
 obtain⟨s,rfl⟩:=St.ex hw p
 exact hr.mono res_hp
def evs (L:Slots):List Operand→List Value→Prop
 | [], [] =>True
 | x::xs,v::vs=>ev L x=some v∧evs L xs vs
 | _,_=>False
theorem evs.map {a:Act}(ha:Has a n L): ∀{xs:List Operand} {vs:List Value},evs L xs vs→xs.map a.eval=vs
 | [], [],_=>rfl
 | _::_,_::_,h=>by rw [List.map_cons,ha.eval h.1,evs.map ha h.2]
 | [],_::_,h=>h.elim
 | _::_, [],h=>h.elim
theorem o_callX {f:FuncId}{args:List Operand}{ts:Array TypeId}{vs:List Value}[TFn P f](hargs:evs L args vs)(hn:Nat.blt d n=true){R:Value→List Atom→Prop}{Hf:List Atom}
  (hc: ∀w,St w0 w H→Calls P f vs.toArray w (Ret fun v w'=> ∃H',R v H'∧St w0 w' (H'++Hf)))
  (k: ∀v H',R v H'→Tri w0 K n ((d,v)::L) (H'++Hf)):
  Tri w0 (OpG P ⟨some d, .call { callee:= .value (.func f),args:=args.toArray,argTypes:=ts },ty,pos,aft,g⟩ K Q) n L H:=fun a w ha hw=>by
 refine .inl ?_
 unfold Oper.wp
 have hr:(execOp a.eval ⟨some d, .call { callee:= .value (.func f),args:=args.toArray,argTypes:=ts },ty,pos,aft,g⟩).run P w= .ok (.enter f vs.toArray) w:=by
  have e:Act.eval a (.func f)= .func (.func f) #[] #[] :=rfl
  simp [execOp,resolve,Deferred.ofValue,e,invoke,evs.map ha hargs,fn_run (P:=P) (f:=f)]
 rw [hr,Oper.upon_enter]
 refine(hc w hw).mono ?_
 intro e w' he
 cases e with
 | returned v=>
  obtain⟨H',h1,h2⟩:=he
  exact k v H' h1 _ w' (ha.put hn v) h2
 | panicked c=>exact he.elim
 | outgrown=>exact he.elim
theorem o_callR {f:FuncId}{args:List Operand}{ts:Array TypeId}{vs:List Value}{Pre:World→Prop}{R:Value→List Atom→Prop}[TFn P f](hs:SpecR P f vs.toArray Pre R)(hargs:evs L args vs)(hpre: ∀w,St w0 w H→Pre w)(hn:Nat.blt d n=true)
  (k: ∀v H',R v H'→Tri w0 K n ((d,v)::L) (H'++H)):
  Tri w0 (OpG P ⟨some d, .call { callee:= .value (.func f),args:=args.toArray,argTypes:=ts },ty,pos,aft,g⟩ K Q) n L H:=
 o_callX hargs hn (fun w hw=>hs w0 w H hw (hpre w hw)) k
inductive Pulls:List Atom→List Atom→List Atom→Prop
 | nil {H:List Atom}:Pulls H [] H
 | cons {H H1 H2:List Atom} {A:Atom} {As:List Atom} (a:Pull H A H1) (q:Pulls H1 As H2):Pulls H (A::As) H2
theorem Sat.under {w:World}{A:Atom}{H H':List Atom}(hH: ∀av,Sat w av H→Sat w av H'): ∀av,Sat w av (A::H)→Sat w av (A::H'):=fun av ⟨s,h1,h2,h3⟩=>⟨s,h1,h2,hH _ h3⟩
theorem Sat.pulls {w:World}: ∀{H As H':List Atom},Pulls H As H'→ ∀av,Sat w av H→Sat w av (As++H')
 | _,_,_, .nil,_,h=>h
 | _,_,_, .cons p q,av,h=>Sat.under (fun av=>Sat.pulls q av) av (h.pull p)
theorem St.pulls {w:World}{As:List Atom}(p:Pulls H As H')(hw:St w0 w H):St w0 w (As++H'):=⟨hw.1,Sat.pulls p _ hw.2⟩
theorem o_callS {f:FuncId}{args:List Operand}{ts:Array TypeId}{vs:List Value}{Pre:List Atom}{R:Value→List Atom→Prop}[TFn P f](hs:Spec P f vs.toArray Pre R)(hargs:evs L args vs)(p:Pulls H Pre H')(hn:Nat.blt d n=true)
  (k: ∀v Hq,R v Hq→Tri w0 K n ((d,v)::L) (Hq++H')):
  Tri w0 (OpG P ⟨some d, .call { callee:= .value (.func f),args:=args.toArray,argTypes:=ts },ty,pos,aft,g⟩ K Q) n L H:=
 o_callX hargs hn (fun w hw=>hs w0 w H' (hw.pulls p)) k
def argSlots:Nat→List Value→Slots
 | _, [] => []
 | k,v::vs=>(k,v)::argSlots (k+1) vs
theorem look_argSlots: ∀(vs:List Value) (k t:Nat) (v:Value),look (argSlots k vs) t=some v→k≤t∧vs[t-k]? =some v
 | [],_,_,_,h=>by simp [argSlots,look] at h
 | u::vs,k,t,v,h=>by
  simp only [argSlots] at h
  rw [look_cons] at h
  by_cases e:k=t
  ·subst e;simp at h;subst h;simp
  ·rw [if_neg e] at h
   obtain⟨h1,h2⟩:=look_argSlots vs (k+1) t v h
   refine⟨by omega, ?_⟩
   have:t-k=(t-(k+1))+1:=by omega
   rw [this,List.getElem?_cons_succ];exact h2
theorem Calls.enter {f:FuncId}{fn:Func}{c:Code}{args:List Value}{w:World}{R:Ending→World→Prop}(hf:P.funcs[f]? =some fn)(hb:fn.body=some c){m:Nat}(hn:fn.ntmps=m)(hle:Nat.ble args.length m=true)(hw:St w0 w H)
  (h:Tri w0 (c.wp P (bodyPost P fn R)) ⟨m, []⟩ (argSlots 0 args) H):Calls P f args.toArray w R:=by
 refine calls_of_wp hf hb (h _ w ⟨rfl, ?_,fun t v ht=>?_⟩ hw)
 ·have:=Nat.le_of_ble_eq_true hle
  simp [hn];omega
 ·obtain⟨_,h2⟩:=look_argSlots args 0 t v ht
  simp only [Nat.sub_zero] at h2
  have hlt:t<args.length:=(List.getElem?_eq_some_iff.1 h2).1
  simp [Array.getElem?_append,hlt]
  exact(List.getElem?_eq_some_iff.1 h2).2
inductive Res1 (P:Program) (L:Slots) (H:List Atom):ResultVar→Value→Prop
 | tmp {t:Tmp} {v:Value}:look L t=some v→Res1 P L H (.tmp t) v
 | cell {p:Tmp} {T T':TypeId} {b i:Nat} {cs:List Value} {v:Value} {H':List Atom} [TPlain P T] :look L p=some (.pointer (some ⟨b,i,none⟩))→Pull H (blk b T' cs) H'→cs[i]? =some v→Res1 P L H (.cell p T) v
 | agg {p:Tmp} {T T':TypeId} {b i sz:Nat} {cs ys:List Value} {H':List Atom} [TAgg P T sz] :look L p=some (.pointer (some ⟨b,i,none⟩))→Pull H (blk b T' cs) H'→(cs.drop i).take sz=ys→ys.length=sz→Res1 P L H (.cell p T) (.agg ys.toArray)
def resVar (tmps:Array Value):ResultVar→Sem Value
 | .tmp t=>pure (tmps.getD t undef)
 | .cell a t=>do loadVar t (←asAddr (tmps.getD a undef))
theorem Res1.run {a:Act}{w:World}{rv:ResultVar}{v:Value}(ha:Has a n L)(hw:St w0 w H)(h:Res1 P L H rv v):(resVar a.tmps rv).run P w= .ok v w:=by
 cases h with
 | tmp h1=>simp [resVar,ha.get _ _ h1]
 | @cell pp T T' b i cs v H' hT h1 p h2=>
  have e:=ha.get _ _ h1
  have hc:w.cell? ⟨b,i,none⟩=some v:=by simp [World.cell?,St.blk hw p,h2]
  simp only [resVar]
  simp [e,asAddr,load_cell (P:=P) (T:=T) hc]
 | @agg pp T T' b i sz cs ys H' hT h1 p h2 h3=>
  have e:=ha.get _ _ h1
  simp only [resVar]
  have hq:(loadVar T ⟨b,i,none⟩).run P w= .ok (.agg ys.toArray) w:=load_agg h3 (fun j v hj=>by
   rw [←h2,List.getElem?_take] at hj
   split at hj
   ·rw [List.getElem?_drop] at hj
    rw [Addr.add_lit]
    simp [World.cell?,St.blk hw p,hj]
   ·cases hj)
  simp [e,asAddr,hq]
def ResL (P:Program)(L:Slots)(H:List Atom):List ResultVar→List Value→Prop
 | [], [] =>True
 | r::rs,v::vs=>Res1 P L H r v∧ResL P L H rs vs
 | _,_=>False
theorem ResL.nil:ResL P L H [] [] :=trivial
theorem ResL.cons {r:ResultVar}{rs:List ResultVar}{v:Value}{vs:List Value}(a:Res1 P L H r v)(b:ResL P L H rs vs):ResL P L H (r::rs) (v::vs):=⟨a,b⟩
theorem ResL.run {a:Act}{w:World}(ha:Has a n L)(hw:St w0 w H): ∀{rs:List ResultVar} {vs:List Value},ResL P L H rs vs→(rs.mapM (resVar a.tmps)).run P w= .ok vs w
 | [], [],_=>by simp
 | _::_,_::_,h=>by simp [List.mapM_cons,Res1.run ha hw h.1,ResL.run ha hw h.2]
 | [],_::_,h=>h.elim
 | _::_, [],h=>h.elim
def tupled:List Value→Value
 | [v] =>v
 | vs=> .tuple vs.toArray
theorem results_run {fn:Func}{a:Act}{w:World}{rs:List ResultVar}{vs:List Value}(hr:fn.results=rs.toArray)(ha:Has a n L)(hw:St w0 w H)(h:ResL P L H rs vs):(results fn a.tmps).run P w= .ok (tupled vs) w:=by
 have e:results fn a.tmps=(do let vs ←fn.results.mapM (resVar a.tmps);pure (if h:vs.size=1 then vs[0] else .tuple vs)):=by
  unfold results
  congr 1
 rw [e,hr]
 simp only [List.mapM_toArray,Sem.run_bind,Sem.run_map,ResL.run ha hw h,Result.andThen_ok,Sem.run_pure]
 congr 1
 cases vs with
 | nil=>rfl
 | cons v vs=>cases vs with
  | nil=>rfl
  | cons u us=>simp [tupled]
theorem Tri.fin {m:Nat}{fn:Func}{rs:List ResultVar}{vs:List Value}{R:Value→World→Prop}(hr:fn.results=rs.toArray)(h:ResL P L H rs vs)(hR: ∀w,St w0 w H→R (tupled vs) w):Tri w0 (bodyPost P fn (Ret R) .ret) ⟨m, []⟩ L H:=fun a w ha hw=>
 ⟨ha.defers,_,results_run hr ha hw h,hR w hw⟩
theorem Tri.finN {m:Nat}{fn:Func}{rs:List ResultVar}{vs:List Value}{R:Value→World→Prop}(hr:fn.results=rs.toArray)(h:ResL P L H rs vs)(hR: ∀w,St w0 w H→R (tupled vs) w):Tri w0 (bodyPost P fn (Ret R) .normal) ⟨m, []⟩ L H:=fun a w ha hw=>
 ⟨ha.defers,_,results_run hr ha hw h,hR w hw⟩
end
theorem wrap_i64 {i:Int}(h: -9223372036854775808≤i∧i≤9223372036854775807):IntKind.i64.wrap i=i:=IntWalk.i64_in i h
theorem wrap_u8 {i:Int}(h:0≤i∧i≤255):IntKind.u8.wrap i=i:=by
 show i%256=i;omega
theorem wrap_u16 {i:Int}(h:0≤i∧i≤65535):IntKind.u16.wrap i=i:=by
 show i%65536=i;omega
theorem wrap_u32 {i:Int}(h:0≤i∧i≤4294967295):IntKind.u32.wrap i=i:=by
 show i%4294967296=i;omega
theorem wrap_u64 {i:Int}(h:0≤i∧i≤18446744073709551615):IntKind.u64.wrap i=i:=by
 show i%18446744073709551616=i;omega
theorem wrapu8 (i:Int):IntKind.u8.wrap i=i%256:=rfl
theorem wrapu32 (i:Int):IntKind.u32.wrap i=i%4294967296:=rfl
theorem ofInt_nat (w n:Nat):BitVec.ofInt w (n:Int)=BitVec.ofNat w n:=by
 apply BitVec.eq_of_toNat_eq
 simp
theorem xor32 (x y:UInt32):Go.bits .xor .u32 (x.toNat:Int) (y.toNat:Int)=((x ^^^ y).toNat:Int):=by
 show ((BitVec.ofInt 32 (x.toNat:Int) ^^^ BitVec.ofInt 32 (y.toNat:Int)).toNat:Int)%4294967296=_
 rw [ofInt_nat,ofInt_nat]
 have h1:BitVec.ofNat 32 x.toNat=x.toBitVec:=by apply BitVec.eq_of_toNat_eq;simp
 have h2:BitVec.ofNat 32 y.toNat=y.toBitVec:=by apply BitVec.eq_of_toNat_eq;simp
 rw [h1,h2, ←UInt32.toBitVec_xor]
 have:=(x ^^^ y).toNat_lt
 show ((x ^^^ y).toNat:Int)%4294967296=_
 omega
theorem and32 (x y:UInt32):Go.bits .and .u32 (x.toNat:Int) (y.toNat:Int)=((x &&& y).toNat:Int):=by
 show ((BitVec.ofInt 32 (x.toNat:Int) &&& BitVec.ofInt 32 (y.toNat:Int)).toNat:Int)%4294967296=_
 rw [ofInt_nat,ofInt_nat]
 have h1:BitVec.ofNat 32 x.toNat=x.toBitVec:=by apply BitVec.eq_of_toNat_eq;simp
 have h2:BitVec.ofNat 32 y.toNat=y.toBitVec:=by apply BitVec.eq_of_toNat_eq;simp
 rw [h1,h2, ←UInt32.toBitVec_and]
 have:=(x &&& y).toNat_lt
 show ((x &&& y).toNat:Int)%4294967296=_
 omega
theorem xor8 (x y:UInt8):Go.bits .xor .u8 (x.toNat:Int) (y.toNat:Int)=((x ^^^ y).toNat:Int):=by
 show ((BitVec.ofInt 8 (x.toNat:Int) ^^^ BitVec.ofInt 8 (y.toNat:Int)).toNat:Int)%256=_
 rw [ofInt_nat,ofInt_nat]
 have h1:BitVec.ofNat 8 x.toNat=x.toBitVec:=by apply BitVec.eq_of_toNat_eq;simp
 have h2:BitVec.ofNat 8 y.toNat=y.toBitVec:=by apply BitVec.eq_of_toNat_eq;simp
 rw [h1,h2, ←UInt8.toBitVec_xor]
 have:=(x ^^^ y).toNat_lt
 show ((x ^^^ y).toNat:Int)%256=_
 omega
theorem or8 (x y:UInt8):Go.bits .or .u8 (x.toNat:Int) (y.toNat:Int)=((x ||| y).toNat:Int):=by
 show ((BitVec.ofInt 8 (x.toNat:Int) ||| BitVec.ofInt 8 (y.toNat:Int)).toNat:Int)%256=_
 rw [ofInt_nat,ofInt_nat]
 have h1:BitVec.ofNat 8 x.toNat=x.toBitVec:=by apply BitVec.eq_of_toNat_eq;simp
 have h2:BitVec.ofNat 8 y.toNat=y.toBitVec:=by apply BitVec.eq_of_toNat_eq;simp
 rw [h1,h2, ←UInt8.toBitVec_or]
 have:=(x ||| y).toNat_lt
 show ((x ||| y).toNat:Int)%256=_
 omega
theorem com32 (x:UInt32):Go.bits .xor .u32 (if IntKind.u32.signed then -1 else IntKind.u32.max) (x.toNat:Int)=((~~~ x).toNat:Int):=by
 have e:(if IntKind.u32.signed then -1 else IntKind.u32.max:Int)=((0xFFFFFFFF:UInt32).toNat:Int):=by decide
 rw [e,xor32]
 congr 2
theorem shr32 (x:UInt32)(k:Nat)(hk:k<32)(j:Int)(hj:j=k):(x.toNat:Int)/2 ^ min j.toNat IntKind.u32.bits=((x>>>UInt32.ofNat k).toNat:Int):=by
 subst hj
 have hm:min (Int.toNat (k:Int)) IntKind.u32.bits=k:=by simp [IntKind.bits];omega
 rw [hm,UInt32.toNat_shiftRight,Nat.shiftRight_eq_div_pow]
 have:(UInt32.ofNat k).toNat%32=k:=by simp;omega
 rw [this]
 norm_cast
theorem low8 (x:UInt32):IntKind.u8.wrap (x.toNat:Int)=(x.toUInt8.toNat:Int):=by
 rw [wrapu8];simp
theorem neg32 (x:UInt32):IntKind.u32.wrap (0-(x.toNat:Int))=((0-x).toNat:Int):=by
 rw [wrapu32,UInt32.toNat_sub]
 have:=x.toNat_lt
 simp
 omega
section
variable {P:Program} {w0:World} {n:NT} {L:Slots} {H H' R:List Atom} {G:Act→World→Prop}
theorem Tri.setv (k:Nat){u:Value}(v:Value)(h:look L k=some u)(hv:u=v)(t:Tri w0 G n ((k,v)::L) H):Tri w0 G n L H:=fun a w ha hw=>
 t a w ⟨ha.defers,ha.size,fun t u e=>by
  rw [look_cons] at e
  by_cases hk:k=t
  ·subst hk;simp at e;subst e;subst hv;exact ha.get _ _ h
  ·rw [if_neg hk] at e;exact ha.get _ _ e⟩ hw
theorem Tri.seti (k:Nat){ik:IntKind}{i:Int}(j:Int)(h:look L k=some (.int ik i))(hi:i=j)(t:Tri w0 G n ((k, .int ik j)::L) H):Tri w0 G n L H:=Tri.setv k _ h (by rw [hi]) t
theorem Tri.setb (k:Nat){i:Bool}(j:Bool)(h:look L k=some (.bool i))(hi:i=j)(t:Tri w0 G n ((k, .bool j)::L) H):Tri w0 G n L H:=Tri.setv k _ h (by rw [hi]) t
theorem Tri.again {α:Type}{m:α→Nat}{Lx:α→Slots}{Hx:α→List Atom}{mx:Nat}(y:α)(hm:m y<mx)(hL:SubL L (Lx y))(p:Pulls H (Hx y) R):Tri w0 (fun a w=> ∃y,m y<mx∧Has a n (Lx y)∧St w0 w (Hx y)) n L H:=fun a w ha hw=>
 ⟨y,hm,ha.sub hL,(hw.pulls p).1,Sat.left (hw.pulls p).2⟩
theorem Tri.eqA {A B:Atom}(p:Pull H A H')(e:A=B)(k:Tri w0 G n L (B::H')):Tri w0 G n L H:=by subst e;exact Tri.pull p k
theorem St.all {As:List Atom}(p:Pulls H As R): ∀w,St w0 w H→St w0 w As:=fun w hw=>⟨(hw.pulls p).1,Sat.left (hw.pulls p).2⟩
theorem fin_R {Rr:List Atom→Prop}{Hn F:List Atom}(p:Pulls H (Hn++F) R)(hr:Rr Hn): ∀w,St w0 w H→ ∃H',Rr H'∧St w0 w (H'++F):=fun w hw=>⟨Hn,hr,(hw.pulls p).1,Sat.left (hw.pulls p).2⟩
end
def ro (v:Value)(n:Nat)(xs:List Value):Atom:=fun h=>Rd h v n xs
theorem own_of_blk {b:Nat}{e:TypeId}{size n:Nat}{xs:List Value}(hl:xs.length=n*size)(hn:n≤9223372036854775807)(h:PH)(hb:blk b e xs h):own e size (.slice (some ⟨b,0,none⟩) n n) n xs h:=
 ⟨hl, .inr ⟨b,n,xs.toArray,rfl,hb,Nat.le_refl _,by unfold maxLen;omega,by simp [hl],by simp [←hl]⟩⟩
section
variable {P:Program} {w0:World} {n:NT} {L:Slots} {H H':List Atom} {Q:Exit→Act→World→Prop} {K:Act→World→Prop} {o:Oper} {d:Nat}
variable {ty:TypeId} {pos:String} {aft:Array Edge} {g:Option (Nat×Bool)}
theorem o_eqlB {t1 t2:TypeId}{x y:Operand}{a b:Bool}[ht:TBool P t1](hx:ev L x=some (.bool a))(hy:ev L y=some (.bool b))(hn:Nat.blt d n=true)(k:Tri w0 K n ((d, .bool (a==b))::L) H):
  Tri w0 (OpG P ⟨some d, .binOp .eql t1 x y t2,ty,pos,aft,g⟩ K Q) n L H:=
 Tri.val rfl hn _ (fun c w ha _=>by simp [execOp,ha.eval hx,ha.eval hy,run_eql_bool w t1 a b ht.ok,eqGuard_at_bool]) k
theorem o_neqB {t1 t2:TypeId}{x y:Operand}{a b:Bool}[ht:TBool P t1](hx:ev L x=some (.bool a))(hy:ev L y=some (.bool b))(hn:Nat.blt d n=true)(k:Tri w0 K n ((d, .bool (!(a==b)))::L) H):
  Tri w0 (OpG P ⟨some d, .binOp .neq t1 x y t2,ty,pos,aft,g⟩ K Q) n L H:=
 Tri.val rfl hn _ (fun c w ha _=>by simp [execOp,ha.eval hx,ha.eval hy,run_neq_bool w t1 a b ht.ok,eqGuard_at_bool]) k
theorem o_eqlN {t1 t2:TypeId}{x y:Operand}{a:Option Addr}[ht:TPtr P t1](hx:ev L x=some (.pointer a))(hy:ev L y=some (.pointer none))(hn:Nat.blt d n=true)(k:Tri w0 K n ((d, .bool a.isNone)::L) H):
  Tri w0 (OpG P ⟨some d, .binOp .eql t1 x y t2,ty,pos,aft,g⟩ K Q) n L H:=
 Tri.val rfl hn _ (fun b w ha _=>by simp [execOp,ha.eval hx,ha.eval hy,run_eql_pointer_nil w t1 a ht.ok,eqGuard_at_pointer]) k
theorem o_neqN {t1 t2:TypeId}{x y:Operand}{a:Option Addr}[ht:TPtr P t1](hx:ev L x=some (.pointer a))(hy:ev L y=some (.pointer none))(hn:Nat.blt d n=true)(k:Tri w0 K n ((d, .bool (!a.isNone))::L) H):
  Tri w0 (OpG P ⟨some d, .binOp .neq t1 x y t2,ty,pos,aft,g⟩ K Q) n L H:=
 Tri.val rfl hn _ (fun b w ha _=>by simp [execOp,ha.eval hx,ha.eval hy,run_neq_pointer_nil w t1 a ht.ok,eqGuard_at_pointer]) k
theorem str_beq (a b:ByteArray):(a.toList==b.toList)=decide (a=b):=by
 rw [Bool.eq_iff_iff,beq_iff_eq,decide_eq_true_iff,ByteArray.toList_eq,ByteArray.toList_eq]
 constructor
 ·intro h
  cases a;cases b
  simp only [ByteArray.mk.injEq]
  exact Array.toList_inj.1 h
 ·rintro rfl;rfl
theorem o_eqlS {t1 t2:TypeId}{x y:Operand}{a b:ByteArray}(hx:ev L x=some (.string a))(hy:ev L y=some (.string b))(hn:Nat.blt d n=true)(k:Tri w0 K n ((d, .bool (decide (a=b)))::L) H):
  Tri w0 (OpG P ⟨some d, .binOp .eql t1 x y t2,ty,pos,aft,g⟩ K Q) n L H:=
 Tri.val rfl hn _ (fun c w ha _=>by simp only [execOp,ha.eval hx,ha.eval hy];simp [eqGuard_at_string,binOp_string_eql,str_beq]) k
theorem o_neqS {t1 t2:TypeId}{x y:Operand}{a b:ByteArray}(hx:ev L x=some (.string a))(hy:ev L y=some (.string b))(hn:Nat.blt d n=true)(k:Tri w0 K n ((d, .bool (decide (¬a=b)))::L) H):
  Tri w0 (OpG P ⟨some d, .binOp .neq t1 x y t2,ty,pos,aft,g⟩ K Q) n L H:=
 Tri.val rfl hn _ (fun c w ha _=>by simp only [execOp,ha.eval hx,ha.eval hy];simp [eqGuard_at_string,binOp_string_neq,str_beq]) k
theorem o_min {ts:Array TypeId}{x y:Operand}{ik jk:IntKind}{i j:Int}(hx:ev L x=some (.int ik i))(hy:ev L y=some (.int jk j))(hn:Nat.blt d n=true)(k:Tri w0 K n ((d, .int ik (min i j))::L) H):
  Tri w0 (OpG P ⟨some d, .call { callee:= .builtin .min,args:= #[x,y],argTypes:=ts },ty,pos,aft,g⟩ K Q) n L H:=
 Tri.val rfl hn _ (fun a w ha _=>by
  have e:(if j<i then j else i)=min i j:=by split<;>omega
  simp [execOp,resolve,invoke,builtin,ha.eval hx,ha.eval hy,Builtin.min_,Builtin.min2,e]) k
theorem o_max {ts:Array TypeId}{x y:Operand}{ik jk:IntKind}{i j:Int}(hx:ev L x=some (.int ik i))(hy:ev L y=some (.int jk j))(hn:Nat.blt d n=true)(k:Tri w0 K n ((d, .int ik (max i j))::L) H):
  Tri w0 (OpG P ⟨some d, .call { callee:= .builtin .max,args:= #[x,y],argTypes:=ts },ty,pos,aft,g⟩ K Q) n L H:=
 Tri.val rfl hn _ (fun a w ha _=>by
  have e:(if i<j then j else i)=max i j:=by split<;>omega
  simp [execOp,resolve,invoke,builtin,ha.eval hx,ha.eval hy,Builtin.max_,Builtin.max2,e]) k
theorem St.grown {w w':World}{e:TypeId}{size m m':Nat}{v v':Value}{xs xs':List Value}(hw:St w0 w (own e size v m xs::H))(ho:w'.ownsRow 0 e size v' m' xs')(hv:v'.ownBlock=v.ownBlock∨ ∀b,v'.ownBlock=some b→w.heap.size≤b)(hg:w.grownBy w' v.ownBlock):St w0 w' (own e size v' m' xs'::H):=by
 refine hw.upd ⟨hg.os,hg.tape,hg.output,hg.size⟩ (fun s hs hA=>?_)
 have hblk: ∀b,v.ownBlock=some b→s b:=by
  intro b hb
  rcases hA.2 with ⟨rfl,_⟩ | ⟨g,cap,cur,rfl,h2,_⟩
  ·simp [Value.ownBlock] at hb
  ·simp [Value.ownBlock] at hb;subst hb;exact(res_some h2).1
 refine⟨?_,fun b hb hl=>hg.block b hl (fun e=>hb (hblk b e.symm))⟩
 have hb: ∀b,v'.ownBlock=some b→s b∨w.heap.size≤b:=by
  intro b hb
  rcases hv with hv | hv
  ·exact .inl (hblk b (hv▸hb))
  ·exact .inr (hv b hb)
 rcases ho.2 with ⟨rfl,rfl⟩ | ⟨g,cap,cur,rfl,h1,h2,h3,h4,h5,h6⟩
 ·exact⟨fun _=>False,fun _ h=>h.elim,ho.1, .inl ⟨rfl,rfl⟩⟩
 ·refine⟨fun b=>b=g,fun b e=>?_,ho.1, .inr ⟨g,cap,cur,rfl, ?_,h3,h4,h5,h6⟩⟩
  ·subst e
   exact⟨(Array.getElem?_eq_some_iff.1 h2).1,hb b rfl⟩
  ·unfold res;simp only [if_true];exact h2
theorem Rd.cellW {w:World}{a:Addr}{m c:Nat}{xs:List Value}(hr:RdW w (.slice (some a) m c) m xs): ∀j y,xs[j]? =some y→w.cell? (a.add j)=some y:=by
 obtain⟨A,c',hv,hc,hcell⟩:=hr
 cases hv
 intro j y hy
 obtain⟨a',ha',cs,T,fr,g1,g2,g3⟩:=hcell j y hy
 cases ha'
 have hbb:(a.add j).block=a.block:=by unfold Addr.add;split<;>rfl
 have g1':w.heap[a.block]? =some (.cells cs T fr):=g1
 simp only [World.cell?,hbb,g1',g2,Option.isSome_none,Bool.false_eq_true,if_false]
 exact g3
theorem TElem.get {e:TypeId}{size bytes:Nat}{z:List Value}(he:TElem P e size bytes z): ∃i z0,P.info? e=some i∧i.zero=some z0∧i.size=size∧i.bytes=bytes∧z0.cells.toList=z∧z0.cells.size=size∧0<size∧size≤bytes∧bytes≤65536:=by
 have hok:=he.ok;have hpos:=he.pos
 cases hi:P.info? e with
 | none=>simp [hi] at hok
 | some i=>
  cases hz:i.zero with
  | none=>simp [hi,hz] at hok
  | some z0=>
   simp [hi,hz] at hok
   obtain⟨hsz,hby,hzz⟩:=hok
   simp only [Bool.and_eq_true,Nat.blt_eq,Nat.ble_eq,Nat.beq_eq_true_eq] at hpos
   obtain⟨⟨⟨p1,p2⟩,p3⟩,p4⟩:=hpos
   exact⟨i,z0,rfl,hz,hsz,hby,hzz,by rw [←Array.length_toList,hzz,Nat.eq_of_beq_eq_true p3],p1,p2,p4⟩
theorem ownsRow_new {w:World}{e:TypeId}{size bytes m old:Nat}{z0:Value}{xs:List Value}(hzs:z0.cells.size=size)(hl:xs.length=m*size)(h63:m≤maxLen):
  (w.drew.alloc (.cells (xs.toArray++Builtin.zeroCells z0.cells (grownCap w m old e-m)) e)).ownsRow 0 e size (.slice (some ⟨w.heap.size,0,none⟩) m (grownCap w m old e)) m xs:=by
 have hge:=grownCap_ge w m old e
 refine⟨hl, .inr ⟨w.heap.size,_,_,rfl,Nat.zero_le _,heap_alloc_new w.drew _,hge,grownCap_le_maxLen w m old e h63, ?_, ?_⟩⟩
 ·simp only [Array.size_append,List.size_toArray,size_zeroCells,hzs,hl, ←Nat.add_mul]
  congr 1;omega
 ·simp only [Array.toList_append, ←hl]
  exact List.take_left
theorem append_run {t e ty:TypeId}{size bytes:Nat}{z:List Value}[ht:TSlice P t e][he:TElem P e size bytes z]{w:World}{v u:Value}{m1 m2:Nat}{xs news:List Value}(ho:w.ownsRow 0 e size v m1 xs)(hr:RdW w u m2 news)(hl:news.length=m2*size)(h1: ∀y∈news,y.oneCell'=true)(hb:(m1+m2)*bytes≤140737488355328):
  ∃v' w',(Builtin.append_ #[t,t] ty #[v,u]).run P w= .ok v' w'∧w.grownBy w' v.ownBlock∧(v'.ownBlock=v.ownBlock∨ ∀b,v'.ownBlock=some b→w.heap.size≤b)∧w'.ownsRow 0 e size v' (m1+m2) (xs++news):=by
 obtain⟨i,z0,hi,hz,hsz,hby,hzz,hzs,p1,p2,p4⟩:=he.get
 have hm:(m1+m2)*1≤(m1+m2)*bytes:=Nat.mul_le_mul_left _ (by omega)
 have h63:m1+m2≤maxLen:=by unfold maxLen;omega
 have hlen:(xs++news).length=(m1+m2)*size:=by rw [lAp,ho.1,hl,Nat.add_mul]
 obtain⟨A,c,rfl,hc,_⟩:=id hr
 have same:w.grownBy w v.ownBlock:=⟨rfl,rfl,rfl,Nat.le_refl _,fun _ _ _=>rfl⟩
 cases A with
 | none=>
  have hn:news= [] :=by
   obtain⟨A',c',hv',_,hcell⟩:=hr
   cases hv'
   cases news with
   | nil=>rfl
   | cons y ys=>obtain⟨a,ha,_⟩:=hcell 0 y rfl;cases ha
  subst hn
  have hm:m2=0:=by
   rcases Nat.eq_zero_or_pos m2 with h | h
   ·exact h
   ·have:0<m2*size:=Nat.mul_pos h p1
    simp at hl;omega
  subst hm
  rcases ho.2 with ⟨rfl,rfl⟩ | ⟨gg,cap,cur,rfl,hb1,hb2,hb3,hb4,hb5,hb6⟩
  ·refine⟨_,w, ?_,same, .inl rfl,by simpa using ho⟩
   simp [Builtin.append_,run_underlying ht.ok,sizeOf,typeInfo,hi,Builtin.lenOf,Builtin.firstCells,loadCells,loadCellsFrom]
  ·refine⟨_,w, ?_,same, .inl rfl,by simpa using ho⟩
   simp [Builtin.append_,run_underlying ht.ok,sizeOf,typeInfo,hi,Builtin.lenOf,Builtin.firstCells,loadCells,loadCellsFrom,hb3,storeCells]
 | some a=>
  have hnews:=Rd.cellW hr
  rcases ho.2 with ⟨rfl,rfl⟩ | ⟨gg,cap,cur,rfl,hb1,hb2,hb3,hb4,hb5,hb6⟩
  ·have hx:xs= [] :=List.eq_nil_of_length_eq_zero (by simpa using ho.1)
   subst hx
   by_cases hm0:m2=0
   ·subst hm0
    have hn:news= [] :=List.eq_nil_of_length_eq_zero (by simpa using hl)
    subst hn
    refine⟨_,w, ?_,same, .inl rfl,by simpa using ho⟩
    simp [Builtin.append_,run_underlying ht.ok,sizeOf,typeInfo,hi,Builtin.lenOf,Builtin.firstCells,loadCells,loadCellsFrom]
   ·have hrun:=run_append_nil (P:=P) w t ty e i z0 ht.ok hi hz a m2 c news (by rw [hsz];exact hl) hnews (by omega) (by unfold maxLen at h63;omega) (by rw [hby];simp only [Nat.zero_add] at hb;omega)
    refine⟨_,_,hrun,⟨rfl,rfl,rfl,by simp,fun k hk _=>Below.heap_alloc w.drew _ k hk⟩, .inr (fun b hb=>by simp [Value.ownBlock] at hb;omega), ?_⟩
    simp only [Nat.zero_add,nAp]
    exact ownsRow_new (bytes:=bytes) hzs hl (by omega)
  ·by_cases hroom:m1+m2≤cap
   ·have hfit:m1*i.size+news.length≤cur.size:=by rw [hl,hb5,hsz, ←Nat.add_mul];exact Nat.mul_le_mul_right _ hroom
    have hrun:=run_append_room (P:=P) w t ty e i ht.ok hi gg m1 cap cur hb2 a m2 c news (by rw [hsz];exact hl) hnews h1 hroom hfit
    refine⟨_,_,hrun,⟨rfl,rfl,rfl,by simp,fun k _ hk=>setRow_other w gg k _ (fun e=>hk (by simp [Value.ownBlock,e]))⟩, .inl rfl,hlen, .inr ⟨gg,cap,_,rfl,Nat.zero_le _,setRow_heap w gg cur _ e _ hb2,hroom,hb4, ?_, ?_⟩⟩
    ·simp only [List.size_toArray,lAp,lTk,lDp,Array.length_toList,hsz] at hfit ⊢
     omega
    ·rw [hsz,hb6, ←hlen]
     exact List.take_left
   ·have holds: ∀j u,xs[j]? =some u→w.cell? ((⟨gg,0,none⟩:Addr).add j)=some u:=ho.cells (g:=gg) rfl
    have hrun:=run_append_grow (P:=P) w t ty e i z0 ht.ok hi hz ⟨gg,0,none⟩ m1 cap xs (by rw [hsz];exact ho.1) holds a m2 c news (by rw [hsz];exact hl) hnews (by omega) (by unfold maxLen at h63;omega) (growslice_fits (by omega) (by rw [hby];exact hb))
    refine⟨_,_,hrun,⟨rfl,rfl,rfl,by simp,fun k hk _=>Below.heap_alloc w.drew _ k hk⟩, .inr (fun b hb=>by simp [Value.ownBlock] at hb;omega), ?_⟩
    have:=ownsRow_new (w:=w) (e:=e) (bytes:=bytes) (old:=cap) hzs hlen h63
    simpa using this
theorem o_append {t e:TypeId}{size bytes:Nat}{z:List Value}[TSlice P t e][TElem P e size bytes z]{s x:Operand}{v u:Value}{m1 m2:Nat}{xs news:List Value}(hx:ev L s=some v)(hy:ev L x=some u)(p:Pull H (own e size v m1 xs) H')(hr: ∀w,St w0 w H→RdW w u m2 news)(hl:news.length=m2*size)(h1: ∀y∈news,y.oneCell'=true)(hb:(m1+m2)*bytes≤140737488355328)(hn:Nat.blt d n=true)
  (k: ∀v',Tri w0 K n ((d,v')::L) (own e size v' (m1+m2) (xs++news)::H')):
  Tri w0 (OpG P ⟨some d, .call { callee:= .builtin .append,args:= #[s,x],argTypes:= #[t,t] },ty,pos,aft,g⟩ K Q) n L H:=
 Tri.valW rfl hn (fun a w ha hw=>by
  obtain⟨s',hA⟩:=(hw.pull p).2.head
  obtain⟨v',w',q1,q2,q3,q4⟩:=append_run (P:=P) (t:=t) (ty:=ty) (own_row hA) (hr w hw) hl h1 hb
  refine⟨v',w', ?_,fun a' ha'=>k v' a' w' ha' (St.grown (hw.pull p) q4 q3 q2)⟩
  simp [execOp,resolve,invoke,builtin,ha.eval hx,ha.eval hy,q1])
theorem makeSlice_cells {z0:Value}{m:Nat}{zc:Value}(hz:z0.cells.toList= [zc]):(madeCells z0.cells m)=(List.replicate m zc).toArray:=by
 have hz':z0.cells= #[zc] :=by rw [←Array.toArray_toList (xs:=z0.cells),hz]
 unfold madeCells
 rw [hz']
 apply Array.ext
 ·simp
 ·intro i h1 h2
  have:i%1=0:=Nat.mod_one i
  simp [this]
theorem o_make1 {t e:TypeId}{bytes:Nat}{zc:Value}{x y:Operand}{ik jk:IntKind}{i j:Int}{m:Nat}[ht:TSlice P t e][he:TElem P e 1 bytes [zc]](hx:ev L x=some (.int ik i))(hy:ev L y=some (.int jk j))(hi:i=(m:Int))(hj:j=(m:Int))(hb:m*bytes≤140737488355328)(hn:Nat.blt d n=true)
  (k: ∀b,Tri w0 K n ((d, .slice (some ⟨b,0,none⟩) m m)::L) (blk b e (List.replicate m zc)::H)):
  Tri w0 (OpG P ⟨some d, .makeSlice t x y,ty,pos,aft,g⟩ K Q) n L H:=
 Tri.valW rfl hn (fun a w ha hw=>by
  obtain⟨i0,z0,hi0,hz,hsz,hby,hzz,hzs,p1,p2,p4⟩:=he.get
  subst hi;subst hj
  have hm:m*1≤m*bytes:=Nat.mul_le_mul_left _ (by omega)
  have hmb:m*bytes=bytes*m:=Nat.mul_comm _ _
  have hbb:(i0.bytes:Int)*(m:Int)≤281474976710656:=by rw [hby, ←Int.natCast_mul];omega
  have hrun:=run_make (P:=P) w t e i0 z0 ht.ok hi0 hz ik jk (m:Int) (m:Int) (by omega) (by omega) hbb (by omega)
  rw [hsz,Int.toNat_natCast,Nat.mul_one,makeSlice_cells hzz] at hrun
  refine⟨_,w.alloc (.cells (List.replicate m zc).toArray e), ?_,fun a' ha'=>k w.heap.size a' _ ha' (hw.alloc _ _ (fun h hh=>hh))⟩
  simp only [execOp,ha.eval hx,ha.eval hy,Sem.run_bind,hrun,Result.andThen_ok,Sem.run_pure])
theorem slice_run {T e:TypeId}{size:Nat}[hT:TSlice P T e][hs:TSize P e size]{w:World}{A:Option Addr}{m c lo hi:Nat}{ol oh:Option Value}(hlo:(∃ik,ol=some (.int ik (lo:Int)))∨ol=none∧lo=0)(hhi:(∃jk,oh=some (.int jk (hi:Int)))∨oh=none∧hi=m)(h1:lo≤hi)(h2:hi≤c):
  (Instr.sliceAt T (.slice A m c) ol oh none).run P w= .ok (.slice (if c=lo then A else A.map (·.add (lo*size))) (hi-lo) (c-lo)) w:=by
 have b2:(0:Int)≤lo∧(lo:Int)≤hi:=by omega
 have b1:(0:Int)≤hi∧(hi:Int)≤c:=by omega
 rcases hlo with ⟨ik,rfl⟩ | ⟨rfl,rfl⟩<;>rcases hhi with ⟨jk,rfl⟩ | ⟨rfl,rfl⟩<;>
  simp [Instr.sliceAt,Instr.slice,run_underlying hT.ok,Instr.sliceBounds,Instr.sliceBound,asIntOf,size_run hs.ok,b1,b2,h1,h2]
def subv (v:Value)(size lo hi:Nat):Value:=match v with
 | .slice A _ c=> .slice (if c=lo then A else A.map (·.add (lo*size))) (hi-lo) (c-lo)
 | _=>undef
theorem Rd.subv {h:PH}{v:Value}{n:Nat}{xs:List Value}(hr:Rd h v n xs){size lo hi:Nat}(h1:lo≤hi)(h2:hi≤n):Rd h (subv v size lo hi) (hi-lo) ((xs.drop (lo*size)).take ((hi-lo)*size)):=by
 obtain⟨A,c,rfl,_⟩:=id hr
 exact hr.sub h1 h2 A c rfl
theorem o_slice {T e:TypeId}{size:Nat}{x:Operand}{ol oh:Option Operand}{v:Value}{m lo hi:Nat}{xs:List Value}{vl vh:Option Value}[hT:TSlice P T e][hs:TSize P e size](hx:ev L x=some v)(hr: ∀w,St w0 w H→RdW w v m xs)(hol: ∀a,Has a n L→ol.map a.eval=vl)(hoh: ∀a,Has a n L→oh.map a.eval=vh)(hlo:(∃ik,vl=some (.int ik (lo:Int)))∨vl=none∧lo=0)(hhi:(∃jk,vh=some (.int jk (hi:Int)))∨vh=none∧hi=m)(hlh:lo≤hi)(hhm:hi≤m)(hn:Nat.blt d n=true)
  (k:Tri w0 K n ((d,subv v size lo hi)::L) H):
  Tri w0 (OpG P ⟨some d, .slice T x ol oh none,ty,pos,aft,g⟩ K Q) n L H:=by
 refine Tri.val rfl hn _ (fun a w ha hw=>?_) k
 obtain⟨A,c,rfl,hc,_⟩:=id (hr w hw)
 simp [execOp,ha.eval hx,hol a ha,hoh a ha,slice_run (P:=P) (T:=T) (e:=e) (size:=size) (w:=w) (A:=A) (m:=m) (c:=c) hlo hhi hlh (by omega),subv]
theorem o_sliceB {T e:TypeId}{size:Nat}{x:Operand}{ol oh:Option Operand}{b o' m c lo hi:Nat}{vl vh:Option Value}[hT:TSlice P T e][hs:TSize P e size](hx:ev L x=some (.slice (some ⟨b,o',none⟩) m c))(hol: ∀a,Has a n L→ol.map a.eval=vl)(hoh: ∀a,Has a n L→oh.map a.eval=vh)(hlo:(∃ik,vl=some (.int ik (lo:Int)))∨vl=none∧lo=0)(hhi:(∃jk,vh=some (.int jk (hi:Int)))∨vh=none∧hi=m)(hlh:lo≤hi)(hhm:hi≤c)(hne:lo<c)(hn:Nat.blt d n=true)
  (k:Tri w0 K n ((d, .slice (some ⟨b,o'+lo*size,none⟩) (hi-lo) (c-lo))::L) H):
  Tri w0 (OpG P ⟨some d, .slice T x ol oh none,ty,pos,aft,g⟩ K Q) n L H:=by
 refine Tri.val rfl hn _ (fun a w ha _=>?_) k
 have hne':c≠lo:=by omega
 simp [execOp,ha.eval hx,hol a ha,hoh a ha,slice_run (P:=P) (T:=T) (e:=e) (size:=size) (w:=w) (A:=some ⟨b,o',none⟩) (m:=m) (c:=c) hlo hhi hlh hhm,hne',Addr.add_lit]
theorem o_copyB {t e T':TypeId}{x y:Operand}{b o' dl dc:Nat}{u:Value}{m q:Nat}{cur news:List Value}[ht:TSlice P t e][hs:TSize P e 1](hx:ev L x=some (.slice (some ⟨b,o',none⟩) dl dc))(hy:ev L y=some u)(p:Pull H (blk b T' cur) H')(hr: ∀w,St w0 w H→RdW w u m news)(hl:news.length=m)(hq:q=min m dl)(hfit:o'+q≤cur.length)(h1: ∀y∈news,y.oneCell'=true)(hn:Nat.blt d n=true)
  (k:Tri w0 K n ((d, .int .i64 (q:Int))::L) (blk b T' (cur.take o'++news.take q++cur.drop (o'+q))::H')):
  Tri w0 (OpG P ⟨some d, .call { callee:= .builtin .copy,args:= #[x,y],argTypes:= #[t,t] },ty,pos,aft,g⟩ K Q) n L H:=
 Tri.valW rfl hn (fun a w ha hw=>by
  have hb:=St.blk hw p
  obtain⟨A,c,rfl,hc,_⟩:=id (hr w hw)
  cases A with
  | none=>
   have hnil:news= [] :=by
    obtain⟨A',c',hv',_,hcell⟩:=hr w hw
    cases hv'
    cases news with
    | nil=>rfl
    | cons y ys=>obtain⟨a,ha,_⟩:=hcell 0 y rfl;cases ha
   subst hnil
   simp at hl;subst hl
   have hq0:q=0:=by omega
   subst hq0
   refine⟨_,w, ?_,fun a' ha'=>k a' w ha' (by simpa using hw.pull p)⟩
   have hsz:=size_run (P:=P) hs.ok w
   simp [execOp,resolve,invoke,builtin,ha.eval hx,ha.eval hy,Builtin.copy_,run_underlying ht.ok,Builtin.lenOf,Builtin.firstCells,hsz,storeCells,goInt]
  | some ad=>
   have hnews:=Rd.cellW (hr w hw)
   have hlen:(news.take q).length=Nat.min m dl:=by rw [lTk,hl,hq];show min (min m dl) m=min m dl;omega
   have hrun:=run_copy_row (P:=P) w t t ty e b o' dl dc ad m c cur.toArray T' (news.take q) ht.ok hs.ok hb hlen
    (fun j v hj=>hnews j v (by rw [List.getElem?_take] at hj;split at hj;exact hj;cases hj)) (by rw [hlen];simp;show o'+min m dl≤_;omega) (fun v hv=>h1 v (List.mem_of_mem_take hv))
   have hql:(news.take q).length=q:=by rw [hlen];exact hq.symm
   rw [hql] at hrun
   refine⟨_,_, ?_,fun a' ha'=>k a' _ ha' (upd_row (hw.pull p) _)⟩
   simp [execOp,resolve,invoke,builtin,ha.eval hx,ha.eval hy,hrun,goInt])
theorem o_bytesStr {s t e:TypeId}{x:Operand}{u:Value}{l:List UInt8}[hs:TSlice P s e](he:P.underlying e=some (.int .u8))[ht:TStr P t](hx:ev L x=some u)(hr: ∀w,St w0 w H→RdW w u l.length (l.map fun c=> .int .u8 (c.toNat:Int)))(hn:Nat.blt d n=true)(k:Tri w0 K n ((d, .string ⟨l.toArray⟩)::L) H):
  Tri w0 (OpG P ⟨some d, .convert s t x,ty,pos,aft,g⟩ K Q) n L H:=
 Tri.val rfl hn _ (fun a w ha hw=>by
  obtain⟨A,c,rfl,hc,_⟩:=id (hr w hw)
  cases A with
  | none=>
   have hnil:l= [] :=by
    obtain⟨A',c',hv',_,hcell⟩:=hr w hw
    cases hv'
    cases l with
    | nil=>rfl
    | cons y ys=>obtain⟨a,ha,_⟩:=hcell 0 _ rfl;cases ha
   subst hnil
   simp [execOp,ha.eval hx,convert,run_underlying hs.ok,run_underlying ht.ok,run_underlying he,Conv.bytesToString];rfl
  | some ad=>
   have hcell:=Rd.cellW (hr w hw)
   have hrun:=run_convert_bytes_back (P:=P) w s t e ad c l hs.ok he ht.ok (fun j hj=>hcell j _ (by simp [hj]))
   simp [execOp,ha.eval hx,hrun]) k
theorem o_convSS {s e:TypeId}{x:Operand}{v:Value}{m size:Nat}{xs:List Value}[hs:TSlice P s e](he:P.underlying e=some (.int .u8))(hx:ev L x=some v)(p:Pull H (own e size v m xs) H')(hm:0<m)(hn:Nat.blt d n=true)(k:Tri w0 K n ((d,v)::L) (ro v m xs::H')):
  Tri w0 (OpG P ⟨some d, .convert s s x,ty,pos,aft,g⟩ K Q) n L H:=
 Tri.valW rfl hn (fun a w ha hw=>by
  obtain⟨s',hA⟩:=(hw.pull p).2.head
  rcases hA.2 with ⟨_,h0⟩ | ⟨g',cap,cur,rfl,h2,h3,h4,h5,h6⟩
  ·omega
  ·have hg:=(res_some h2).2
   have hlt:g'<w.heap.size:=(Array.getElem?_eq_some_iff.1 hg).1
   have hsh:w.shape? g'=some (e,cur.size):=by simp [World.shape?,hg]
   refine⟨_,w.freeze ⟨g',cur.size,none⟩ 1, ?_,fun a' ha'=>k a' _ ha' ?_⟩
   ·simp only [execOp,ha.eval hx,convert,Sem.run_bind,run_underlying hs.ok,run_underlying he,Result.andThen_ok]
    have hs1:(Sem.shape g' Sem.pure).run P w= .ok (w.shape? g') w:=rfl
    simp [markStringish,shape,freeze,run_underlying he]
    rw [hs1,hsh];rfl
   ·have hfz:(w.freeze ⟨g',cur.size,none⟩ 1).heap[g']? =some (.cells cur e (cur.size,cur.size+1)):=by
     unfold World.freeze
     simp only [Nat.one_ne_zero,if_false,Array.getElem?_modify,if_true,hg,Option.map_some]
     rfl
    have hother: ∀b,b≠g'→(w.freeze ⟨g',cur.size,none⟩ 1).heap[b]? =w.heap[b]? :=by
     intro b hb
     unfold World.freeze
     simp only [Nat.one_ne_zero,if_false,Array.getElem?_modify]
     rw [if_neg (Ne.symm hb)]
    have hsz:(w.freeze ⟨g',cur.size,none⟩ 1).heap.size=w.heap.size:=by
     unfold World.freeze;simp
    refine(hw.pull p).upd ⟨by unfold World.freeze;simp,by unfold World.freeze;simp,by unfold World.freeze;simp,by omega⟩ (fun s hs hA=>⟨⟨fun b=>b=g',fun b hb=>?_, ?_⟩,fun b hb _=>hother b (fun e=>hb ?_)⟩)
    ·subst hb
     rcases hA.2 with ⟨_,h0⟩ | ⟨g2,cap2,cur2,hv,q2,_⟩
     ·omega
     ·cases hv;exact⟨by omega, .inl (res_some q2).1⟩
    ·refine⟨_,cap,rfl,⟨h3,h4⟩,fun j u hu=>⟨_,rfl,cur,e,(cur.size,cur.size+1), ?_, ?_, ?_⟩⟩
     ·unfold res;simp only [if_true];exact hfz
     ·rw [Addr.add_lit]
     ·rw [Addr.add_lit]
      have e1:cur.toList.take (m*size)=xs:=h6
      rw [←e1,List.getElem?_take] at hu
      split at hu
      ·simpa using hu
      ·cases hu
    ·subst e
     rcases hA.2 with ⟨_,h0⟩ | ⟨g2,cap2,cur2,hv,q2,_⟩
     ·omega
     ·cases hv;exact(res_some q2).1)
theorem o_callV {f:FuncId}{args:List Operand}{ts:Array TypeId}{vs:List Value}{Pre:World→Prop}{v:Value}[TFn P f](hs:SpecR P f vs.toArray Pre (fun r H'=>r=v∧H'= []))(hargs:evs L args vs)(hpre: ∀w,St w0 w H→Pre w)(hn:Nat.blt d n=true)
  (k:Tri w0 K n ((d,v)::L) H):
  Tri w0 (OpG P ⟨some d, .call { callee:= .value (.func f),args:=args.toArray,argTypes:=ts },ty,pos,aft,g⟩ K Q) n L H:=
 o_callR hs hargs hpre hn (fun v' H' ⟨h1,h2⟩=>by subst h1;subst h2;exact k)
theorem o_conv8 {s t:TypeId}{x:Operand}{ik sk:IntKind}{i:Int}[TInt P s sk][TInt P t .u8](hx:ev L x=some (.int ik i))(hn:Nat.blt d n=true)(k:Tri w0 K n ((d, .int .u8 (i%256))::L) H):
  Tri w0 (OpG P ⟨some d, .convert s t x,ty,pos,aft,g⟩ K Q) n L H:=o_conv hx hn k
theorem o_conv32 {s t:TypeId}{x:Operand}{ik sk:IntKind}{i:Int}[TInt P s sk][TInt P t .u32](hx:ev L x=some (.int ik i))(hn:Nat.blt d n=true)(k:Tri w0 K n ((d, .int .u32 (i%4294967296))::L) H):
  Tri w0 (OpG P ⟨some d, .convert s t x,ty,pos,aft,g⟩ K Q) n L H:=o_conv hx hn k
theorem o_conv64 {s t:TypeId}{x:Operand}{ik sk:IntKind}{i:Int}[TInt P s sk][TInt P t .u64](hx:ev L x=some (.int ik i))(hn:Nat.blt d n=true)(k:Tri w0 K n ((d, .int .u64 (i%18446744073709551616))::L) H):
  Tri w0 (OpG P ⟨some d, .convert s t x,ty,pos,aft,g⟩ K Q) n L H:=o_conv hx hn k
end
section
variable {P:Program} {ops:Array Oper} {md:Region.Mode} {C:World→Prop}
def qres (P:Program)(C:World→Prop)(v:Value):Result Next→Prop
 | .ok (.value u) w'=>u=v∧C w'
 | .ok .skip w'=>v=undef∧C w'
 | .ok (.enter f args) w'=>Calls P f args w' (Ret fun u w''=>u=v∧C w'')
 | .ok (.row r args) w'=>Rows P r args w' (fun u w''=>u=v∧C w'')
 | _=>False
def qyield (P:Program)(ops:Array Oper)(C:World→Prop)(o:Oper)(v:Value)(a:Act):Prop:=
 (Region.wanted o (yielded ops a.tmps)=true∧ ∀w,C w→qres P C v ((execOp a.eval o).run P w))∨
 (Region.wanted o (yielded ops a.tmps)=false∧v=undef)
theorem qyield.same {o:Oper}{v:Value}{a a':Act}(h:qyield P ops C o v a)(he:execOp a'.eval o=execOp a.eval o)
  (hw:Region.wanted o (yielded ops a'.tmps)=Region.wanted o (yielded ops a.tmps)):qyield P ops C o v a':=by
 unfold qyield at*
 rw [he,hw];exact h
def qStep (P:Program)(ops:Array Oper)(C:World→Prop)(i:Nat)(K:Act→Prop)(a:Act):Prop:=
 match ops[i]? with
 | none=>K a
 | some o=> ∃v,qyield P ops C o v a∧K (a.put o.dst v)
theorem qStep.mono {i:Nat}{K K':Act→Prop}{a:Act}(h: ∀a,K a→K' a)(hh:qStep P ops C i K a):qStep P ops C i K' a:=by
 unfold qStep at*
 split
 ·exact h _ (by simpa [*] using hh)
 ·rename_i o ho
  simp only [ho] at hh
  obtain⟨v,h1,h2⟩:=hh
  exact⟨v,h1,h _ h2⟩
def qAny (P:Program)(md:Region.Mode)(ops:Array Oper)(C:World→Prop)(Q:Act→Prop):Nat→Array Bool→Act→Prop
 | 0,listed,a=>Region.ready md ops listed= [] ∧Q a
 | fuel+1,listed,a=>(Region.ready md ops listed= [] →Q a)∧ ∀i∈Region.ready md ops listed,qStep P ops C i (qAny P md ops C Q fuel (listed.setIfInBounds i true)) a
theorem any_of_q {Q:Act→Prop}{Q':Exit→Act→World→Prop}(hQ: ∀a w,C w→Q a→Q' .normal a w): ∀(fuel:Nat) (listed:Array Bool) (a:Act) (w:World),C w→
  qAny P md ops C Q fuel listed a→wpAny P md ops Q' fuel listed a w
 | 0,_,_,_,hw,h=>⟨h.1,hQ _ _ hw h.2⟩
 | fuel+1,listed,a,w,hw,h=>by
  refine⟨fun h0=>hQ _ _ hw (h.1 h0),fun i hi=>?_⟩
  have hs:=h.2 i hi
  unfold qStep at hs
  unfold Go.wpOp
  cases ho:ops[i]? with
  | none=>simp only [ho] at hs ⊢;exact any_of_q hQ fuel _ _ _ hw hs
  | some o=>
   simp only [ho] at hs ⊢
   obtain⟨v,hy,hK⟩:=hs
   rcases hy with ⟨hwt,hv⟩ | ⟨hwt,rfl⟩
   ·rw [if_pos hwt]
    refine .inl ?_
    unfold Oper.wp
    have hr:=hv w hw
    generalize (execOp a.eval o).run P w=r at hr
    cases r with
    | halt x w'=>exact hr.elim
    | ok nx w'=>
     cases nx with
     | value u=>
      obtain⟨rfl,hc⟩:=hr
      exact any_of_q hQ fuel _ _ _ hc hK
     | skip=>
      obtain⟨rfl,hc⟩:=hr
      exact any_of_q hQ fuel _ _ _ hc hK
     | enter f args=>
      refine Calls.mono hr ?_
      intro e w'' he
      cases e with
      | returned u=>obtain⟨rfl,hc⟩:=he;exact any_of_q hQ fuel _ _ _ hc hK
      | panicked c=>exact he.elim
      | outgrown=>exact he.elim
     | row r args=>
      refine Rows.mono hr ?_
      intro u w'' he
      obtain⟨rfl,hc⟩:=he
      exact any_of_q hQ fuel _ _ _ hc hK
     | _=>exact hr.elim
   ·rw [if_neg (by rw [hwt];simp)]
    exact any_of_q hQ fuel _ _ _ hw hK
theorem qStep_put {j:Nat}{oi oj:Oper}{v:Value}(hj:ops[j]? =some oj)(hap:oi.apart ops oj=true)
  (hsi: ∀cs b,oi.op≠ .select cs b) (hsj: ∀cs b,oj.op≠ .select cs b) {K:Act→Prop} {a:Act}
  (hy:qyield P ops C oi v a) (h:qStep P ops C j K (a.put oi.dst v)):
  qStep P ops C j (fun a'=>qyield P ops C oi v a'∧K (a'.put oi.dst v)) a:=by
 obtain⟨h1,h2,h3⟩:=Oper.apart_spec hap
 unfold qStep at*
 simp only [hj] at*
 obtain⟨u,hu,hn⟩:=h
 exact⟨u,hu.same (execOp_put oj hsj a oi.dst v h1).symm (wanted_put oj a oi.dst v h1).symm,
  hy.same (execOp_put oi hsi a oj.dst u h3) (wanted_put oi a oj.dst u h3),by rw [←Act.put_comm a v u h2];exact hn⟩
theorem qAny_first {Q:Act→Prop}{i:Nat}{oi:Oper}{v:Value}(hi:ops[i]? =some oi)(hsel: ∀(j:Nat) (o:Oper) cs b,ops[j]? =some o→o.op≠ .select cs b):
  ∀(fuel:Nat) (listed:Array Bool) (a:Act),
   (∀j oj,ops[j]? =some oj→j≠i→listed.getD j true=false→(∀e∈oj.after,Region.binds md e=true→e.on≠i)→oi.apart ops oj=true)→
   i∈Region.ready md ops listed→qyield P ops C oi v a→
   qAny P md ops C Q fuel (listed.setIfInBounds i true) (a.put oi.dst v)→qAny P md ops C Q (fuel+1) listed a:=by
 intro fuel
 induction fuel with
 | zero=>
  intro listed a _ hr hy G
  refine⟨fun h=>(by rw [h] at hr;cases hr),fun j hj=>?_⟩
  by_cases hji:j=i
  ·subst hji
   unfold qStep;simp only [hi];exact⟨v,hy,G⟩
  ·have:=ready_mono hj hji
   rw [G.1] at this;cases this
 | succ fuel ih=>
  intro listed a hfree hr hy G
  refine⟨fun h=>(by rw [h] at hr;cases hr),fun j hj=>?_⟩
  by_cases hji:j=i
  ·subst hji
   unfold qStep;simp only [hi];exact⟨v,hy,G⟩
  ·have g1:=G.2 j (ready_mono hj hji)
   obtain⟨hjun,oj,hoj,hall⟩:=mem_ready.1 hj
   have hnot: ∀e∈oj.after,Region.binds md e=true→e.on≠i:=fun e he hb heq=>by
    have q1:=hall e he hb
    have q0:=(mem_ready.1 hr).1
    rw [heq] at q1
    rcases Nat.lt_or_ge i listed.size with h' | h'
    ·simp [h'] at q0 q1;rw [q0] at q1;cases q1
    ·simp [Array.getElem?_eq_none h'] at q1
   have g2:=qStep_put hoj (hfree j oj hoj hji hjun hnot) (fun cs b=>hsel i oi cs b hi) (fun cs b=>hsel j oj cs b hoj) hy g1
   have hfree': ∀k ok,ops[k]? =some ok→k≠i→(listed.setIfInBounds j true).getD k true=false→
     (∀e∈ok.after,Region.binds md e=true→e.on≠i)→oi.apart ops ok=true:=fun k ok hk hki hun hno=>by
    refine hfree k ok hk hki ?_ hno
    by_cases hjk:j=k
    ·subst hjk;exact hjun
    ·rw [getD_set_ne true hjk] at hun;exact hun
   refine qStep.mono (fun a' g3=>ih (listed.setIfInBounds j true) a' hfree' (ready_mono hr (Ne.symm hji)) g3.1 ?_) g2
   rw [Array.setIfInBounds_comm _ _ hji]
   exact g3.2
def qLex (P:Program)(ops:Array Oper)(C:World→Prop)(Q:Act→Prop):List Oper→Act→Prop
 | [],a=>Q a
 | o::l,a=> ∃v,qyield P ops C o v a∧qLex P ops C Q l (a.put o.dst v)
theorem qAny_lex {Q:Act→Prop}(hs:Region.noSelect ops=true): ∀(l:List Oper) (k:Nat) (listed:Array Bool) (a:Act),(∀j,l[j]? =ops[k+j]?)→
  Region.lexFrom md ops l.length k listed=true→qLex P ops C Q l a→qAny P md ops C Q l.length listed a
 | [],_,_,_,_,hB,h=>⟨by simpa [Region.lexFrom] using hB,h⟩
 | o::l,k,listed,a,hl,hB,h=>by
  have h0:ops[k]? =some o:=by simpa using (hl 0).symm
  simp only [lCn,Region.lexFrom,Bool.and_eq_true] at hB
  obtain⟨⟨hr,hf⟩,hB'⟩:=hB
  obtain⟨v,hy,hK⟩:=h
  exact qAny_first h0 (Region.noSelect_spec hs) l.length listed a (Region.free_spec h0 hf) (by simpa using hr) hy
   (qAny_lex hs l (k+1) _ _ (fun j=>by have:=hl (j+1);simpa [Nat.add_assoc,Nat.add_comm 1 j] using this) hB' hK)
end
section
variable {P:Program} {w0:World} {n:NT} {L:Slots} {H H':List Atom} {Q:Exit→Act→World→Prop} {K:Act→World→Prop} {o:Oper} {d:Nat}
def TriQ (P:Program)(w0:World)(ops:Array Oper)(Q:Exit→Act→World→Prop)(l:List Oper)(n:NT)(L:Slots)(H:List Atom):Prop:=
 ∀a,Has a n L→qLex P ops (fun w=>St w0 w H) (fun a'=> ∀w,St w0 w H→Q .normal a' w) l a
class TMixed (P:Program):Prop where
 ok:P.follows .mixedOrders=true
theorem Tri.quiet {id:Nat}{l:List Oper}[hm:TMixed P](hB:Region.lexB .any l.toArray=true)(h:TriQ P w0 l.toArray Q l n L H):Tri w0 ((Code.region id l.toArray true).wp P Q) n L H:=fun a w ha hw=>by
 simp only [Region.lexB,Bool.and_eq_true] at hB
 refine wp_region_any hm.ok (any_of_q (C:=fun w=>St w0 w H) (Q:=fun a'=> ∀w,St w0 w H→Q .normal a' w) (fun _ w' hw' h=>h w' hw') _ _ _ _ (hw.drawn _) ?_)
 have:=qAny_lex (P:=P) (C:=fun w=>St w0 w H) (Q:=fun a'=> ∀w,St w0 w H→Q .normal a' w) (md:= .any) hB.1 l 0 (Array.replicate l.toArray.size false) a (by simp) (by simpa using hB.2) (h a ha)
 simpa using this
theorem TriQ.nil {ops:Array Oper}(h:Tri w0 (Q .normal) n L H):TriQ P w0 ops Q [] n L H:=fun a ha w hw=>h a w ha hw
theorem qres_of {v:Value}(hd:o.dst=some d)(hn:Nat.blt d n=true)(h: ∀K:Act→World→Prop,Tri w0 K n ((d,v)::L) H→Tri w0 (OpG P o K (fun _ _ _=>False)) n L H){a:Act}(ha:Has a n L){w:World}(hw:St w0 w H):
  qres P (fun w=>St w0 w H) v ((execOp a.eval o).run P w):=by
 have hlt:d<a.tmps.size:=by rw [ha.size];simpa [Nat.blt_eq] using hn
 have g:=h (fun a' w'=>a'.tmps[d]? =some v∧a'.defers=n.ds∧St w0 w' H) (fun a' w' ha' hw'=>⟨ha'.get d v (by rw [look_cons,if_pos rfl]),ha'.defers,hw'⟩) a w ha hw
 have put: ∀u,((a.put o.dst u).tmps[d]? =some v)→u=v:=by
  intro u hu
  rw [hd] at hu
  simpa [Act.put,hlt] using hu
 rcases g with g | ⟨_,_,_,g⟩
 ·unfold Oper.wp at g
  generalize (execOp a.eval o).run P w=r at g
  cases r with
  | halt x w'=>cases x<;>exact g.elim
  | ok nx w'=>
   cases nx with
   | value u=>exact⟨put u g.1,g.2.2⟩
   | skip=>exact⟨(put undef g.1).symm,g.2.2⟩
   | enter f args=>
    refine Calls.mono g ?_
    intro e w'' he
    cases e with
    | returned u=>exact⟨put u he.1,he.2.2⟩
    | panicked c=>exact he.elim
    | outgrown=>obtain⟨_,_,he⟩:=he;exact he.elim
   | defer dd=>
    have e:(({ a with defers:=dd::a.defers }:Act).put o.dst undef).defers=dd::a.defers:=by cases o.dst<;>rfl
    have g1:=g.2.1
    rw [e] at g1;rw [ha.defers] at g1;exact absurd (congrArg List.length g1) (by simp)
   | row r args=>exact Rows.mono g (fun u w'' he=>⟨put u he.1,he.2.2⟩)
   | _=>exact g.elim
 ·exact g.elim
theorem TriQ.op {ops:Array Oper}{rest:List Oper}{v:Value}(hg:o.guard=none)(hd:o.dst=some d)(hn:Nat.blt d n=true)(h: ∀K:Act→World→Prop,Tri w0 K n ((d,v)::L) H→Tri w0 (OpG P o K (fun _ _ _=>False)) n L H)(k:TriQ P w0 ops Q rest n ((d,v)::L) H):TriQ P w0 ops Q (o::rest) n L H:=fun a ha=>
 ⟨v, .inl ⟨by simp [Region.wanted,hg],fun w hw=>qres_of hd hn h ha hw⟩,by rw [hd];exact k _ (ha.put hn v)⟩
theorem TriQ.opYes {ops:Array Oper}{rest:List Oper}{v:Value}{j:Nat}{b b':Bool}(hg:o.guard=some (j,b))(hy:yl L ops j=some b')(hb:b'=b)(hd:o.dst=some d)(hn:Nat.blt d n=true)(h: ∀K:Act→World→Prop,Tri w0 K n ((d,v)::L) H→Tri w0 (OpG P o K (fun _ _ _=>False)) n L H)(k:TriQ P w0 ops Q rest n ((d,v)::L) H):TriQ P w0 ops Q (o::rest) n L H:=fun a ha=>
 ⟨v, .inl ⟨by simp [Region.wanted,hg,yl_yielded ha hy,hb],fun w hw=>qres_of hd hn h ha hw⟩,by rw [hd];exact k _ (ha.put hn v)⟩
theorem TriQ.opNo {ops:Array Oper}{rest:List Oper}{j:Nat}{b b' c:Bool}(hg:o.guard=some (j,b))(hy:yl L ops j=some b')(hb:b'=c)(hc:(c !=b)=true)(hd:o.dst=some d)(hn:Nat.blt d n=true)(k:TriQ P w0 ops Q rest n ((d,undef)::L) H):TriQ P w0 ops Q (o::rest) n L H:=fun a ha=>
 ⟨undef, .inr ⟨by subst hb;have hne:b'≠b:=by simpa using hc
                  simp [Region.wanted,hg,yl_yielded ha hy,hne],rfl⟩,by rw [hd];exact k _ (ha.put hn undef)⟩
theorem TriQ.setv {ops:Array Oper}{l:List Oper}(k:Nat){u:Value}(v:Value)(h:look L k=some u)(hv:u=v)(t:TriQ P w0 ops Q l n ((k,v)::L) H):TriQ P w0 ops Q l n L H:=fun a ha=>
 t a ⟨ha.defers,ha.size,fun t u e=>by
  rw [look_cons] at e
  by_cases hk:k=t
  ·subst hk;simp at e;subst e;subst hv;exact ha.get _ _ h
  ·rw [if_neg hk] at e;exact ha.get _ _ e⟩
theorem TriQ.setb {ops:Array Oper}{l:List Oper}(k:Nat){i:Bool}(j:Bool)(h:look L k=some (.bool i))(hi:i=j)(t:TriQ P w0 ops Q l n ((k, .bool j)::L) H):TriQ P w0 ops Q l n L H:=TriQ.setv k _ h (by rw [hi]) t
theorem TriQ.seti {ops:Array Oper}{l:List Oper}(k:Nat){ik:IntKind}{i:Int}(j:Int)(h:look L k=some (.int ik i))(hi:i=j)(t:TriQ P w0 ops Q l n ((k, .int ik j)::L) H):TriQ P w0 ops Q l n L H:=TriQ.setv k _ h (by rw [hi]) t
theorem TriQ.casesB {ops:Array Oper}{l:List Oper}(k:Nat){b:Bool}(h:look L k=some (.bool b))(ht:b=true→TriQ P w0 ops Q l n ((k, .bool true)::L) H)(hf:b=false→TriQ P w0 ops Q l n ((k, .bool false)::L) H):TriQ P w0 ops Q l n L H:=by
 cases b
 ·exact TriQ.setv k _ h rfl (hf rfl)
 ·exact TriQ.setv k _ h rfl (ht rfl)
theorem Tri.casesB {G:Act→World→Prop}(k:Nat){b:Bool}(h:look L k=some (.bool b))(ht:b=true→Tri w0 G n ((k, .bool true)::L) H)(hf:b=false→Tri w0 G n ((k, .bool false)::L) H):Tri w0 G n L H:=by
 cases b
 ·exact Tri.setv k _ h rfl (hf rfl)
 ·exact Tri.setv k _ h rfl (ht rfl)
theorem Tri.any {id:Nat}{l:List Oper}[hm:TMixed P](h:Tri w0 (wpAny P .any l.toArray Q l.length (Array.replicate l.length false)) n L H):Tri w0 ((Code.region id l.toArray true).wp P Q) n L H:=fun a w ha hw=>
 wp_region_any hm.ok (by
  have:=h a _ ha (hw.drawn (w.drawn+1))
  simp only [List.size_toArray];exact this)
end
section
variable {P:Program} {ops:Array Oper} {md:Region.Mode} {C:World→Prop}
def qAnyL (P:Program)(md:Region.Mode)(ops:Array Oper)(C:World→Prop)(n:Nat)(L:Array Bool→Act→Prop):Nat→Array Bool→Act→Prop
 | 0,listed,a=>L listed a
 | f+1,listed,a=>Region.ready md ops listed≠ [] ∧ ∀i∈Region.ready md ops listed,i<n∧qStep P ops C i (qAnyL P md ops C n L f (listed.setIfInBounds i true)) a
theorem any_of_qL {n g:Nat}{L:Array Bool→Act→Prop}{Q':Exit→Act→World→Prop}(hL: ∀listed a w,C w→L listed a→wpAny P md ops Q' g listed a w):
  ∀(f:Nat) (listed:Array Bool) (a:Act) (w:World),C w→qAnyL P md ops C n L f listed a→wpAny P md ops Q' (f+g) listed a w
 | 0,listed,a,w,hw,h=>by rw [Nat.zero_add];exact hL _ _ _ hw h
 | f+1,listed,a,w,hw,h=>by
  rw [show f+1+g=(f+g)+1 by omega]
  refine⟨fun h0=>absurd h0 h.1,fun i hi=>?_⟩
  have hs:=(h.2 i hi).2
  unfold qStep at hs
  unfold Go.wpOp
  cases ho:ops[i]? with
  | none=>simp only [ho] at hs ⊢;exact any_of_qL hL f _ _ _ hw hs
  | some o=>
   simp only [ho] at hs ⊢
   obtain⟨v,hy,hK⟩:=hs
   rcases hy with ⟨hwt,hv⟩ | ⟨hwt,rfl⟩
   ·rw [if_pos hwt]
    refine .inl ?_
    unfold Oper.wp
    have hr:=hv w hw
    generalize (execOp a.eval o).run P w=r at hr
    cases r with
    | halt x w'=>exact hr.elim
    | ok nx w'=>
     cases nx with
     | value u=>
      obtain⟨rfl,hc⟩:=hr
      exact any_of_qL hL f _ _ _ hc hK
     | skip=>
      obtain⟨rfl,hc⟩:=hr
      exact any_of_qL hL f _ _ _ hc hK
     | enter fn args=>
      refine Calls.mono hr ?_
      intro e w'' he
      cases e with
      | returned u=>obtain⟨rfl,hc⟩:=he;exact any_of_qL hL f _ _ _ hc hK
      | panicked c=>exact he.elim
      | outgrown=>exact he.elim
     | row r args=>
      refine Rows.mono hr ?_
      intro u w'' he
      obtain⟨rfl,hc⟩:=he
      exact any_of_qL hL f _ _ _ hc hK
     | _=>exact hr.elim
   ·rw [if_neg (by rw [hwt];simp)]
    exact any_of_qL hL f _ _ _ hw hK
theorem qAnyL_first {n i:Nat}{oi:Oper}{v:Value}{L:Array Bool→Act→Prop}(hi:ops[i]? =some oi)(hsel: ∀(j:Nat) (o:Oper) cs b,ops[j]? =some o→o.op≠ .select cs b)
  (hs:Region.sinkB md ops n=true) (hc:Region.chainB md ops n=true) (hn:n<ops.size) (hin:i<n)
  (hdone: ∀listed a,L listed a→ ∀j∈Region.ready md ops listed,n≤j):
  ∀(f:Nat) (listed:Array Bool) (a:Act),HeadInv md ops n listed→
   (∀j oj,ops[j]? =some oj→j≠i→listed.getD j true=false→(∀e∈oj.after,Region.binds md e=true→e.on≠i)→oi.apart ops oj=true)→
   i∈Region.ready md ops listed→qyield P ops C oi v a→
   qAnyL P md ops C n L f (listed.setIfInBounds i true) (a.put oi.dst v)→qAnyL P md ops C n L (f+1) listed a:=by
 intro f
 induction f with
 | zero=>
  intro listed a inv _ hr hy G
  have hun:=(mem_ready.1 hr).1
  refine⟨fun h=>(by rw [h] at hr;cases hr),fun j hj=>?_⟩
  have hjn:j<n:=by
   rcases Nat.lt_or_ge j n with h | h
   ·exact h
   ·exact absurd hj (tail_waits hs hc hn inv _ i rfl hin hun j h)
  refine⟨hjn, ?_⟩
  by_cases hji:j=i
  ·subst hji;unfold qStep;simp only [hi];exact⟨v,hy,G⟩
  ·have:=hdone _ _ G j (ready_mono hj hji)
   omega
 | succ f ih=>
  intro listed a inv hfree hr hy G
  have hun:=(mem_ready.1 hr).1
  refine⟨fun h=>(by rw [h] at hr;cases hr),fun j hj=>?_⟩
  have hjn:j<n:=by
   rcases Nat.lt_or_ge j n with h | h
   ·exact h
   ·exact absurd hj (tail_waits hs hc hn inv _ i rfl hin hun j h)
  refine⟨hjn, ?_⟩
  by_cases hji:j=i
  ·subst hji;unfold qStep;simp only [hi];exact⟨v,hy,G⟩
  ·have h1:=(G.2 j (ready_mono hj hji)).2
   obtain⟨hjun,oj,hoj,hall⟩:=mem_ready.1 hj
   have hnot: ∀e∈oj.after,Region.binds md e=true→e.on≠i:=fun e he hb heq=>by
    have h1:=hall e he hb
    rw [heq,getD_both hun] at h1
    cases h1
   have h2:=qStep_put hoj (hfree j oj hoj hji hjun hnot) (fun cs b=>hsel i oi cs b hi) (fun cs b=>hsel j oj cs b hoj) hy h1
   have hfree': ∀k ok,ops[k]? =some ok→k≠i→(listed.setIfInBounds j true).getD k true=false→
     (∀e∈ok.after,Region.binds md e=true→e.on≠i)→oi.apart ops ok=true:=fun k ok hk hki hun hno=>by
    refine hfree k ok hk hki ?_ hno
    by_cases hjk:j=k
    ·subst hjk;exact hjun
    ·rw [getD_set_ne true hjk] at hun;exact hun
   refine qStep.mono (fun a' h3=>ih (listed.setIfInBounds j true) a' (inv.set hj hjn) hfree' (ready_mono hr (Ne.symm hji)) h3.1 ?_) h2
   rw [Array.setIfInBounds_comm _ _ hji]
   exact h3.2
theorem qAnyL_lex {n g:Nat}{Lq:Act→Prop}(hsel:Region.noSelect ops=true)(hs:Region.sinkB md ops n=true)(hc:Region.chainB md ops n=true)(hn:n<ops.size):
  ∀(l:List Oper) (k:Nat) (listed:Array Bool) (a:Act),(∀j,j<l.length→l[j]? =ops[k+j]?)→k+l.length=n→HeadInv md ops n listed→
  Region.lexHead md ops g l.length k listed=true→qLex P ops C Lq l a→
  qAnyL P md ops C n (fun listed' a'=>Region.seqB md ops g n listed'=true∧Lq a') l.length listed a
 | [],k,listed,a,_,hk,_,hB,h=>by
  have:k=n:=by simpa using hk
  subst this
  exact⟨by simpa [Region.lexHead] using hB,h⟩
 | o::l,k,listed,a,hl,hk,inv,hB,h=>by
  have h0:ops[k]? =some o:=by simpa using (hl 0 (by simp)).symm
  simp only [lCn,Region.lexHead,Bool.and_eq_true] at hB
  obtain⟨⟨hr,hf⟩,hB'⟩:=hB
  have hkn:k<n:=by simp only [lCn] at hk;omega
  have hr':k∈Region.ready md ops listed:=by simpa using hr
  obtain⟨v,hy,hK⟩:=h
  exact qAnyL_first h0 (Region.noSelect_spec hsel) hs hc hn hkn (fun listed' a' hL=>seqB_ready hL.1) l.length listed a inv (Region.free_spec h0 hf) hr' hy
   (qAnyL_lex hsel hs hc hn l (k+1) _ _ (fun j hj=>by have:=hl (j+1) (by simp;omega);simpa [Nat.add_assoc,Nat.add_comm 1 j] using this) (by simp only [lCn] at hk;omega) (inv.set hr' hkn) hB' hK)
end
section
variable {P:Program} {w0:World} {n:NT} {L:Slots} {H H':List Atom} {Q:Exit→Act→World→Prop} {K:Act→World→Prop} {o:Oper} {d:Nat}
theorem Tri.quietTail (m:Nat){id:Nat}{l:List Oper}[hm:TMixed P](hB:Region.lexTailB .any l.toArray m=true)
  (h:TriQ P w0 l.toArray (fun _=>wpList P l.toArray Q (l.drop m)) (l.take m) n L H):Tri w0 ((Code.region id l.toArray true).wp P Q) n L H:=fun a w ha hw=>by
 simp only [Region.lexTailB,Bool.and_eq_true,decide_eq_true_eq] at hB
 obtain⟨⟨⟨⟨hsel,hn⟩,hs⟩,hc⟩,hlex⟩:=hB
 have hn':m<l.length:=by simpa using hn
 have htl:(l.take m).length=m:=by simp;omega
 have hdl:(l.drop m).length=l.toArray.size-m:=by simp
 have inv0:HeadInv .any l.toArray m (Array.replicate l.toArray.size false):=
  ⟨by simp,fun j oj _ hl=>(by rw [getD_replicate_false] at hl;cases hl),fun t _ ht=>getD_in (by simpa using ht) (getD_replicate_false _ _)⟩
 have G:=qAnyL_lex (P:=P) (C:=fun w=>St w0 w H) (md:= .any) (g:=l.toArray.size-m) (Lq:=fun a'=> ∀w,St w0 w H→wpList P l.toArray Q (l.drop m) a' w) hsel hs hc hn (l.take m) 0 _ a (fun j hj=>by
  have hj':j<m:=by rw [htl] at hj;exact hj
  simp [hj']) (by simpa using htl) inv0 (by rw [htl];exact hlex) (h a ha)
 refine wp_region_any hm.ok ?_
 have:=any_of_qL (Q':=Q) (g:=l.toArray.size-m) (fun listed a' w' hw' hL=>by
  have:=wpAny_of_seq (md:= .any) (Q':=Q) (l.drop m) m listed a' w' (fun j=>by simp [List.getElem?_drop]) (by rw [hdl];exact hL.1) (hL.2 w' hw')
  rwa [hdl] at this) _ _ _ _ (hw.drawn (w.drawn+1)) G
 rw [htl,show m+(l.toArray.size-m)=l.toArray.size by omega] at this
 exact this
end
theorem set_run (cs:Array Value)(off:Nat): ∀(ys:List Value) (k:Nat),off+k+ys.length≤cs.size→
  ((ys.zipIdx k).foldl (fun cs (p:Value×Nat)=>cs.setIfInBounds (off+p.2) p.1) cs).toList=cs.toList.take (off+k)++ys++cs.toList.drop (off+k+ys.length)
 | [],k,_=>by simp
 | y::ys,k,h=>by
  simp only [List.zipIdx_cons,List.foldl_cons]
  have hs:(cs.setIfInBounds (off+k) y).size=cs.size:=by simp
  have ih:=set_run (cs.setIfInBounds (off+k) y) off ys (k+1) (by simp at h ⊢;omega)
  have key:(off+k)+1=off+(k+1):=by omega
  rw [ih]
  simp only [Array.toList_setIfInBounds,lCn] at h ⊢
  have hlt:off+k<cs.toList.length:=by simp;omega
  rw [←key]
  apply List.ext_getElem?
  intro j
  simp only [aAs,List.getElem?_append,List.getElem?_take,List.getElem?_drop,lTk,List.length_set,List.getElem?_set,lCn,List.getElem?_cons,Array.length_toList] at*
  have e1:min (off+k+1) cs.size=off+k+1:=by omega
  have e2:min (off+k) cs.size=off+k:=by omega
  rw [e1,e2]
  by_cases h1:j<off+k
  ·simp [h1,show j<off+k+1 by omega,show off+k≠j by omega]
  ·by_cases h2:j=off+k
   ·subst h2;simp [hlt]
   ·have h3: ¬j<off+k+1:=by omega
    have h4:j-(off+k)≠0:=by omega
    have h5:j-(off+k)-1=j-(off+k+1):=by omega
    simp only [h1,h3,if_false,h4,h5]
    have e3:(j-(off+k)<ys.length+1)↔(j-(off+k+1)<ys.length):=by omega
    by_cases h6:j-(off+k+1)<ys.length
    ·simp [h6,e3.2 h6]
    ·have h7: ¬j-(off+k)<ys.length+1:=fun h=>h6 (e3.1 h)
     have e4:off+k+1+ys.length+(j-(off+k+1)-ys.length)=off+k+(ys.length+1)+(j-(off+k)-(ys.length+1)):=by omega
     have e5:off+k≠off+k+(ys.length+1)+(j-(off+k)-(ys.length+1)):=by omega
     simp [h6,h7,e4,e5]
def fillL (place:Nat→Option (Nat×Nat))(cells:List Value):List (Nat×Value)→Option (List Value)
 | [] =>some cells
 | (i,v)::rest=>
  match place i with
  | none=>none
  | some (off,size)=>bif Nat.beq v.cells.toList.length size && Nat.ble (off+size) cells.length then fillL place (cells.take off++v.cells.toList++cells.drop (off+size)) rest else none
theorem fill_fillL (place:Nat→Option (Nat×Nat)): ∀(parts:List (Nat×Value)) (cells:Array Value) (ys:List Value),fillL place cells.toList parts=some ys→Instr.fill place cells parts=some ys.toArray
 | [],cells,ys,h=>by simp [fillL] at h;subst h;simp [Instr.fill]
 | (i,v)::rest,cells,ys,h=>by
  simp only [fillL] at h
  simp only [Instr.fill]
  cases hp:place i with
  | none=>simp [hp] at h
  | some p=>
   obtain⟨off,size⟩:=p
   simp only [hp] at h ⊢
   cases hc:Nat.beq v.cells.toList.length size && Nat.ble (off+size) cells.toList.length with
   | false=>rw [hc] at h;cases h
   | true=>
    rw [hc] at h
    simp only [cond_true] at h
    simp only [Bool.and_eq_true,Nat.ble_eq] at hc
    have h1:=Nat.eq_of_beq_eq_true hc.1
    simp only [Array.length_toList] at h1 hc
    rw [if_neg (by simp only [Bool.or_eq_true,decide_eq_true_eq];omega)]
    apply fill_fillL place rest _ ys
    have hr:=set_run cells off v.cells.toList 0 (by simp;omega)
    simp only [Nat.add_zero,Array.length_toList,h1] at hr
    rw [←h]
    congr 1
    rw [←hr, ←Array.foldl_toList,Array.toList_zipIdx]
section
variable {P:Program} {w0:World} {n:NT} {L:Slots} {H H':List Atom} {Q:Exit→Act→World→Prop} {K:Act→World→Prop} {o:Oper} {d:Nat}
variable {ty:TypeId} {pos:String} {aft:Array Edge} {g:Option (Nat×Bool)}
theorem o_loadAll {T T':TypeId}{sz:Nat}{x:Operand}{b:Nat}{cs:List Value}[TAgg P T sz](hx:ev L x=some (.pointer (some ⟨b,0,none⟩)))(p:Pull H (blk b T' cs) H')(hl:cs.length=sz)(hn:Nat.blt d n=true)(k:Tri w0 K n ((d, .agg cs.toArray)::L) H):
  Tri w0 (OpG P ⟨some d, .load T x,ty,pos,aft,g⟩ K Q) n L H:=
 o_loadAgg hx p (by rw [List.drop_zero, ←hl,List.take_length]) hl hn k
theorem o_storeAll {T T':TypeId}{sz:Nat}{x y:Operand}{b:Nat}{cs ys:List Value}[TAgg P T sz](hx:ev L x=some (.pointer (some ⟨b,0,none⟩)))(hy:ev L y=some (.agg ys.toArray))(p:Pull H (blk b T' cs) H')(hl:ys.length=sz)(hc:cs.length=sz)(h1: ∀v∈ys,v.oneCell'=true)(k:Tri w0 K n L (blk b T' ys::H')):
  Tri w0 (OpG P ⟨none, .store T x y,ty,pos,aft,g⟩ K Q) n L H:=
 o_storeAgg hx hy hl h1 p (by omega) (by rw [List.take_zero,nAp,Nat.zero_add, ←hc,List.drop_length,List.append_nil];exact k)
def pev (L:Slots):List (Nat×Operand)→List (Nat×Value)→Prop
 | [], [] =>True
 | (i,x)::xs,(j,v)::vs=>(i=j∧ev L x=some v)∧pev L xs vs
 | _,_=>False
theorem pev.nil:pev L [] [] :=trivial
theorem pev.cons {i:Nat}{x:Operand}{v:Value}{xs:List (Nat×Operand)}{vs:List (Nat×Value)}(a:ev L x=some v)(b:pev L xs vs):pev L ((i,x)::xs) ((i,v)::vs):=⟨⟨rfl,a⟩,b⟩
theorem pev.map {a:Act}(ha:Has a n L): ∀{xs:List (Nat×Operand)} {vs:List (Nat×Value)},pev L xs vs→xs.map (fun p=>(p.1,a.eval p.2))=vs
 | [], [],_=>rfl
 | (i,x)::_,(j,v)::_,h=>by
  obtain⟨⟨rfl,h1⟩,h2⟩:=h
  simp only [List.map_cons,ha.eval h1,pev.map ha h2]
 | [],_::_,h=>h.elim
 | _::_, [],h=>h.elim
theorem evs.nil:evs L [] [] :=trivial
theorem evs.cons {x:Operand}{v:Value}{xs:List Operand}{vs:List Value}(a:ev L x=some v)(b:evs L xs vs):evs L (x::xs) (v::vs):=⟨a,b⟩
theorem o_litSl {t e:TypeId}{size bytes m:Nat}{z ys:List Value}{parts:List (Nat×Operand)}{vs:List (Nat×Value)}[ht:TSlice P t e][he:TElem P e size bytes z](hp:pev L parts vs)(hm:Nat.ble (m*size) 16777216=true)(hf:fillL (fun i=>some (i*size,size)) (List.replicate m z).flatten vs=some ys)(hn:Nat.blt d n=true)
  (k: ∀v,Tri w0 K n ((d,v)::L) (own e size v m ys::H)):
  Tri w0 (OpG P ⟨some d, .buildSlice t m parts.toArray,ty,pos,aft,g⟩ K Q) n L H:=
 Tri.valW rfl hn (fun a w ha hw=>by
  obtain⟨i0,z0,hi0,hz,hsz,hby,hzz,hzs,p1,p2,p4⟩:=he.get
  have hm': ¬16777216<m*size:=by have:=Nat.le_of_ble_eq_true hm;omega
  have hzr:(zeroValue e).run P w= .ok z0 w:=by simp [zeroValue,typeInfo,hi0,hz]
  have hsr:(sizeOf e).run P w= .ok size w:=by simp [sizeOf,typeInfo,hi0,hsz]
  have hzl:z.length=size:=by rw [←hzz,Array.length_toList,hzs]
  have hbase: ∀(zc:Array Value),(0<m→zc=z0.cells)→(((Array.range (m*size)).map (fun i=>zc[i%zc.size]!)).toList=(List.replicate m z).flatten):=by
   intro zc hzc
   rcases Nat.eq_zero_or_pos m with h0 | hpos
   ·subst h0;simp
   ·rw [hzc hpos]
    apply List.ext_getElem?
    intro j
    have hlen:(List.replicate m z).flatten.length=m*size:=by simp [hzl]
    by_cases hj:j<m*size
    ·have hjm:j%size<size:=Nat.mod_lt _ p1
     have hfl:(List.replicate m z).flatten[j]? =z[j%size]? :=by
      have key: ∀(m j:Nat),j<m*size→(List.replicate m z).flatten[j]? =z[j%size]? :=by
       intro m
       induction m with
       | zero=>intro j hj;simp at hj
       | succ m ih=>
        intro j hj
        rw [List.replicate_succ,List.flatten_cons,List.getElem?_append]
        by_cases hjs:j<size
        ·rw [if_pos (by omega),Nat.mod_eq_of_lt hjs]
        ·rw [if_neg (by omega),hzl,ih (j-size) (by rw [Nat.succ_mul] at hj;omega)]
         rw [←Nat.mod_eq_sub_mod (by omega)]
      exact key m j hj
     rw [hfl]
     simp only [Array.toList_map,Array.toList_range,List.getElem?_map,List.getElem?_range hj,Option.map_some,hzs]
     rw [←hzz,Array.getElem?_toList,Array.getElem?_eq_getElem (by omega)]
     congr 1
     exact getElem!_pos z0.cells (j%size) (by omega)
    ·rw [List.getElem?_eq_none (by simp;omega),List.getElem?_eq_none (by omega)]
  have hlen:ys.length=m*size:=by
   have key: ∀(vs:List (Nat×Value)) (cells ys:List Value),fillL (fun i=>some (i*size,size)) cells vs=some ys→ys.length=cells.length:=by
    intro vs
    induction vs with
    | nil=>intro cells ys h;simp [fillL] at h;rw [h]
    | cons p vs ih=>
     obtain⟨i,v⟩:=p
     intro cells ys h
     simp only [fillL] at h
     cases hc:Nat.beq v.cells.toList.length size && Nat.ble (i*size+size) cells.length with
     | false=>rw [hc] at h;cases h
     | true=>
      rw [hc] at h
      have:=ih _ _ h
      simp only [Bool.and_eq_true,Nat.ble_eq] at hc
      have h1:=Nat.eq_of_beq_eq_true hc.1
      rw [this]
      simp only [lAp,lTk,lDp] at*
      omega
   have:=key vs _ _ hf
   rw [this];simp [hzl]
  refine⟨.slice (some ⟨w.heap.size,0,none⟩) m m,w.alloc (.cells ys.toArray e), ?_,fun a' ha'=>k _ a' _ ha' (hw.alloc _ _ (fun h hh=>own_of_blk hlen ?_ h hh))⟩
  ·have hmap:(parts.toArray.map fun(i,x)=>(i,a.eval x)).toList=vs:=by
    rw [←pev.map ha hp];simp
   have hfill: ∀(zc:Array Value),(0<m→zc=z0.cells)→Instr.fill (fun i=>some (i*size,size)) ((Array.range (m*size)).map (fun i=>zc[i%zc.size]!)) (parts.toArray.map fun(i,x)=>(i,a.eval x)).toList=some ys.toArray:=by
    intro zc hzc
    rw [hmap]
    exact fill_fillL _ _ _ _ (by rw [hbase zc hzc];exact hf)
   have hrun:(Instr.buildSlice t m (parts.toArray.map fun(i,x)=>(i,a.eval x))).run P w= .ok (.slice (some ⟨w.heap.size,0,none⟩) m m) (w.alloc (.cells ys.toArray e)):=by
    unfold Instr.buildSlice
    rcases Nat.eq_zero_or_pos m with h0 | hpos
    ·subst h0
     have h2:=hfill #[] (fun h=>absurd h (by omega))
     simp only [Nat.zero_mul] at h2 hm' ⊢
     simp [run_underlying ht.ok,hsr,hm']
     rw [show Instr.fill (fun i=>some (i*size,size)) (Array.map (fun x=>default) (Array.range 0)) (parts.map fun x=>(x.1,a.eval x.2))=some ys.toArray by simpa using h2]
     simp [newRow,newObj];rfl
    ·have h2:=hfill z0.cells (fun _=>rfl)
     have hne: ¬(m*size=0):=by have:=Nat.mul_pos hpos p1;omega
     have hne': ¬(m=0∨size=0):=by omega
     simp [run_underlying ht.ok,hsr,hm',hne',hzr]
     rw [show Instr.fill (fun i=>some (i*size,size)) ((Array.range (m*size)).map (fun i=>z0.cells[i%z0.cells.size]!)) (parts.map fun x=>(x.1,a.eval x.2))=some ys.toArray by simpa using h2]
     simp only [newRow,newObj,if_neg hne]
     simp;rfl
   simp only [execOp,Sem.run_bind,hrun,Result.andThen_ok,Sem.run_pure]
  ·have h1:=Nat.le_of_ble_eq_true hm
   have:m*1≤m*size:=Nat.mul_le_mul_left _ p1
   omega)
end
def alk1:Value→Value→Bool
 | .int k _, .int k' _=>decide (k=k')
 | .bool _, .bool _=>true
 | .string _, .string _=>true
 | _,_=>false
def Alk:List Value→List Value→Prop
 | [], [] =>True
 | x::xs,y::ys=>alk1 x y=true∧Alk xs ys
 | _,_=>False
theorem Alk.length: ∀{xs ys:List Value},Alk xs ys→xs.length=ys.length
 | [], [],_=>rfl
 | _::_,_::_,h=>by simp [Alk.length h.2]
 | [],_::_,h=>h.elim
 | _::_, [],h=>h.elim
theorem Alk.drop: ∀{xs ys:List Value} (k:Nat),Alk xs ys→Alk (xs.drop k) (ys.drop k)
 | _,_,0,h=>by simpa using h
 | [], [],_+1,h=>by simp [Alk]
 | _::_,_::_,k+1,h=>by simpa using Alk.drop k h.2
 | [],_::_,_,h=>h.elim
 | _::_, [],_,h=>h.elim
theorem Alk.take: ∀{xs ys:List Value} (k:Nat),Alk xs ys→Alk (xs.take k) (ys.take k)
 | _,_,0,h=>by simp [Alk]
 | [], [],_+1,h=>by simp [Alk]
 | _::_,_::_,k+1,h=>⟨h.1,Alk.take k h.2⟩
 | [],_::_,_,h=>h.elim
 | _::_, [],_,h=>h.elim
theorem Alk.map {α:Type}{f g:α→Value}(h: ∀x,alk1 (f x) (g x)=true): ∀l:List α,Alk (l.map f) (l.map g)
 | [] =>trivial
 | x::l=>⟨h x,Alk.map h l⟩
theorem Alk.maps {α:Type}{f:α→Value}(h: ∀x y,alk1 (f x) (f y)=true): ∀l l':List α,l.length=l'.length→Alk (l.map f) (l'.map f)
 | [], [],_=>trivial
 | x::l,y::l',e=>⟨h x y,Alk.maps h l l' (by simpa using e)⟩
 | [],_::_,e=>by simp at e
 | _::_, [],e=>by simp at e
theorem Alk.rep {α:Type}{z:Value}{f:α→Value}(h: ∀x,alk1 z (f x)=true): ∀(n:Nat) (l:List α),l.length=n→Alk (List.replicate n z) (l.map f)
 | 0, [],_=>trivial
 | n+1,x::l,e=>⟨h x,Alk.rep h n l (by simpa using e)⟩
 | 0,_::_,e=>by simp at e
 | _+1, [],e=>by simp at e
theorem Alk.append: ∀{a b c d:List Value},Alk a b→Alk c d→Alk (a++c) (b++d)
 | [], [],_,_,_,h=>h
 | _::_,_::_,_,_,h,k=>⟨h.1,Alk.append h.2 k⟩
 | [],_::_,_,_,h,_=>h.elim
 | _::_, [],_,_,h,_=>h.elim
def eqFs (P:Program)(f:TypeId→Option (List Value)):List Field→Nat→Option (List Value)
 | [],k=>some []
 | x::fs,k=>match f x.type with
  | none=>none
  | some s => if x.offset = k ∧ P.cellsOf x.type = s.length ∧ (P.info? x.type).isSome = true ∧ (x.name == "_") = false then (match eqFs P f fs (k + s.length) with | none => none | some r => some (s ++ r)) else none
def eqOk (P:Program):Nat→TypeId→Option (List Value)
 | 0,_=>none
 | m+1,t=>match P.underlying t with
  | some .bool=>some [.bool false]
  | some (.int k)=>some [.int k 0]
  | some .string=>some [.string ⟨#[]⟩]
  | some (.array n e)=>match eqOk P m e with
   | none=>none
   | some s=>if P.cellsOf e=s.length∧(P.info? e).isSome=true then some (List.replicate n s).flatten else none
  | some (.struct fs)=>if P.stoodInHeld t=true then none else eqFs P (eqOk P m) fs.toList 0
  | _=>none
def mkv (P:Program)(t:TypeId)(xs:List Value):Value:=
 match P.underlying t with
 | some (.array _ _)=> .agg xs.toArray
 | some (.struct _)=> .agg xs.toArray
 | _=>xs.headD undef
theorem info_cells {P:Program}{e:TypeId}(h:(P.info? e).isSome=true)(w:World):(sizeOf e).run P w= .ok (P.cellsOf e) w:=by
 cases hi:P.info? e with
 | none=>simp [hi] at h
 | some i=>exact run_sizeOf w hi
theorem part_mkv {P:Program}{m:Nat}{e:TypeId}{s:List Value}(he:eqOk P m e=some s)(hc:P.cellsOf e=s.length)(hi:(P.info? e).isSome=true)(w:World)(xs:List Value)(off:Nat)(hl:off+s.length≤xs.length):
  (part e xs.toArray off).run P w= .ok (mkv P e ((xs.drop off).take s.length)) w:=by
 have hs:=info_cells hi w
 have agg: ∀d,P.underlying e=some d→(match d with | .array _ _=>True | .struct _=>True | _=>False)→(part e xs.toArray off).run P w= .ok (mkv P e ((xs.drop off).take s.length)) w:=by
  intro d hu hd
  have hv:(xs.toArray.extract off (off+s.length))=((xs.drop off).take s.length).toArray:=by
   apply Array.toList_inj.1
   simp [List.extract]
  cases d<;>simp at hd<;>simp only [part,isAgg,run_underlying hu,hs,hc,mkv,hu,hv,Sem.run_bind,Result.andThen_ok,Sem.run_pure,if_true]
 have one:s.length=1→ ∀d,P.underlying e=some d→(match d with | .bool=>True | .int _=>True | .string=>True | _=>False)→(part e xs.toArray off).run P w= .ok (mkv P e ((xs.drop off).take s.length)) w:=by
  intro h1 d hu hd
  rw [h1] at hl ⊢
  have hlt:off<xs.length:=by omega
  have e1:((xs.drop off).take 1).headD undef=xs[off] :=by
   rw [List.drop_eq_getElem_cons hlt];rfl
  have e2:xs.toArray[off]? =some xs[off] :=by simp [hlt]
  cases d<;>simp at hd<;>simp only [part,isAgg,run_underlying hu,mkv,hu,e1,e2,Sem.run_bind,Result.andThen_ok,Sem.run_pure,Bool.false_eq_true,if_false]
 cases m with
 | zero=>simp [eqOk] at he
 | succ m=>
  unfold eqOk at he
  cases hu:P.underlying e with
  | none=>simp [hu] at he
  | some d=>
   cases d with
   | bool=>simp [hu] at he;exact one (by rw [←he];rfl) _ hu trivial
   | int k=>simp [hu] at he;exact one (by rw [←he];rfl) _ hu trivial
   | string=>simp [hu] at he;exact one (by rw [←he];rfl) _ hu trivial
   | array n e'=>exact agg _ hu trivial
   | struct fs=>exact agg _ hu trivial
   | _=>simp [hu] at he
def EqR (P:Program)(d:Nat)(t:TypeId)(z:List Value):Prop:= ∀(w:World) (xs ys:List Value),Alk z xs→Alk z ys→ ∃r:Bool,(Op.equalIn d t (mkv P t xs) (mkv P t ys)).run P w= .ok r w∧(r=true↔xs=ys)
theorem eq_split {xs ys:List Value}(k:Nat):xs=ys↔xs.take k=ys.take k∧xs.drop k=ys.drop k:=
 ⟨fun e=>by rw [e];exact⟨rfl,rfl⟩,fun⟨h1,h2⟩=>by rw [←List.take_append_drop k xs, ←List.take_append_drop k ys,h1,h2]⟩
theorem Alk.split {a b xs:List Value}(h:Alk (a++b) xs):Alk a (xs.take a.length)∧Alk b (xs.drop a.length):=by
 have h1:=Alk.take a.length h
 have h2:=Alk.drop a.length h
 rw [List.take_left] at h1
 rw [List.drop_left] at h2
 exact⟨h1,h2⟩
theorem items_run {P:Program}{d m:Nat}{e:TypeId}{s:List Value}(he:eqOk P m e=some s)(hc:P.cellsOf e=s.length)(hi:(P.info? e).isSome=true)(ih:EqR P d e s)(w:World):
  ∀(n k:Nat) (xs ys:List Value),Alk (List.replicate n s).flatten (xs.drop (k*s.length))→Alk (List.replicate n s).flatten (ys.drop (k*s.length))→(n=0∨k*s.length≤xs.length∧k*s.length≤ys.length)→ ∃r:Bool,(Op.eqItems d e (P.cellsOf e) xs.toArray ys.toArray (List.range' k n)).run P w= .ok r w∧(r=true↔xs.drop (k*s.length)=ys.drop (k*s.length))
 | 0,k,xs,ys,hx,hy,_=>by
  refine⟨true,by simp [Op.eqItems], ?_⟩
  have h1:=hx.length
  have h2:=hy.length
  simp only [List.replicate_zero,List.flatten_nil,List.length_nil] at h1 h2
  rw [List.eq_nil_of_length_eq_zero h1.symm,List.eq_nil_of_length_eq_zero h2.symm]
  simp
 | n+1,k,xs,ys,hx,hy,hk=>by
  have hx1:=hx.length
  have hy1:=hy.length
  rw [List.replicate_succ,List.flatten_cons] at hx hy
  rw [List.replicate_succ,List.flatten_cons,lAp,lDp] at hx1 hy1
  have e1:k*s.length+s.length=(k+1)*s.length:=by rw [Nat.add_mul];omega
  obtain⟨hx2,hx3⟩:=hx.split
  obtain⟨hy2,hy3⟩:=hy.split
  rw [List.drop_drop,e1] at hx3 hy3
  have hk2:k*s.length≤xs.length∧k*s.length≤ys.length:=hk.resolve_left (by omega)
  obtain⟨r,hr,hq⟩:=ih w _ _ hx2 hy2
  obtain⟨r',hr',hq'⟩:=items_run he hc hi ih w n (k+1) xs ys hx3 hy3 (.inr (by rw [←e1];omega))
  have hp1:=part_mkv he hc hi w xs (k*s.length) (by omega)
  have hp2:=part_mkv he hc hi w ys (k*s.length) (by omega)
  have hsp:=eq_split (xs:=xs.drop (k*s.length)) (ys:=ys.drop (k*s.length)) s.length
  rw [List.drop_drop,List.drop_drop,e1] at hsp
  rw [List.range'_succ]
  simp only [Op.eqItems,Sem.run_bind,hc,hp1,hp2,hr,Result.andThen_ok]
  cases r with
  | false=>exact⟨false,by simp,by rw [hsp, ←hq];simp⟩
  | true=>
   rw [hc] at hr'
   exact⟨r',by simpa using hr',by rw [hsp, ←hq,hq'];simp⟩
theorem fields_run {P:Program}{d m:Nat}(w:World)(ih: ∀e s,eqOk P m e=some s→EqR P d e s): ∀(fs:List Field) (k:Nat) (z:List Value),eqFs P (eqOk P m) fs k=some z→ ∀(xs ys:List Value),k≤xs.length→k≤ys.length→Alk z (xs.drop k)→Alk z (ys.drop k)→
  ∃r:Bool,(Op.eqFields d xs.toArray ys.toArray fs).run P w= .ok r w∧(r=true↔xs.drop k=ys.drop k)
 | [],k,z,h,xs,ys,_,_,hx,hy=>by
  simp [eqFs] at h
  subst h
  have h1:=hx.length
  have h2:=hy.length
  refine⟨true,by simp [Op.eqFields], ?_⟩
  rw [List.eq_nil_of_length_eq_zero h1.symm,List.eq_nil_of_length_eq_zero h2.symm]
  simp
 | f::fs,k,z,h,xs,ys,hkx,hky,hx,hy=>by
  unfold eqFs at h
  cases hf:eqOk P m f.type with
  | none=>simp [hf] at h
  | some s=>
   simp only [hf] at h
   split at h
   ·rename_i hh
    obtain⟨ho,hc,hi,hn⟩:=hh
    cases hz:eqFs P (eqOk P m) fs (k+s.length) with
    | none=>simp [hz] at h
    | some z'=>
     simp only [hz,Option.some.injEq] at h
     subst h
     have hx1:=hx.length
     have hy1:=hy.length
     rw [lAp,lDp] at hx1 hy1
     obtain⟨hx2,hx3⟩:=hx.split
     obtain⟨hy2,hy3⟩:=hy.split
     rw [List.drop_drop] at hx3 hy3
     obtain⟨r',hr',hq'⟩:=fields_run w ih fs (k+s.length) z' hz xs ys (by omega) (by omega) hx3 hy3
     obtain⟨r,hr,hq⟩:=ih f.type s hf w _ _ hx2 hy2
     have hp1:=part_mkv hf hc hi w xs k (by omega)
     have hp2:=part_mkv hf hc hi w ys k (by omega)
     have hsp:=eq_split (xs:=xs.drop k) (ys:=ys.drop k) s.length
     rw [List.drop_drop,List.drop_drop] at hsp
     have hn' : f.name ≠ "_" := by simpa using hn
     simp only [Op.eqFields,if_pos hn',Sem.run_bind,ho,hp1,hp2,hr,Result.andThen_ok]
     cases r with
     | false=>exact⟨false,by simp,by rw [hsp, ←hq];simp⟩
     | true=>exact⟨r',by simpa using hr',by rw [hsp, ←hq,hq'];simp⟩
   ·cases h
theorem one_run {P:Program}{d:Nat}{t:TypeId}{z:Value}(w:World)(hm: ∀xs:List Value,mkv P t xs=xs.headD undef)(h: ∀x y,alk1 z x=true→alk1 z y=true→ ∃r:Bool,(Op.equalIn d t x y).run P w= .ok r w∧(r=true↔x=y))(xs ys:List Value)(hx:Alk [z] xs)(hy:Alk [z] ys):
  ∃r:Bool,(Op.equalIn d t (mkv P t xs) (mkv P t ys)).run P w= .ok r w∧(r=true↔xs=ys):=by
 match xs,ys,hx,hy with
 | [x], [y],hx,hy=>
  obtain⟨r,h1,h2⟩:=h x y hx.1 hy.1
  exact⟨r,by simpa [hm] using h1,by simpa using h2⟩
theorem eqOk_run {P:Program}: ∀(m:Nat) (t:TypeId) (s:List Value),eqOk P m t=some s→ ∀d,m≤d→EqR P d t s
 | 0,_,_,h,_,_=>by simp [eqOk] at h
 | m+1,t,s,h,0,hd=>by omega
 | m+1,t,s,h,d+1,hd=>by
  intro w xs ys hx hy
  have IH:=fun e s' (he:eqOk P m e=some s')=>eqOk_run m e s' he d (by omega)
  unfold eqOk at h
  cases hu:P.underlying t with
  | none=>simp [hu] at h
  | some k=>
   cases k with
   | bool=>
    simp [hu] at h
    subst h
    refine one_run w (fun _=>by simp only [mkv,hu]) (fun x y hx hy=>?_) xs ys hx hy
    cases x<;>simp [alk1] at hx
    cases y<;>simp [alk1] at hy
    rename_i a b
    exact⟨a==b,run_equalIn_bool' w d t a b hu,by simp⟩
   | int ik=>
    simp [hu] at h
    subst h
    refine one_run w (fun _=>by simp only [mkv,hu]) (fun x y hx hy=>?_) xs ys hx hy
    cases x<;>simp [alk1] at hx
    cases y<;>simp [alk1] at hy
    rename_i k1 a k2 b
    subst hx;subst hy
    exact⟨a==b,run_equalIn_int w d t _ _ a b hu,by simp⟩
   | string=>
    simp [hu] at h
    subst h
    refine one_run w (fun _=>by simp only [mkv,hu]) (fun x y hx hy=>?_) xs ys hx hy
    cases x<;>simp [alk1] at hx
    cases y<;>simp [alk1] at hy
    rename_i a b
    refine⟨a.toList==b.toList,run_equalIn_string w d t a b hu, ?_⟩
    rw [←beq_toListBytes]
    obtain⟨⟨x⟩⟩:=a
    obtain⟨⟨y⟩⟩:=b
    show ((⟨x⟩:Array UInt8)==⟨y⟩)=true↔_
    simp
   | array n e=>
    simp only [hu] at h
    cases he:eqOk P m e with
    | none=>simp [he] at h
    | some s'=>
     simp only [he] at h
     split at h
     ·rename_i hh
      simp at h
      subst h
      obtain⟨i,hi⟩:=Option.isSome_iff_exists.1 hh.2
      have hmk: ∀zs:List Value,mkv P t zs= .agg zs.toArray:=fun _=>by simp only [mkv,hu]
      rw [hmk,hmk,run_equalIn_array (P:=P) w d xs.toArray ys.toArray hu hi,List.range_eq_range']
      have:=items_run he hh.1 hh.2 (IH e s' he) w n 0 xs ys (by simpa using hx) (by simpa using hy) (by simp)
      simpa using this
     ·cases h
   | struct fs=>
    simp only [hu] at h
    split at h
    ·cases h
    ·rename_i hsi
     have hmk: ∀zs:List Value,mkv P t zs= .agg zs.toArray:=fun _=>by simp only [mkv,hu]
     have hfo:P.fieldsOf t=fs:=by simp [Program.fieldsOf,hu]
     rw [hmk,hmk,run_equalIn_struct (P:=P) w d t xs.toArray ys.toArray (by rw [hfo];exact hu) (by simpa using hsi),hfo]
     obtain⟨r,hr,hq⟩:=fields_run w IH fs.toList 0 s h xs ys (Nat.zero_le _) (Nat.zero_le _) (by simpa using hx) (by simpa using hy)
     exact⟨r,hr,by simpa using hq⟩
   | _=>simp [hu] at h
class TEq (P:Program) (t:TypeId) (z:outParam (List Value)):Prop where
 ok:eqOk P 12 t=some z
 guard:P.eqGuardType P.depth t=false
 agg:(match P.underlying t with | some (.array _ _)=>true | some (.struct _)=>true | _=>false)=true
section
variable {P:Program} {w0:World} {n:NT} {L:Slots} {H H':List Atom} {Q:Exit→Act→World→Prop} {K:Act→World→Prop} {o:Oper} {d:Nat}
variable {ty:TypeId} {pos:String} {aft:Array Edge} {g:Option (Nat×Bool)}
theorem TEq.run {t:TypeId}{z:List Value}[ht:TEq P t z]{xs ys:List Value}(hax:Alk z xs)(hay:Alk z ys){r:Bool}(hr:r=true↔xs=ys)(w:World):(Op.equalIn 10000 t (.agg xs.toArray) (.agg ys.toArray)).run P w= .ok r w:=by
 have hm: ∀zs:List Value,mkv P t zs= .agg zs.toArray:=fun zs=>by
  have hg:=ht.agg
  unfold mkv
  split<;>simp_all
 obtain⟨q,h1,h2⟩:=eqOk_run 12 t z ht.ok 10000 (by omega) w xs ys hax hay
 rw [hm,hm] at h1
 have:r=q:=by
  have:=hr.trans h2.symm
  cases r<;>cases q<;>simp_all
 rw [this];exact h1
theorem o_eqlA {t1 t2:TypeId}{z:List Value}{x y:Operand}{xs ys:List Value}{r:Bool}[ht:TEq P t1 z](hx:ev L x=some (.agg xs.toArray))(hy:ev L y=some (.agg ys.toArray))(hax:Alk z xs)(hay:Alk z ys)(hr:r=true↔xs=ys)(hn:Nat.blt d n=true)(k:Tri w0 K n ((d, .bool r)::L) H):
  Tri w0 (OpG P ⟨some d, .binOp .eql t1 x y t2,ty,pos,aft,g⟩ K Q) n L H:=
 Tri.val rfl hn _ (fun a w ha' _=>by
  simp only [execOp,ha'.eval hx,ha'.eval hy,Sem.run_bind,run_eqGuard_agg w .eql t1 x y _ _ ht.guard,run_eql_struct,TEq.run hax hay hr w,Result.andThen_ok,Sem.run_pure]) k
end
def placesOf (P:Program)(T:TypeId):Option (List (Nat×Nat)):=
 match P.underlying T with
 | some (.struct fs)=>if fs.toList.all (fun f=>(P.info? f.type).isSome)=true then some (fs.toList.map fun f=>(f.offset,P.cellsOf f.type)) else none
 | _=>none
class TPlaces (P:Program) (T:TypeId) (pl:outParam (List (Nat×Nat))):Prop where
 ok:placesOf P T=some pl
theorem places_run {P:Program}{w:World}: ∀fs:List Field,fs.all (fun f=>(P.info? f.type).isSome)=true→(fs.mapM fun f=>(do pure (f.offset, ←sizeOf f.type):Sem (Nat×Nat))).run P w= .ok (fs.map fun f=>(f.offset,P.cellsOf f.type)) w
 | [],_=>by simp
 | f::fs,h=>by
  simp only [List.all_cons,Bool.and_eq_true] at h
  simp only [List.mapM_cons,Sem.run_bind,info_cells h.1 w,Result.andThen_ok,Sem.run_pure,places_run fs h.2,List.map_cons]
section
variable {P:Program} {w0:World} {n:NT} {L:Slots} {H H':List Atom} {Q:Exit→Act→World→Prop} {K:Act→World→Prop} {o:Oper} {d:Nat}
variable {ty:TypeId} {pos:String} {aft:Array Edge} {g:Option (Nat×Bool)}
theorem Tri.ownNil {G:Act→World→Prop}(e:TypeId)(size:Nat)(k:Tri w0 G n L (own e size (.slice none 0 0) 0 [] ::H)):Tri w0 G n L H:=fun a w ha hw=>
 k a w ha ⟨hw.1,fun _=>False,fun _ h=>h.elim,own_nil _ _ _,hw.2.mono (fun _ _ _=>⟨trivial,fun h=>h⟩)⟩
theorem o_build {T:TypeId}{pl:List (Nat×Nat)}{z ys:List Value}{parts:List (Nat×Operand)}{vs:List (Nat×Value)}[ht:TPlaces P T pl][hz:TZero P T z](hp:pev L parts vs)(hf:fillL (fun i=>pl[i]?) z vs=some ys)(hn:Nat.blt d n=true)
  (k:Tri w0 K n ((d, .agg ys.toArray)::L) H):Tri w0 (OpG P ⟨some d, .build T parts.toArray,ty,pos,aft,g⟩ K Q) n L H:=
 Tri.val rfl hn _ (fun a w ha _=>by
  obtain⟨zv,hzv,hzl⟩:=zero_run (P:=P) (T:=T) w
  have ho:=ht.ok
  unfold placesOf at ho
  cases hu:P.underlying T with
  | none=>simp [hu] at ho
  | some dd=>
   cases dd<;>simp only [hu] at ho
   case struct fs=>
    split at ho
    ·rename_i hall
     simp only [Option.some.injEq] at ho
     have hm:(fs.mapM fun f=>(do pure (f.offset, ←sizeOf f.type):Sem (Nat×Nat))).run P w= .ok pl.toArray w:=by
      have:fs=fs.toList.toArray:=rfl
      rw [this,List.mapM_toArray,Sem.run_map,places_run _ hall,ho]
      rfl
     have hfill:=fill_fillL (fun i=>pl.toArray[i]?) vs zv.cells ys (by rw [hzl];simpa using hf)
     have hpm:(parts.toArray.map fun(p:Nat×Operand)=>(p.1,a.eval p.2)).toList=vs:=by
      simp only [List.map_toArray];exact pev.map ha hp
     simp only [execOp,Instr.build,Sem.run_bind,hzv,Result.andThen_ok,run_underlying hu,hm,hpm,hfill,Sem.run_pure]
    ·cases ho
   all_goals cases ho) k
theorem o_build0 {T:TypeId}{pl:List (Nat×Nat)}{z:List Value}[ht:TPlaces P T pl][hz:TZero P T z](hn:Nat.blt d n=true)
  (k:Tri w0 K n ((d, .agg z.toArray)::L) H):Tri w0 (OpG P ⟨some d, .build T #[],ty,pos,aft,g⟩ K Q) n L H:=o_build (parts:= []) (vs:= []) pev.nil rfl hn k
theorem o_index {T e:TypeId}{m:Nat}{x y:Operand}{cs:List Value}{ik:IntKind}{i:Int}{j:Nat}{v:Value}[hT:TArr P T m e 1][hE:TPlain P e](hx:ev L x=some (.agg cs.toArray))(hy:ev L y=some (.int ik i))(hj:i=(j:Int))(hlt:j<m)(hv:cs[j]? =some v)(hn:Nat.blt d n=true)(k:Tri w0 K n ((d,v)::L) H):
  Tri w0 (OpG P ⟨some d, .index T x y,ty,pos,aft,g⟩ K Q) n L H:=
 Tri.val rfl hn _ (fun a w ha _=>by
  subst hj
  have h1:(0:Int)≤j∧(j:Int)<m:=by omega
  simp [execOp,ha.eval hx,ha.eval hy,Instr.index,asIntOf,run_underlying hT.ok,hlt,size_run hT.size,part,plain_isAgg (P:=P) (T:=e) w,hv]) k
end
section
variable {P:Program} {w0:World} {n:NT} {L:Slots} {H H':List Atom} {Q:Exit→Act→World→Prop} {K:Act→World→Prop} {o:Oper} {d:Nat}
variable {ty:TypeId} {pos:String} {aft:Array Edge} {g:Option (Nat×Bool)}
theorem o_field {T:TypeId}{f off:Nat}{x:Operand}{fs:Array Field}{fd:Field}(t:TypeId){cs:List Value}{v:Value}[hp:TPlain P t](hu:P.underlying T=some (.struct fs))(hfd:fs[f]? =some fd)(ht:fd.type=t)(ho:fd.offset=off)(hx:ev L x=some (.agg cs.toArray))(hv:cs[off]? =some v)(hn:Nat.blt d n=true)
  (k:Tri w0 K n ((d,v)::L) H):Tri w0 (OpG P ⟨some d, .field T x f,ty,pos,aft,g⟩ K Q) n L H:=
 Tri.val rfl hn _ (fun a w ha _=>by
  subst ht ho
  simp [execOp,ha.eval hx,Instr.field,run_underlying hu,hfd,asAgg,part,plain_isAgg (P:=P) (T:=fd.type) w,hv]) k
end
end Go.Gv
