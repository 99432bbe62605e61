/- Texts of this claim, put together: GvMix, GvMix2, GvMix3, GvJoin, GvSpec, GvRound, GvYield, GvRow, GvMore2, GvYield2, GvRound2, GvYield3, GvMany, GvMix4, GvMeet, GvZeros, GvCut, GvOwn, GvCopy. -/
import Derived.Test.YtcglabmlhljkmaaGreatZ00
import Derived.RangeFuncRecord
import Derived.OrdersIn
import Derived.RangeFuncSeq
import Derived.RangeFuncIn
import Derived.Lib.AppendZerosOnto
import Derived.Lib.Overlaps
set_option maxHeartbeats 64000000
set_option linter.unusedVariables false
set_option linter.unusedSimpArgs false
namespace Go.Gv
open Go Go.RowKit
abbrev WP:=World→Prop
section
variable {P:Program} {ops:Array Oper} {md:Region.Mode} {DD:WP→Prop} {Q:Exit→Act→World→Prop}
theorem wp_false_mono {o:Oper}{a:Act}{w:World}{K:Act→World→Prop}(h:o.wp P a w K (fun _ _ _=>False)):o.wp P a w K Q:=by
 unfold Oper.wp at*
 generalize (execOp a.eval o).run P w=r at*
 cases r with
 | halt x w'=>cases x<;>exact h.elim
 | ok nx w'=>
  cases nx with
  | enter f args=>
   refine Calls.mono h ?_
   intro e w'' he
   cases e with
   | returned u=>exact he
   | panicked c=>exact he.elim
   | outgrown=>obtain⟨_,_,he⟩:=he;exact he.elim
  | _=>exact h
def mOp (P:Program)(ops:Array Oper)(DD:WP→Prop)(i:Nat)(K:Act→WP→Prop)(a:Act)(D:WP):Prop:=
 match ops[i]? with
 | none=>K a D
 | some o=>if Region.wanted o (yielded ops a.tmps)=true then ∀w,D w→o.wp P a w (fun a' w'=> ∃D',DD D'∧D' w'∧K a' D') (fun _ _ _=>False) else K (a.put o.dst undef) D
def mAny (P:Program)(md:Region.Mode)(ops:Array Oper)(DD:WP→Prop)(Q:Exit→Act→World→Prop):Nat→Array Bool→Act→WP→Prop
 | 0,listed,a,D=>Region.ready md ops listed= [] ∧ ∀w,D w→Q .normal a w
 | f+1,listed,a,D=>(Region.ready md ops listed= [] → ∀w,D w→Q .normal a w)∧ ∀i∈Region.ready md ops listed,mOp P ops DD i (mAny P md ops DD Q f (listed.setIfInBounds i true)) a D
theorem any_of_m: ∀(f:Nat) (listed:Array Bool) (a:Act) (D:WP) (w:World),D w→mAny P md ops DD Q f listed a D→wpAny P md ops Q f listed a w
 | 0,_,_,_,w,hw,h=>⟨h.1,h.2 w hw⟩
 | f+1,listed,a,D,w,hw,h=>by
  refine⟨fun h0=>h.1 h0 w hw,fun i hi=>?_⟩
  have hs:=h.2 i hi
  unfold mOp at hs
  unfold Go.wpOp
  cases ho:ops[i]? with
  | none=>simp only [ho] at hs ⊢;exact any_of_m f _ _ _ _ hw hs
  | some o=>
   simp only [ho] at hs ⊢
   by_cases hwt:Region.wanted o (yielded ops a.tmps)=true
   ·rw [if_pos hwt] at hs ⊢
    refine .inl (Oper.wp_mono ?_ (wp_false_mono (hs w hw)))
    rintro a' w' ⟨D',_,hd,hk⟩
    exact any_of_m f _ _ _ _ hd hk
   ·rw [if_neg hwt] at hs ⊢
    exact any_of_m f _ _ _ _ hw hs
def myield (P:Program)(ops:Array Oper)(DD:WP→Prop)(o:Oper)(v:Value)(a:Act):Prop:=
 (Region.wanted o (yielded ops a.tmps)=true∧ ∀D,DD D→ ∀w,D w→qres P D v ((execOp a.eval o).run P w))∨
 (Region.wanted o (yielded ops a.tmps)=false∧v=undef)
theorem myield.same {o:Oper}{v:Value}{a a':Act}(h:myield P ops DD o v a)(he:execOp a'.eval o=execOp a.eval o)
  (hw:Region.wanted o (yielded ops a'.tmps)=Region.wanted o (yielded ops a.tmps)):myield P ops DD o v a':=by
 unfold myield at*
 rw [he,hw];exact h
theorem myield.mOp {i:Nat}{o:Oper}{v:Value}{a:Act}{D:WP}{K:Act→WP→Prop}(hi:ops[i]? =some o)(h:myield P ops DD o v a)(hD:DD D)(hK:K (a.put o.dst v) D):mOp P ops DD i K a D:=by
 unfold Gv.mOp
 simp only [hi]
 rcases h with ⟨hw,h⟩ | ⟨hw,rfl⟩
 ·rw [if_pos hw]
  intro w hd
  have hr:=h D hD w hd
  unfold Oper.wp
  generalize (execOp a.eval o).run P w=r at hr
  cases r with
  | halt x w'=>exact hr.elim
  | ok nx w'=>
   cases nx with
   | value u=>obtain⟨rfl,hc⟩:=hr;exact⟨D,hD,hc,hK⟩
   | skip=>obtain⟨rfl,hc⟩:=hr;exact⟨D,hD,hc,hK⟩
   | enter f args=>
    refine Calls.mono hr ?_
    intro e w'' he
    cases e with
    | returned u=>obtain⟨rfl,hc⟩:=he;exact⟨D,hD,hc,hK⟩
    | panicked c=>exact he.elim
    | outgrown=>exact he.elim
   | row r args=>
    refine Rows.mono hr ?_
    intro u w'' he
    obtain⟨rfl,hc⟩:=he
    exact⟨D,hD,hc,hK⟩
   | _=>exact hr.elim
 ·rw [if_neg (by rw [hw];simp)];exact hK
theorem mOp_put {j:Nat}{oi oj:Oper}{v:Value}(hj:ops[j]? =some oj)(hap:oi.apart ops oj=true)
  (hsi: ∀cs b,oi.op≠ .select cs b) (hsj: ∀cs b,oj.op≠ .select cs b) {K K':Act→WP→Prop} {a:Act} {D:WP}
  (hy:myield P ops DD oi v a) (hD:DD D) (hKK: ∀a' D',myield P ops DD oi v a'→DD D'→K (a'.put oi.dst v) D'→K' a' D') (h:mOp P ops DD j K (a.put oi.dst v) D):mOp P ops DD j K' a D:=by
 obtain⟨h1,h2,h3⟩:=Oper.apart_spec hap
 have keep: ∀u,myield P ops DD oi v (a.put oj.dst u):=fun u=>hy.same (execOp_put oi hsi a oj.dst u h3) (wanted_put oi a oj.dst u h3)
 have keepD: ∀d,myield P ops DD oi v { a with defers:=d::a.defers }:=fun d=>hy.same rfl rfl
 have keepDD: ∀d u,myield P ops DD oi v (({ a with defers:=d::a.defers }:Act).put oj.dst u):=fun d u=>(keepD d).same (execOp_put oi hsi _ oj.dst u h3) (wanted_put oi _ oj.dst u h3)
 unfold mOp at*
 simp only [hj] at*
 rw [wanted_put oj a oi.dst v h1] at h
 split
 ·rename_i hw
  rw [if_pos hw] at h
  intro w hd
  have hh:=h w hd
  unfold Oper.wp at*
  rw [execOp_put oj hsj a oi.dst v h1] at hh
  generalize (execOp a.eval oj).run P w=r at*
  cases r with
  | halt x w'=>cases x<;>exact hh.elim
  | ok nx w'=>
   cases nx<;>simp only [Oper.upon] at hh ⊢
   case value u=>
    obtain⟨D',e1,e2,e3⟩:=hh
    exact⟨D',e1,e2,hKK _ _ (keep u) e1 (by rw [Act.put_comm a u v (fun d hd he=>h2 d he hd)];exact e3)⟩
   case skip=>
    obtain⟨D',e1,e2,e3⟩:=hh
    exact⟨D',e1,e2,hKK _ _ (keep _) e1 (by rw [Act.put_comm a undef v (fun d hd he=>h2 d he hd)];exact e3)⟩
   case defer d=>
    obtain⟨D',e1,e2,e3⟩:=hh
    refine⟨D',e1,e2,hKK _ _ (keepDD d _) e1 ?_⟩
    rw [Act.put_comm _ undef v (fun d hd he=>h2 d he hd), ←Act.put_defers]
    exact e3
   case enter f args=>
    refine Calls.mono hh fun e w'' he=>?_
    cases e with
    | returned u=>
     obtain⟨D',e1,e2,e3⟩:=he
     exact⟨D',e1,e2,hKK _ _ (keep u) e1 (by rw [Act.put_comm a u v (fun d hd he=>h2 d he hd)];exact e3)⟩
    | panicked c=>exact he
    | outgrown=>exact he
   case row row args=>
    exact Rows.mono hh fun u w'' he=>by
     obtain⟨D',e1,e2,e3⟩:=he
     exact⟨D',e1,e2,hKK _ _ (keep u) e1 (by rw [Act.put_comm a u v (fun d hd he=>h2 d he hd)];exact e3)⟩
 ·rename_i hw
  rw [if_neg hw] at h
  exact hKK _ _ (keep _) hD (by rw [Act.put_comm a undef v (fun d hd he=>h2 d he hd)];exact h)
theorem mAny_first {i:Nat}{oi:Oper}{v:Value}(hi:ops[i]? =some oi)(hsel: ∀(j:Nat) (o:Oper) cs b,ops[j]? =some o→o.op≠ .select cs b):
  ∀(f:Nat) (listed:Array Bool) (a:Act) (D:WP),DD D→
   (∀j oj,ops[j]? =some oj→j≠i→listed.getD j true=false→(∀e∈oj.after,Region.binds md e=true→e.on≠i)→oi.apart ops oj=true)→
   i∈Region.ready md ops listed→myield P ops DD oi v a→
   mAny P md ops DD Q f (listed.setIfInBounds i true) (a.put oi.dst v) D→mAny P md ops DD Q (f+1) listed a D:=by
 intro f
 induction f with
 | zero=>
  intro listed a D hD _ hr hy G
  refine⟨fun h=>(by rw [h] at hr;cases hr),fun j hj=>?_⟩
  by_cases hji:j=i
  ·subst hji;exact hy.mOp hi hD G
  ·have:=ready_mono hj hji
   rw [G.1] at this
   cases this
 | succ f ih=>
  intro listed a D hD hfree hr hy G
  refine⟨fun h=>(by rw [h] at hr;cases hr),fun j hj=>?_⟩
  by_cases hji:j=i
  ·subst hji;exact hy.mOp hi hD G
  ·have h1:=G.2 j (ready_mono hj hji)
   obtain⟨hjun,oj,hoj,hall⟩:=mem_ready.1 hj
   have hnot: ∀e∈oj.after,Region.binds md e=true→e.on≠i:=fun e he hb heq=>by
    have h1:=hall e he hb
    rw [heq,getD_both (mem_ready.1 hr).1] at h1
    cases h1
   refine mOp_put hoj (hfree j oj hoj hji hjun hnot) (fun cs b=>hsel i oi cs b hi) (fun cs b=>hsel j oj cs b hoj) hy hD (fun a' D' hy' hD' hk=>?_) h1
   have hfree': ∀k ok,ops[k]? =some ok→k≠i→(listed.setIfInBounds j true).getD k true=false→
     (∀e∈ok.after,Region.binds md e=true→e.on≠i)→oi.apart ops ok=true:=fun k ok hk hki hun hno=>by
    refine hfree k ok hk hki ?_ hno
    by_cases hjk:j=k
    ·subst hjk;exact hjun
    ·rw [getD_set_ne true hjk] at hun;exact hun
   refine ih (listed.setIfInBounds j true) a' D' hD' hfree' (ready_mono hr (Ne.symm hji)) hy' ?_
   rw [Array.setIfInBounds_comm _ _ hji]
   exact hk
end
section
variable {P:Program} {w0:World} {n:NT} {L:Slots} {H H':List Atom} {Q:Exit→Act→World→Prop} {K:Act→World→Prop} {o:Oper} {d:Nat}
def Dcl (w0:World)(Hs:List Atom)(D:WP):Prop:= ∃F,D=fun w=>St w0 w (Hs++F)
def TriM (P:Program)(w0:World)(ops:Array Oper)(Q:Exit→Act→World→Prop)(Hs:List Atom)(m:Nat)(ls:Array Bool)(n:NT)(L:Slots)(F:List Atom):Prop:=
 ∀a,Has a n L→mAny P .any ops (Dcl w0 Hs) Q m ls a (fun w=>St w0 w (Hs++F))
def MixK (P:Program)(w0:World)(ops:Array Oper)(Q:Exit→Act→World→Prop)(Hs:List Atom)(m:Nat)(ls:Array Bool):Act→World→Prop:=
 fun a w=> ∃D',Dcl w0 Hs D'∧D' w∧mAny P .any ops (Dcl w0 Hs) Q m ls a D'
theorem Tri.mix (Hs:List Atom){id:Nat}{l:List Oper}{F:List Atom}[hm:TMixed P](p:Pulls H Hs F)(h:TriM P w0 l.toArray Q Hs l.length (Array.replicate l.length false) n L F):Tri w0 ((Code.region id l.toArray true).wp P Q) n L H:=fun a w ha hw=>by
 refine wp_region_any hm.ok ?_
 have:=any_of_m _ _ _ _ { w with drawn:=w.drawn+1 } ((hw.pulls p).drawn (w.drawn+1)) (h a ha)
 simp only [List.size_toArray];exact this
theorem TriM.back {ops:Array Oper}{Hs F:List Atom}{m:Nat}{ls:Array Bool}(p:Pulls H Hs F)(h:TriM P w0 ops Q Hs m ls n L F):Tri w0 (MixK P w0 ops Q Hs m ls) n L H:=fun a w ha hw=>
 ⟨_,⟨F,rfl⟩,hw.pulls p,h a ha⟩
theorem TriM.nil {ops:Array Oper}{Hs F:List Atom}{ls:Array Bool}(hr:(Region.ready .any ops ls).isEmpty=true)(h:Tri w0 (Q .normal) n L (Hs++F)):TriM P w0 ops Q Hs 0 ls n L F:=fun a ha=>by
 refine⟨by simpa using hr,fun w hw=>h a w ha hw⟩
def takeB (ops:Array Oper)(ls:Array Bool)(i:Nat):Bool:=Region.noSelect ops && (Region.ready .any ops ls).contains i && Region.free .any ops ls i
theorem TriM.take {ops:Array Oper}{Hs F:List Atom}{m:Nat}{ls:Array Bool}(i:Nat){v:Value}(ho:ops[i]? =some o)(hB:takeB ops ls i=true)(hd:o.dst=some d)(hn:Nat.blt d n=true)
  (hy: ∀a,Has a n L→myield P ops (Dcl w0 Hs) o v a) (k:TriM P w0 ops Q Hs m (ls.setIfInBounds i true) n ((d,v)::L) F):TriM P w0 ops Q Hs (m+1) ls n L F:=fun a ha=>by
 simp only [takeB,Bool.and_eq_true] at hB
 refine mAny_first ho (Region.noSelect_spec hB.1.1) m ls a _ ⟨F,rfl⟩ (Region.free_spec ho hB.2) (by simpa using hB.1.2) (hy a ha) ?_
 rw [hd];exact k _ (ha.put hn v)
theorem myield_of {ops:Array Oper}{Hs:List Atom}{v:Value}(hw: ∀a,Has a n L→Region.wanted o (yielded ops a.tmps)=true)(hd:o.dst=some d)(hn:Nat.blt d n=true)
  (h: ∀(F:List Atom) (K:Act→World→Prop),Tri w0 K n ((d,v)::L) (Hs++F)→Tri w0 (OpG P o K (fun _ _ _=>False)) n L (Hs++F)): ∀a,Has a n L→myield P ops (Dcl w0 Hs) o v a:=fun a ha=>
 .inl ⟨hw a ha,fun D hD w hDw=>by obtain⟨F,rfl⟩:=hD;exact qres_of hd hn (h F) ha hDw⟩
theorem TriM.q {ops:Array Oper}{Hs F:List Atom}{m:Nat}{ls:Array Bool}(i:Nat){v:Value}(ho:ops.toList[i]? =some o)(hg:o.guard=none)(hB:takeB ops ls i=true)(hd:o.dst=some d)(hn:Nat.blt d n=true)
  (h: ∀(F:List Atom) (K:Act→World→Prop),Tri w0 K n ((d,v)::L) (Hs++F)→Tri w0 (OpG P o K (fun _ _ _=>False)) n L (Hs++F)) (k:TriM P w0 ops Q Hs m (ls.setIfInBounds i true) n ((d,v)::L) F):TriM P w0 ops Q Hs (m+1) ls n L F:=
 TriM.take i (by rw [←Array.getElem?_toList];exact ho) hB hd hn (myield_of (fun a _=>by simp [Region.wanted,hg]) hd hn h) k
theorem TriM.qYes {ops:Array Oper}{Hs F:List Atom}{m:Nat}{ls:Array Bool}(i:Nat){v:Value}{j:Nat}{b b':Bool}(ho:ops.toList[i]? =some o)(hg:o.guard=some (j,b))(hyl:yl L ops j=some b')(hb:b'=b)(hB:takeB ops ls i=true)(hd:o.dst=some d)(hn:Nat.blt d n=true)
  (h: ∀(F:List Atom) (K:Act→World→Prop),Tri w0 K n ((d,v)::L) (Hs++F)→Tri w0 (OpG P o K (fun _ _ _=>False)) n L (Hs++F)) (k:TriM P w0 ops Q Hs m (ls.setIfInBounds i true) n ((d,v)::L) F):TriM P w0 ops Q Hs (m+1) ls n L F:=
 TriM.take i (by rw [←Array.getElem?_toList];exact ho) hB hd hn (myield_of (fun a ha=>by simp [Region.wanted,hg,yl_yielded ha hyl,hb]) hd hn h) k
theorem TriM.qNo {ops:Array Oper}{Hs F:List Atom}{m:Nat}{ls:Array Bool}(i:Nat){j:Nat}{b b' c:Bool}(ho:ops.toList[i]? =some o)(hg:o.guard=some (j,b))(hyl:yl L ops j=some b')(hb:b'=c)(hc:(c !=b)=true)(hB:takeB ops ls i=true)(hd:o.dst=some d)(hn:Nat.blt d n=true)
  (k:TriM P w0 ops Q Hs m (ls.setIfInBounds i true) n ((d,undef)::L) F):TriM P w0 ops Q Hs (m+1) ls n L F:=
 TriM.take i (by rw [←Array.getElem?_toList];exact ho) hB hd hn (fun a ha=> .inr ⟨by
  subst hb
  have hne:b'≠b:=by simpa using hc
  simp [Region.wanted,hg,yl_yielded ha hyl,hne],rfl⟩) k
theorem mOp_of {ops:Array Oper}{Hs F:List Atom}{m:Nat}{ls:Array Bool}{i:Nat}(ho:ops[i]? =some o){a:Act}(hw:Region.wanted o (yielded ops a.tmps)=true)(ha:Has a n L)
  (h:Tri w0 (OpG P o (MixK P w0 ops Q Hs m ls) (fun _ _ _=>False)) n L (Hs++F)):mOp P ops (Dcl w0 Hs) i (mAny P .any ops (Dcl w0 Hs) Q m ls) a (fun w=>St w0 w (Hs++F)):=by
 unfold mOp
 simp only [ho]
 rw [if_pos hw]
 intro w hD
 rcases h a w ha hD with g | ⟨_,_,_,g⟩
 ·exact g
 ·exact g.elim
theorem TriM.a {ops:Array Oper}{Hs F:List Atom}{m:Nat}{ls:Array Bool}(i:Nat)(ho:ops.toList[i]? =some o)(hg:o.guard=none)(hr:Nat.beq (Region.ready .any ops ls).length 1 && (Region.ready .any ops ls).contains i=true)
  (h:Tri w0 (OpG P o (MixK P w0 ops Q Hs m (ls.setIfInBounds i true)) (fun _ _ _=>False)) n L (Hs++F)):TriM P w0 ops Q Hs (m+1) ls n L F:=fun a ha=>by
 simp only [Bool.and_eq_true] at hr
 have h1:=Nat.eq_of_beq_eq_true hr.1
 have h2:i∈Region.ready .any ops ls:=by simpa using hr.2
 refine⟨fun h0=>(by rw [h0] at h2;cases h2),fun j hj=>?_⟩
 have:j=i:=by
  match hq:Region.ready .any ops ls,h1 with
  | [x],_=>
   rw [hq] at hj h2
   simp at hj h2
   rw [hj,h2]
 subst this
 exact mOp_of (by rw [←Array.getElem?_toList];exact ho) (by simp [Region.wanted,hg]) ha h
theorem TriM.a2 {ops:Array Oper}{Hs F:List Atom}{m:Nat}{ls:Array Bool}(i j:Nat){oi oj:Oper}(hoi:ops.toList[i]? =some oi)(hoj:ops.toList[j]? =some oj)(hgi:oi.guard=none)(hgj:oj.guard=none)(hr:decide (Region.ready .any ops ls= [i,j])=true)
  (hi:Tri w0 (OpG P oi (MixK P w0 ops Q Hs m (ls.setIfInBounds i true)) (fun _ _ _=>False)) n L (Hs++F))
  (hj:Tri w0 (OpG P oj (MixK P w0 ops Q Hs m (ls.setIfInBounds j true)) (fun _ _ _=>False)) n L (Hs++F)):TriM P w0 ops Q Hs (m+1) ls n L F:=fun a ha=>by
 have hr':=of_decide_eq_true hr
 refine⟨fun h0=>(by rw [h0] at hr';cases hr'),fun k hk=>?_⟩
 rw [hr'] at hk
 simp at hk
 rcases hk with rfl | rfl
 ·exact mOp_of (by rw [←Array.getElem?_toList];exact hoi) (by simp [Region.wanted,hgi]) ha hi
 ·exact mOp_of (by rw [←Array.getElem?_toList];exact hoj) (by simp [Region.wanted,hgj]) ha hj
def yu (L:Slots)(ops:Array Oper)(j:Nat):Bool:=
 match (ops[j]?).bind (·.dst) with
 | some d=>match look L d with
  | some (.tuple _)=>true
  | _=>false
 | none=>false
theorem yu_wanted {ops:Array Oper}{a:Act}{j:Nat}{b:Bool}(ha:Has a n L)(hg:o.guard=some (j,b))(h:yu L ops j=true):Region.wanted o (yielded ops a.tmps)=false:=by
 have hy:yielded ops a.tmps j=none:=by
  unfold yu at h
  cases hd:(ops[j]?).bind (·.dst) with
  | none=>simp [hd] at h
  | some d=>
   simp only [hd] at h
   cases hl:look L d with
   | none=>simp [hl] at h
   | some v=>
    have hv:=ha.get d v hl
    cases v<;>simp [hl] at h
    unfold yielded
    rw [hd]
    simp [hv]
 simp [Region.wanted,hg,hy]
theorem Tri.opNoU {ops:Array Oper}{rest:List Oper}{j:Nat}{b:Bool}(hg:o.guard=some (j,b))(hyu:yu L ops j=true)(hd:o.dst=some d)(hn:Nat.blt d n=true)(h:Tri w0 (wpList P ops Q rest) n ((d,undef)::L) H):Tri w0 (wpList P ops Q (o::rest)) n L H:=fun a w ha hw=>by
 unfold wpList
 rw [if_neg (by rw [yu_wanted ha hg hyu];simp),hd]
 exact h _ w (ha.put hn _) hw
theorem TriQ.opNoU {ops:Array Oper}{rest:List Oper}{j:Nat}{b:Bool}(hg:o.guard=some (j,b))(hyu:yu L ops j=true)(hd:o.dst=some d)(hn:Nat.blt d n=true)(k:TriQ P w0 ops Q rest n ((d,undef)::L) H):TriQ P w0 ops Q (o::rest) n L H:=fun a ha=>
 ⟨undef, .inr ⟨yu_wanted ha hg hyu,rfl⟩,by rw [hd];exact k _ (ha.put hn undef)⟩
theorem TriM.qNoU {ops:Array Oper}{Hs F:List Atom}{m:Nat}{ls:Array Bool}(i:Nat){j:Nat}{b:Bool}(ho:ops.toList[i]? =some o)(hg:o.guard=some (j,b))(hyu:yu L ops j=true)(hB:takeB ops ls i=true)(hd:o.dst=some d)(hn:Nat.blt d n=true)
  (k:TriM P w0 ops Q Hs m (ls.setIfInBounds i true) n ((d,undef)::L) F):TriM P w0 ops Q Hs (m+1) ls n L F:=
 TriM.take i (by rw [←Array.getElem?_toList];exact ho) hB hd hn (fun a ha=> .inr ⟨yu_wanted ha hg hyu,rfl⟩) k
end
section
variable {P:Program} {ops:Array Oper} {md:Region.Mode} {Q:Exit→Act→World→Prop}
theorem mAny_mono {DD DD':WP→Prop}(hDD: ∀D,DD D→DD' D): ∀(f:Nat) (ls:Array Bool) (a:Act) (D D':WP),(∀w,D' w→D w)→mAny P md ops DD Q f ls a D→mAny P md ops DD' Q f ls a D'
 | 0,_,_,_,_,hd,h=>⟨h.1,fun w hw=>h.2 w (hd w hw)⟩
 | f+1,ls,a,D,D',hd,h=>by
  refine⟨fun h0 w hw=>h.1 h0 w (hd w hw),fun i hi=>?_⟩
  have hs:=h.2 i hi
  unfold mOp at*
  cases ho:ops[i]? with
  | none=>simp only [ho] at hs ⊢;exact mAny_mono hDD f _ _ _ _ hd hs
  | some o=>
   simp only [ho] at hs ⊢
   by_cases hwt:Region.wanted o (yielded ops a.tmps)=true
   ·rw [if_pos hwt] at hs ⊢
    intro w hw
    refine Oper.wp_mono ?_ (hs w (hd w hw))
    rintro a' w' ⟨E,e1,e2,e3⟩
    exact⟨E,hDD E e1,e2,mAny_mono hDD f _ _ _ _ (fun _ h=>h) e3⟩
   ·rw [if_neg hwt] at hs ⊢
    exact mAny_mono hDD f _ _ _ _ hd hs
end
section
variable {P:Program} {w0:World} {n:NT} {L:Slots} {H H':List Atom} {Q:Exit→Act→World→Prop} {K:Act→World→Prop} {o:Oper} {d:Nat}
theorem TriM.more (X:List Atom){ops:Array Oper}{Hs F F':List Atom}{m:Nat}{ls:Array Bool}(p:Pulls F X F')(h:TriM P w0 ops Q (Hs++X) m ls n L F'):TriM P w0 ops Q Hs m ls n L F:=fun a ha=>by
 refine mAny_mono (DD:=Dcl w0 (Hs++X)) (fun D ⟨G,e⟩=>⟨X++G,by rw [e];funext w;rw [aAs]⟩) m ls a _ _ (fun w hw=>?_) (h a ha)
 rw [aAs]
 exact⟨hw.1,satUnder Hs (fun av=>Sat.pulls p av) _ hw.2⟩
where
 satUnder {w:World}: ∀(As:List Atom) {H H':List Atom},(∀av,Sat w av H→Sat w av H')→ ∀av,Sat w av (As++H)→Sat w av (As++H')
  | [],_,_,h,av,hs=>h av hs
  | _::As,_,_,h,av,hs=>Sat.under (satUnder As h) av hs
theorem TriM.setv {ops:Array Oper}{Hs F:List Atom}{m:Nat}{ls:Array Bool}(k:Nat){u:Value}(v:Value)(h:look L k=some u)(hv:u=v)(t:TriM P w0 ops Q Hs m ls n ((k,v)::L) F):TriM P w0 ops Q Hs m ls n L F:=fun a ha=>
 t a ⟨ha.defers,ha.size,fun t u e=>by
  rw [look_cons] at e
  by_cases hk:k=t
  ·subst hk;simp at e;subst e;subst hv;exact ha.get _ _ h
  ·rw [if_neg hk] at e;exact ha.get _ _ e⟩
theorem TriM.setb {ops:Array Oper}{Hs F:List Atom}{m:Nat}{ls:Array Bool}(k:Nat){i:Bool}(j:Bool)(h:look L k=some (.bool i))(hi:i=j)(t:TriM P w0 ops Q Hs m ls n ((k, .bool j)::L) F):TriM P w0 ops Q Hs m ls n L F:=TriM.setv k _ h (by rw [hi]) t
theorem TriM.casesB {ops:Array Oper}{Hs F:List Atom}{m:Nat}{ls:Array Bool}(k:Nat){b:Bool}(h:look L k=some (.bool b))(ht:b=true→TriM P w0 ops Q Hs m ls n ((k, .bool true)::L) F)(hf:b=false→TriM P w0 ops Q Hs m ls n ((k, .bool false)::L) F):TriM P w0 ops Q Hs m ls n L F:=by
 cases b
 ·exact TriM.setv k _ h rfl (hf rfl)
 ·exact TriM.setv k _ h rfl (ht rfl)
theorem TriM.aY {ops:Array Oper}{Hs F:List Atom}{m:Nat}{ls:Array Bool}(i:Nat){g:Nat}{b b':Bool}(ho:ops.toList[i]? =some o)(hg:o.guard=some (g,b))(hyl:yl L ops g=some b')(hb:b'=b)(hr:decide (Region.ready .any ops ls= [i])=true)
  (h:Tri w0 (OpG P o (MixK P w0 ops Q Hs m (ls.setIfInBounds i true)) (fun _ _ _=>False)) n L (Hs++F)):TriM P w0 ops Q Hs (m+1) ls n L F:=fun a ha=>by
 have hr':=of_decide_eq_true hr
 refine⟨fun h0=>(by rw [h0] at hr';cases hr'),fun j hj=>?_⟩
 rw [hr'] at hj
 have:j=i:=by simpa using hj
 subst this
 exact mOp_of (by rw [←Array.getElem?_toList];exact ho) (by simp [Region.wanted,hg,yl_yielded ha hyl,hb]) ha h
end
section
variable {P:Program} {w0:World} {n:NT} {L:Slots} {Q:Exit→Act→World→Prop}
theorem TriM.seti {F Hs:List Atom}{ops:Array Oper}{m:Nat}{ls:Array Bool}(k:Nat){ik:IntKind}{i:Int}(j:Int)(h:look L k=some (.int ik i))(hi:i=j)(t:TriM P w0 ops Q Hs m ls n ((k, .int ik j)::L) F):TriM P w0 ops Q Hs m ls n L F:=TriM.setv k _ h (by rw [hi]) t
theorem TriM.a3 {ops:Array Oper}{Hs F:List Atom}{m:Nat}{ls:Array Bool}(i j l:Nat){oi oj ol:Oper}(hoi:ops.toList[i]? =some oi)(hoj:ops.toList[j]? =some oj)(hok:ops.toList[l]? =some ol)(hgi:oi.guard=none)(hgj:oj.guard=none)(hgk:ol.guard=none)(hr:decide (Region.ready .any ops ls= [i,j,l])=true)
  (hi:Tri w0 (OpG P oi (MixK P w0 ops Q Hs m (ls.setIfInBounds i true)) (fun _ _ _=>False)) n L (Hs++F))
  (hj:Tri w0 (OpG P oj (MixK P w0 ops Q Hs m (ls.setIfInBounds j true)) (fun _ _ _=>False)) n L (Hs++F))
  (hk:Tri w0 (OpG P ol (MixK P w0 ops Q Hs m (ls.setIfInBounds l true)) (fun _ _ _=>False)) n L (Hs++F)):TriM P w0 ops Q Hs (m+1) ls n L F:=fun a ha=>by
 have hr':=of_decide_eq_true hr
 refine⟨fun h0=>(by rw [h0] at hr';cases hr'),fun q hq=>?_⟩
 rw [hr'] at hq
 simp at hq
 rcases hq with rfl | rfl | rfl
 ·exact mOp_of (by rw [←Array.getElem?_toList];exact hoi) (by simp [Region.wanted,hgi]) ha hi
 ·exact mOp_of (by rw [←Array.getElem?_toList];exact hoj) (by simp [Region.wanted,hgj]) ha hj
 ·exact mOp_of (by rw [←Array.getElem?_toList];exact hok) (by simp [Region.wanted,hgk]) ha hk
end
section
variable {P:Program} {w0:World} {n:NT} {L:Slots} {H H1 H2:List Atom} {G:Act→World→Prop}
theorem Tri.merge {A B C:Atom}(pA:Pull H A H1)(pB:Pull H1 B H2)
  (hC: ∀(w:World) (s1 s2:Nat→Prop),(∀b,s1 b→s2 b→False)→A (res w s1)→B (res w s2)→C (res w (fun b=>s1 b∨s2 b)))
  (k:Tri w0 G n L (C::H2)):Tri w0 G n L H:=fun a w ha hw=>by
 obtain⟨he,s1,h1,h2,h3⟩:=hw.pull pA
 obtain⟨s2,g1,g2,g3⟩:=Sat.pull pB h3
 refine k a w ha ⟨he,fun b=>s1 b∨s2 b,fun b hb=>⟨trivial,hb.elim (fun h=>(h1 b h).2) (fun h=>(g1 b h).2)⟩,hC w s1 s2 (fun b x y=>(g1 b y).1.2 x) h2 g2,g3.mono (fun b _ hb=>⟨trivial,fun h=>h.elim (fun x=>hb.1.2 x) (fun y=>hb.2 y)⟩)⟩
theorem Tri.pure_ {A:Atom}(hA: ∀h,A h)(k:Tri w0 G n L (A::H)):Tri w0 G n L H:=fun a w ha hw=>
 k a w ha ⟨hw.1,fun _=>False,fun _ h=>h.elim,hA _,hw.2.mono (fun _ _ _=>⟨trivial,fun h=>h⟩)⟩
def manyRd (l:List (Value×Nat×List Value)):Atom:=fun h=> ∀x∈l,Rd h x.1 x.2.1 x.2.2
theorem manyRd_nil (h:PH):manyRd [] h:=fun x hx=>by simp at hx
theorem manyRd_add {l:List (Value×Nat×List Value)}{v:Value}{m:Nat}{xs:List Value}(w:World)(s1 s2:Nat→Prop)(h1:manyRd l (res w s1))(h2:Rd (res w s2) v m xs):manyRd (l++ [(v,m,xs)]) (res w (fun b=>s1 b∨s2 b)):=by
 have up1: ∀b o,res w s1 b=some o→res w (fun b=>s1 b∨s2 b) b=some o:=fun b o h=>by
  have:=res_some h
  unfold res;rw [if_pos (.inl this.1)];exact this.2
 have up2: ∀b o,res w s2 b=some o→res w (fun b=>s1 b∨s2 b) b=some o:=fun b o h=>by
  have:=res_some h
  unfold res;rw [if_pos (.inr this.1)];exact this.2
 intro x hx
 rcases List.mem_append.1 hx with hx | hx
 ·exact(h1 x hx).mono up1
 ·simp at hx
  subst hx
  exact h2.mono up2
theorem rdw_many {l:List (Value×Nat×List Value)}{v:Value}{m:Nat}{xs:List Value}(p:Pull H (manyRd l) H1)(hx:(v,m,xs)∈l): ∀w,St w0 w H→RdW w v m xs:=fun w hw=>by
 obtain⟨s,hA⟩:=(hw.pull p).2.head
 exact(hA _ hx).mono res_hp
end
theorem Sat.cut {w:World}: ∀{As H:List Atom} {av:Nat→Prop},Sat w av (As++H)→ ∃s:Nat→Prop,(∀b,s b→av b∧b<w.heap.size)∧Sat w s H∧Sat w av (As++ [Ex (res w s)])
 | [],H,av,h=>⟨fun b=>av b∧b<w.heap.size,fun _ hb=>hb,h.lt,fun b=>av b∧b<w.heap.size,fun _ hb=>hb,rfl,trivial⟩
 | A::As,H,av,⟨t,h1,h2,h3⟩=>by
  obtain⟨s,g1,g2,g3⟩:=Sat.cut (As:=As) h3
  exact⟨s,fun b hb=>⟨(g1 b hb).1.1,(g1 b hb).2⟩,g2,t,h1,h2,g3⟩
theorem Sat.uncut {w w':World}{s:Nat→Prop}(hs: ∀b,s b→b<w.heap.size): ∀(H:List Atom) (av:Nat→Prop),Sat w' av (H++ [Ex (res w s)])→(∀b,s b→w'.heap[b]? =w.heap[b]? ∧av b)∧Sat w' (fun b=>av b∧ ¬s b) H
 | [],av,h=>by
  obtain⟨t,h1,h2,_⟩:=h
  have h2':res w' t=res w s:=h2
  refine⟨fun b hb=>?_,trivial⟩
  have e:=congrFun h2' b
  unfold res at e
  rw [if_pos hb] at e
  split at e
  ·exact⟨e,(h1 b ‹_›).1⟩
  ·have:=hs b hb
   simp [this] at e
 | A::H,av,h=>by
  obtain⟨t,h1,h2,h3⟩:=h
  obtain⟨g1,g2⟩:=Sat.uncut hs H _ h3
  exact⟨fun b hb=>⟨(g1 b hb).1,(g1 b hb).2.1⟩,t,fun b hb=>⟨⟨(h1 b hb).1,fun hl=>(g1 b hl).2.2 hb⟩,(h1 b hb).2⟩,h2,g2.mono (fun b _ hb=>⟨⟨hb.1.1,hb.2⟩,hb.1.2⟩)⟩
theorem Spec.of {P:Program}{f:FuncId}{args:Array Value}{Pre:List Atom}{R:Value→List Atom→Prop}
  (h: ∀w h0,St w w (Pre++ [Ex h0])→Calls P f args w (Ret fun v w'=> ∃H',R v H'∧St w w' (H'++ [Ex h0]))):Spec P f args Pre R:=fun w0 w H hw=>by
 obtain⟨s,h1,h2,h3⟩:=Sat.cut hw.2
 refine(h w _ ⟨Env.refl w,h3⟩).mono ?_
 intro e w' he
 cases e with
 | returned v=>
  obtain⟨H',g1,g2⟩:=he
  obtain⟨k1,k2⟩:=Sat.uncut (fun b hb=>(h1 b hb).2) H' _ g2.2
  refine⟨H',g1,hw.1.trans g2.1,Sat.append (av1:=fun b=>True∧ ¬s b) (av2:=s) (fun _ _=>trivial) (fun _ _=>trivial) (fun b x y=>x.2 y) k2 ?_⟩
  exact Sat.congr (w:=w) g2.1.size (fun b hb _=>(k1 b hb).1) h2
 | panicked c=>exact he.elim
 | outgrown=>exact he.elim
theorem Spec.mono {P:Program}{f:FuncId}{args:Array Value}{Pre:List Atom}{R R':Value→List Atom→Prop}(h:Gv.Spec P f args Pre R)(hR: ∀r H',R r H'→R' r H'):Gv.Spec P f args Pre R':=fun w0 w H hw=>by
 refine(h w0 w H hw).mono ?_
 intro e w' he
 cases e with
 | returned v=>obtain⟨H',g1,g2⟩:=he;exact⟨H',hR _ _ g1,g2⟩
 | panicked c=>exact he.elim
 | outgrown=>exact he.elim
section
variable {P:Program} {w0:World} {n:NT} {L:Slots} {H H' H1 H2:List Atom} {Q:Exit→Act→World→Prop} {K:Act→World→Prop} {o:Oper} {d:Nat}
variable {ty:TypeId} {pos:String} {aft:Array Edge} {g:Option (Nat×Bool)}
theorem rd_none {h:PH}{m c:Nat}{xs:List Value}(hr:Rd h (.slice none m c) m xs):xs= [] :=by
 obtain⟨A',c',hv',_,hcell⟩:=hr
 cases hv'
 cases xs with
 | nil=>rfl
 | cons y ys=>obtain⟨a,ha,_⟩:=hcell 0 y rfl;cases ha
theorem eqlSN_run {t e:TypeId}[ht:TSlice P t e](w:World)(A:Option Addr)(m c:Nat):(binOp .eql t (.slice A m c) (.slice none 0 0)).run P w= .ok (.bool A.isNone) w:=by
 have h: ∀d:Nat,(Op.equalIn (d+1) t (.slice A m c) (.slice none 0 0)).run P w= .ok A.isNone w:=fun d=>by
  cases A<;>simp [Op.equalIn,run_underlying ht.ok]
 simp only [binOp]
 simp [Op.equal,Op.maxDepth,h 9999]
theorem o_eqlSN {t e t2:TypeId}{x y:Operand}{v:Value}{m:Nat}{xs:List Value}[ht:TSlice P t e](hx:ev L x=some v)(hy:ev L y=some (.slice none 0 0))(hr: ∀w,St w0 w H→RdW w v m xs)(hn:Nat.blt d n=true)
  (k: ∀b:Bool,(b=true→xs= [])→Tri w0 K n ((d, .bool b)::L) H):
  Tri w0 (OpG P ⟨some d, .binOp .eql t x y t2,ty,pos,aft,g⟩ K Q) n L H:=
 Tri.valW rfl hn (fun a w ha hw=>by
  obtain⟨A,c,rfl,hc,_⟩:=id (hr w hw)
  refine⟨.bool A.isNone,w, ?_,fun a' ha'=>k A.isNone (fun hA=>?_) a' w ha' hw⟩
  ·simp only [execOp,ha.eval hx,ha.eval hy]
   simp [eqGuard,eqlSN_run (P:=P) (t:=t)]
  ·cases A with
   | none=>exact rd_none (hr w hw)
   | some a=>cases hA)
theorem o_loadAggOwn {T e:TypeId}{sz m i size:Nat}{x:Operand}{u:Value}{xs ys:List Value}[TAgg P T sz](hx:ev L x=some (.pointer (some (eaddr u i))))(p:Pull H (own e size u m xs) H')(hv:(xs.drop i).take sz=ys)(hl:ys.length=sz)(hn:Nat.blt d n=true)(k:Tri w0 K n ((d, .agg ys.toArray)::L) H):
  Tri w0 (OpG P ⟨some d, .load T x,ty,pos,aft,g⟩ K Q) n L H:=
 Tri.val rfl hn _ (fun a w ha hw=>by
  obtain⟨s,hs⟩:=(hw.pull p).2.head
  have hr:=own_Rd hs
  have hq:(loadVar T (eaddr u i)).run P w= .ok (.agg ys.toArray) w:=load_agg hl (fun j v hj=>by
   rw [←hv,List.getElem?_take] at hj
   split at hj
   ·rw [List.getElem?_drop] at hj
    rw [eaddr_add]
    exact hr.cell hj
   ·cases hj)
  simp [execOp,ha.eval hx,Instr.loadAt,Instr.sureAddr,hq]) k
theorem rdw_blkAt {b o':Nat}{T:TypeId}{cur xs:List Value}{m cap:Nat}(p:Pull H (blk b T cur) H')(hc:m≤cap∧cap≤9223372036854775807)(hx:(cur.drop o').take xs.length=xs): ∀w,St w0 w H→RdW w (.slice (some ⟨b,o',none⟩) m cap) m xs:=fun w hw=>by
 obtain⟨s,hs⟩:=(hw.pull p).2.head
 have hb:=(res_some hs).2
 refine⟨_,cap,rfl,hc,fun j u hu=>⟨_,rfl,_,_,_,hb, ?_, ?_⟩⟩
 ·rw [Addr.add_lit]
 ·rw [Addr.add_lit]
  rw [←hx,List.getElem?_take] at hu
  split at hu
  ·rw [List.getElem?_drop] at hu;simpa using hu
  ·cases hu
theorem Tri.shut {G:Act→World→Prop}{e:TypeId}{size m:Nat}{v:Value}{xs:List Value}(p:Pull H (own e size v m xs) H')(k: ∀h0,own e size v m xs h0→Tri w0 G n L (Ex h0::H')):Tri w0 G n L H:=Tri.open p k
theorem Tri.join {G:Act→World→Prop}{e:TypeId}{m:Nat}{v:Value}{xs:List Value}{l:List (Value×Nat×List Value)}(pA:Pull H (manyRd l) H1)(pB:Pull H1 (own e 1 v m xs) H2)(k:Tri w0 G n L (manyRd (l++ [(v,m,xs)])::H2)):Tri w0 G n L H:=
 Tri.merge pA pB (fun w s1 s2 _ h1 h2=>manyRd_add w s1 s2 h1 (own_Rd h2)) k
theorem own_one {e:TypeId}{size m:Nat}{v:Value}{xs:List Value}{h:PH}(ho:own e size v m xs h): ∃A c,v= .slice A m c:=by
 rcases ho.2 with ⟨rfl,rfl⟩ | ⟨g',cap,cur,hv,_⟩
 ·exact⟨none,0,rfl⟩
 ·exact⟨_,cap,hv⟩
theorem Tri.shape {G:Act→World→Prop}{e:TypeId}{size m:Nat}{v:Value}{xs:List Value}(p:Pull H (own e size v m xs) H')(k:(∃A c,v= .slice A m c)→Tri w0 G n L H):Tri w0 G n L H:=Tri.know p (fun h ho=>own_one ho) (fun hv=>k hv)
end
def FR (ro:Option Nat):Fence:={ fn:=fun _=>True,depth:=none,alive:=false,round:=ro }
def Code.wr (ro:Option Nat)(P:Program)(c:Code)(Q:Exit→Act→World→Prop):Act→World→Prop:=c.wpIn (FR ro) 0 P Q
section
variable {P:Program} {w0:World} {n:NT} {L:Slots} {H:List Atom} {Q:Exit→Act→World→Prop} {G:Act→World→Prop} {ro:Option Nat}
theorem Tri.wr {c:Code}(h:Tri w0 (Code.wr none P c Q) n L H):Tri w0 (c.wp P Q) n L H:=fun a w ha hw=>wpIn_wide.1 (h a w ha hw)
theorem TriR.seq {c d:Code}(h:Tri w0 (Code.wr ro P c (Exit.then (Code.wr ro P d Q) Q)) n L H):Tri w0 (Code.wr ro P (Code.seq c d) Q) n L H:=fun a w ha hw=>wpIn_seq (h a w ha hw)
theorem TriR.block {id:Nat}{c:Code}(h:Tri w0 (Code.wr ro P c (Exit.inBlock id Q)) n L H):Tri w0 (Code.wr ro P (Code.block id c) Q) n L H:=fun a w ha hw=>wpIn_block (h a w ha hw)
theorem TriR.skip (h:Tri w0 (Q .normal) n L H):Tri w0 (Code.wr ro P Code.skip Q) n L H:=fun a w ha hw=>wpIn_skip (h a w ha hw)
theorem TriR.exit {id:Nat}(h:Tri w0 (Q (.exit id)) n L H):Tri w0 (Code.wr ro P (Code.exit id) Q) n L H:=fun a w ha hw=>wpIn_exit (h a w ha hw)
theorem TriR.ret (h:Tri w0 (Q .ret) n L H):Tri w0 (Code.wr ro P Code.ret Q) n L H:=fun a w ha hw=>wpIn_ret (h a w ha hw)
theorem TriR.cond {c:Operand}{x y:Code}{b:Bool}(hc:ev L c= .some (.bool b))(ht:b=true→Tri w0 (Code.wr ro P x Q) n L H)(hf:b=false→Tri w0 (Code.wr ro P y Q) n L H):Tri w0 (Code.wr ro P (Code.cond c x y) Q) n L H:=fun a w ha hw=>
 wpIn_cond_split (ha.eval hc) (fun e=>ht e a w ha hw) (fun e=>hf e a w ha hw)
theorem TriR.condD {c:Operand}{x y:Code}{p:Prop}{dp:Decidable p}(hc:ev L c= .some (.bool (@decide p dp)))(ht:p→Tri w0 (Code.wr ro P x Q) n L H)(hf: ¬p→Tri w0 (Code.wr ro P y Q) n L H):Tri w0 (Code.wr ro P (Code.cond c x y) Q) n L H:=
 TriR.cond hc (fun e=>ht (of_decide_eq_true e)) (fun e=>hf (of_decide_eq_false e))
theorem TriR.condT {c:Operand}{x y:Code}{b:Bool}(hc:ev L c= .some (.bool b))(hb:b=true)(h:Tri w0 (Code.wr ro P x Q) n L H):Tri w0 (Code.wr ro P (Code.cond c x y) Q) n L H:=TriR.cond hc (fun _=>h) (fun e=>by rw [hb] at e;cases e)
theorem TriR.condF {c:Operand}{x y:Code}{b:Bool}(hc:ev L c= .some (.bool b))(hb:b=false)(h:Tri w0 (Code.wr ro P y Q) n L H):Tri w0 (Code.wr ro P (Code.cond c x y) Q) n L H:=TriR.cond hc (fun e=>by rw [hb] at e;cases e) (fun _=>h)
theorem TriR.loop {α:Type}{c:Code}(m:α→Nat)(Lx:α→Slots)(Hx:α→List Atom)(x0:α)(hL:SubL L (Lx x0))(hH: ∀w,St w0 w H→St w0 w (Hx x0))
  (h: ∀x mx,mx=m x→Tri w0 (Code.wr ro P c (Exit.then (fun a w=> ∃y,m y<mx∧Has a n (Lx y)∧St w0 w (Hx y)) Q)) n (Lx x) (Hx x)):Tri w0 (Code.wr ro P (Code.loop c) Q) n L H:=fun a w ha hw=>by
 intro b k cs hro hb hr
 have key: ∀q x,m x=q→ ∀a w,Has a n (Lx x)→St w0 w (Hx x)→
   ∃e a' w',Q e a' w'∧ArrivesIn (Machine.fenced P (FR ro)) P (lone (b.atR a (.code c:: .inLoop c::k)) cs w) b k cs e a' w':=by
  intro q
  induction q using Nat.strongRecOn with
  | _ q ih=>
   intro x hx a w ha hw
   obtain⟨e,a1,w1,hq,harr⟩:=h x (m x) rfl a w ha hw b (.inLoop c::k) cs hro hb hr
   cases e with
   | normal=>
    obtain⟨y,hlt,hb',hc⟩:=hq
    obtain⟨e2,a2,w2,hq2,harr2⟩:=ih (m y) (by omega) y rfl a1 w1 hb' hc
    exact⟨e2,a2,w2,hq2, .of_steps (StepsIn.trans harr (.one (fenced_calm hb hr rfl) stepR_inLoop)) harr2⟩
   | exit id=>exact⟨_,a1,w1,hq, .pass (x:= .inLoop c) rfl (fun _ _=> .inl (by simp)) harr⟩
   | goto l=>exact⟨_,a1,w1,hq, .pass (x:= .inLoop c) rfl (fun _ _=> .inl (by simp)) harr⟩
   | ret=>exact⟨_,a1,w1,hq, .pass (x:= .inLoop c) rfl (fun _ _=> .inl (by simp)) harr⟩
   | panic ch=>exact⟨_,a1,w1,hq, .pass (x:= .inLoop c) rfl (fun _ _=> .inl (by simp)) harr⟩
   | outgrown=>exact⟨_,a1,w1,hq, .pass (x:= .inLoop c) rfl (fun _ _=> .inl (by simp)) harr⟩
 obtain⟨e,a',w',hq,harr⟩:=key _ x0 rfl a w (ha.sub hL) (hH w hw)
 exact⟨e,a',w',hq, .of_steps (.one (fenced_calm hb hr rfl) stepR_loop) harr⟩
theorem rowsIn_FR {row:String}{args:Array Value}{w:World}{R:Value→World→Prop}(h:Rows P row args w R):RowsIn (FR ro) 0 P row args w R:=fun c cs _=>by
 obtain⟨v,w',r,s⟩:=h c cs
 exact⟨v,w',r,(stepsIn_wide (P:=P)).2 s⟩
theorem callsIn_FR {f:FuncId}{args:Array Value}{w:World}{R:Ending→World→Prop}(h:Calls P f args w R):CallsIn (FR ro) 0 P f args w R:=(callsIn_wide (n:=0)).2 h
theorem wpIn_of_wp {o:Oper}{a:Act}{w:World}{K:Act→World→Prop}(hd: ∀c,o.op≠ .defer c)(h:o.wp P a w K (fun _ _ _=>False)):o.wpIn (FR ro) 0 P a w K Q:=by
 refine⟨fun _ _=>trivial, ?_⟩
 rw [Oper.semAt_eq _ _ _ hd]
 unfold Oper.wp at h
 generalize (execOp a.eval o).run P w=r at h
 cases r with
 | halt x w'=>cases x<;>exact h.elim
 | ok nx w'=>
  cases nx with
  | value u=>exact h
  | skip=>exact h
  | defer d=>exact h
  | enter f args=>
   refine⟨fun hd=>(nomatch hd),CallsIn.mono (callsIn_FR h) ?_⟩
   intro e w'' he
   cases e with
   | returned u=>exact he
   | panicked c=>exact he.elim
   | outgrown=>obtain⟨_,_,he⟩:=he;exact he.elim
  | row r args=>exact⟨fun hd=>(nomatch hd),rowsIn_FR h⟩
  | _=>exact h.elim
def wlr (ro:Option Nat)(P:Program)(ops:Array Oper)(Q:Exit→Act→World→Prop):List Oper→Act→World→Prop
 | [],a,w=>Q .normal a w
 | o::rest,a,w=>if Region.wanted o (yielded ops a.tmps)=true then o.wpIn (FR ro) 0 P a w (wlr ro P ops Q rest) Q else wlr ro P ops Q rest (a.put o.dst undef) w
theorem wlr_ops {ops:Array Oper}: ∀(rest:List Oper) (k:Nat) (a:Act) (w:World),ops.toList.drop k=rest→wlr ro P ops Q rest a w→wpOpsIn (FR ro) 0 P ops Q (List.range' k rest.length) a w
 | [],k,a,w,_,h=>h
 | o::rest,k,a,w,hk,h=>by
  have hlt:k<ops.toList.length:=by
   have:=congrArg List.length hk
   simp at this ⊢;omega
  have ho:ops[k]? =some o:=by
   rw [←Array.getElem?_toList, ←Nat.add_zero k, ←List.getElem?_drop,hk];rfl
  have hk':ops.toList.drop (k+1)=rest:=by
   rw [List.drop_eq_getElem_cons hlt] at hk
   exact(List.cons.inj hk).2
  rw [lCn,List.range'_succ]
  simp only [wpOpsIn,ho]
  unfold wlr at h
  split
  ·rename_i hw
   rw [if_pos hw] at h
   exact Oper.wpIn_mono (fun a' w'=>wlr_ops rest (k+1) a' w' hk') h
  ·rename_i hw
   rw [if_neg hw] at h
   exact⟨fun _ _=>trivial,wlr_ops rest (k+1) _ w hk' h⟩
theorem TriR.region {id:Nat}{l:List Oper}(h:Tri w0 (wlr ro P l.toArray Q l) n L H):Tri w0 (Code.wr ro P (Code.region id l.toArray false) Q) n L H:=fun a w ha hw=>by
 refine wpIn_region ?_
 have:=wlr_ops l 0 a w rfl (h a w ha hw)
 rw [←List.range_eq_range'] at this
 simpa using this
theorem TriR.nil {ops:Array Oper}(h:Tri w0 (Q .normal) n L H):Tri w0 (wlr ro P ops Q []) n L H:=h
def nodefer (o:Oper):Bool:=match o.op with | .defer _=>false | .call { callee:= .value (.tmp _), .. }=>false | _=>true
theorem nodefer_spec {o:Oper}(h:nodefer o=true): ∀c,o.op≠ .defer c:=fun c e=>by simp [nodefer,e] at h
theorem opG_of {o:Oper}{a:Act}{w:World}{K:Act→World→Prop}(hnd:nodefer o=true)(h:OpG P o K (fun _ _ _=>False) a w):o.wpIn (FR ro) 0 P a w K Q:=by
 rcases h with h | ⟨_,_,_,h⟩
 ·exact wpIn_of_wp (nodefer_spec hnd) h
 ·exact h.elim
theorem TriR.op {ops:Array Oper}{o:Oper}{rest:List Oper}(hg:o.guard=none)(hnd:nodefer o=true)(h:Tri w0 (OpG P o (wlr ro P ops Q rest) (fun _ _ _=>False)) n L H):Tri w0 (wlr ro P ops Q (o::rest)) n L H:=fun a w ha hw=>by
 unfold wlr
 rw [if_pos (by simp [Region.wanted,hg])]
 exact opG_of hnd (h a w ha hw)
theorem TriR.opYes {ops:Array Oper}{o:Oper}{rest:List Oper}{j:Nat}{b b':Bool}(hg:o.guard=some (j,b))(hy:yl L ops j=some b')(hb:b'=b)(hnd:nodefer o=true)(h:Tri w0 (OpG P o (wlr ro P ops Q rest) (fun _ _ _=>False)) n L H):Tri w0 (wlr ro P ops Q (o::rest)) n L H:=fun a w ha hw=>by
 subst hb
 unfold wlr
 rw [if_pos (by simp [Region.wanted,hg,yl_yielded ha hy])]
 exact opG_of hnd (h a w ha hw)
theorem TriR.opNo {ops:Array Oper}{o:Oper}{rest:List Oper}{j:Nat}{b b' c:Bool}{d:Nat}(hg:o.guard=some (j,b))(hd:o.dst=some d)(hn:Nat.blt d n=true)(hy:yl L ops j=some b')(hb:b'=c)(hc:(c !=b)=true)(h:Tri w0 (wlr ro P ops Q rest) n ((d,undef)::L) H):Tri w0 (wlr ro P ops Q (o::rest)) n L H:=fun a w ha hw=>by
 subst hb
 have hne:b'≠b:=by simpa using hc
 unfold wlr
 rw [if_neg (by simp [Region.wanted,hg,yl_yielded ha hy,hne]),hd]
 exact h _ w (ha.put hn _) hw
theorem TriR.opNoU {ops:Array Oper}{o:Oper}{rest:List Oper}{j:Nat}{b:Bool}{d:Nat}(hg:o.guard=some (j,b))(hyu:yu L ops j=true)(hd:o.dst=some d)(hn:Nat.blt d n=true)(h:Tri w0 (wlr ro P ops Q rest) n ((d,undef)::L) H):Tri w0 (wlr ro P ops Q (o::rest)) n L H:=fun a w ha hw=>by
 unfold wlr
 rw [if_neg (by rw [yu_wanted ha hg hyu];simp),hd]
 exact h _ w (ha.put hn _) hw
theorem anyIn_of_m {ops:Array Oper}{md:Region.Mode}{DD:WP→Prop}(hnd:ops.toList.all nodefer=true): ∀(f:Nat) (listed:Array Bool) (a:Act) (D:WP) (w:World),D w→mAny P md ops DD Q f listed a D→wpAnyIn (FR ro) 0 P md ops Q f listed a w
 | 0,listed,a,D,w,hw,h=>⟨h.1,h.2 w hw⟩
 | f+1,listed,a,D,w,hw,h=>by
  refine⟨fun h0=>h.1 h0 w hw,fun i hi=>?_⟩
  have hs:=h.2 i hi
  unfold mOp at hs
  unfold wpOpIn
  cases ho:ops[i]? with
  | none=>simp only [ho] at hs ⊢;exact anyIn_of_m hnd f _ _ _ _ hw hs
  | some o=>
   simp only [ho] at hs ⊢
   have hno:nodefer o=true:=by
    rw [←Array.getElem?_toList] at ho
    exact List.all_eq_true.1 hnd o (List.mem_of_getElem? ho)
   by_cases hwt:Region.wanted o (yielded ops a.tmps)=true
   ·rw [if_pos hwt] at hs ⊢
    refine Oper.wpIn_mono ?_ (wpIn_of_wp (nodefer_spec hno) (hs w hw))
    rintro a' w' ⟨D',_,hd,hk⟩
    exact anyIn_of_m hnd f _ _ _ _ hd hk
   ·rw [if_neg hwt] at hs ⊢
    exact⟨fun _ _=>trivial,anyIn_of_m hnd f _ _ _ _ hw hs⟩
theorem TriR.mix (Hs:List Atom){id:Nat}{l:List Oper}{F:List Atom}[hm:TMixed P](p:Pulls H Hs F)(hnd:l.all nodefer=true)(h:TriM P w0 l.toArray Q Hs l.length (Array.replicate l.length false) n L F):Tri w0 (Code.wr ro P (Code.region id l.toArray true) Q) n L H:=fun a w ha hw=>by
 refine wpIn_region_any hm.ok ?_
 have:=anyIn_of_m (ro:=ro) hnd _ _ _ _ { w with drawn:=w.drawn+1 } ((hw.pulls p).drawn (w.drawn+1)) (h a ha)
 simp only [List.size_toArray];exact this
end
def lpA (l:Nat)(r:Loop):Atom:=fun h=>h l=some (.loop r)
def dfA (D:Nat):Atom:=fun h=>h D=some (.deferred (some []))
def mark (D:Nat):Deferred:={ target:= .collected D,args:= #[] }
def star (As:List Atom):Atom:=fun h=> ∃(w:World) (s:Nat→Prop),h=res w s∧(∀b,s b→b<w.heap.size)∧Sat w s As
def exA {α:Type}(A:α→Atom):Atom:=fun h=> ∃x,A x h
theorem Sat.split {w:World}: ∀{As H:List Atom} {av:Nat→Prop},Sat w av (As++H)→ ∃s:Nat→Prop,(∀b,s b→av b∧b<w.heap.size)∧Sat w s As∧Sat w (fun b=>av b∧ ¬s b) H
 | [],H,av,h=>⟨fun _=>False,fun _ h=>h.elim,trivial,h.mono (fun _ _ hb=>⟨hb,fun x=>x⟩)⟩
 | A::As,H,av,⟨t,h1,h2,h3⟩=>by
  obtain⟨s,g1,g2,g3⟩:=Sat.split (As:=As) h3
  refine⟨fun b=>t b∨s b,fun b hb=>hb.elim (fun h=>h1 b h) (fun h=>⟨(g1 b h).1.1,(g1 b h).2⟩),⟨t,fun b hb=>⟨.inl hb,(h1 b hb).2⟩,h2,g2.mono (fun b _ hb=>⟨.inr hb,(g1 b hb).1.2⟩)⟩,g3.mono (fun b _ hb=>⟨hb.1.1,fun h=>h.elim hb.1.2 hb.2⟩)⟩
theorem Sat.move {w w2:World}: ∀{As:List Atom} {s2 t:Nat→Prop},(∀b,s2 b→b<w2.heap.size→t b∧w.heap[b]? =w2.heap[b]?)→Sat w2 s2 As→Sat w t As
 | [],_,_,_,_=>trivial
 | A::As,s2,t,h,⟨s,g1,g2,g3⟩=>by
  refine⟨s,fun b hb=>⟨(h b (g1 b hb).1 (g1 b hb).2).1, ?_⟩, ?_,Sat.move (s2:=fun b=>s2 b∧ ¬s b) (fun b hb hl=>⟨⟨(h b hb.1 hl).1,hb.2⟩,(h b hb.1 hl).2⟩) g3⟩
  ·have e:=(h b (g1 b hb).1 (g1 b hb).2).2
   rw [Array.getElem?_eq_getElem (g1 b hb).2] at e
   exact(Array.getElem?_eq_some_iff.1 e).1
  ·rw [res_congr (w:=w2) (w':=w) (s:=s) (fun b hb=>(h b (g1 b hb).1 (g1 b hb).2).2)];exact g2
theorem Sat.star {w:World}{As H:List Atom}{av:Nat→Prop}(h:Sat w av (As++H)):Sat w av (star As::H):=by
 obtain⟨s,h1,h2,h3⟩:=Sat.split h
 exact⟨s,h1,⟨w,s,rfl,fun b hb=>(h1 b hb).2,h2⟩,h3⟩
theorem Sat.unstar {w:World}{As H:List Atom}{av:Nat→Prop}(h:Sat w av (Gv.star As::H)):Sat w av (As++H):=by
 obtain⟨t,h1,⟨w2,s2,e,hs2,hsat⟩,h3⟩:=h
 refine Sat.append (av1:=t) (av2:=fun b=>av b∧ ¬t b) (fun b hb=>(h1 b hb).1) (fun b hb=>hb.1) (fun b x y=>y.2 x) (Sat.move (w2:=w2) (s2:=s2) (fun b hb hl=>?_) hsat) h3
 have eb:=congrFun e b
 unfold res at eb
 rw [if_pos hb,Array.getElem?_eq_getElem hl] at eb
 split at eb
 ·exact⟨‹_›,by rw [eb,Array.getElem?_eq_getElem hl]⟩
 ·cases eb
section
variable {P:Program} {w0:World} {n:NT} {L:Slots} {H H':List Atom} {Q:Exit→Act→World→Prop} {G:Act→World→Prop} {ro:Option Nat}
theorem St.star {w:World}{As:List Atom}(h:St w0 w (As++H)):St w0 w (Gv.star As::H):=⟨h.1,h.2.star⟩
theorem St.unstar {w:World}{As:List Atom}(h:St w0 w (Gv.star As::H)):St w0 w (As++H):=⟨h.1,h.2.unstar⟩
theorem St.exA {α:Type}{w:World}{A:α→Atom}(h:St w0 w (Gv.exA A::H)): ∃x,St w0 w (A x::H):=by
 obtain⟨he,s,h1,⟨x,h2⟩,h3⟩:=h
 exact⟨x,he,s,h1,h2,h3⟩
theorem St.toExA {α:Type}{w:World}{A:α→Atom}(x:α)(h:St w0 w (A x::H)):St w0 w (Gv.exA A::H):=h.imp (fun _ hA=>⟨x,hA⟩)
theorem Tri.unstar {As:List Atom}(p:Pull H (Gv.star As) H')(h:Tri w0 G n L (As++H')):Tri w0 G n L H:=Tri.conv (fun w hw=>(hw.pull p).unstar) h
theorem Tri.exA {α:Type}{A:α→Atom}(p:Pull H (Gv.exA A) H')(h: ∀x,Tri w0 G n L (A x::H')):Tri w0 G n L H:=Tri.ex p (fun _ h=>h) h
theorem St.aside {w:World}{X R:List Atom}(h:St w0 w (X++R)): ∃h0,St w0 w (X++ [Ex h0])∧ ∀(w':World) (X':List Atom),St w0 w' (X'++ [Ex h0])→St w0 w' (X'++R):=by
 obtain⟨s,h1,h2,h3⟩:=Sat.cut h.2
 refine⟨res w s,⟨h.1,h3⟩,fun w' X' hX=>⟨hX.1, ?_⟩⟩
 obtain⟨k1,k2⟩:=Sat.uncut (fun b hb=>(h1 b hb).2) X' _ hX.2
 refine Sat.append (av1:=fun b=>True∧ ¬s b) (av2:=s) (fun _ _=>trivial) (fun _ _=>trivial) (fun b x y=>x.2 y) k2 ?_
 exact Sat.move (w2:=w) (s2:=s) (fun b hb _=>⟨hb,(k1 b hb).1⟩) h2
def YSpec (P:Program)(w0:World)(l:Nat)(args:Array Value)(A B C:Atom):Prop:=
 ∀w H,St w0 w (A::H)→YieldAt Fence.wide 0 P l args w (fun e w'=>(e= .returned (.bool true)∧St w0 w' (B::H))∨(e= .returned (.bool false)∧St w0 w' (C::H)))
theorem TriR.yield {ops:Array Oper}{rest:List Oper}{x:Operand}{l d:Nat}{args:List Operand}{ts:Array TypeId}{vs:List Value}{A B C:Atom}{ty:TypeId}{pos:String}{aft:Array Edge}(hy:YSpec P w0 l vs.toArray A B C)
  (hx:ev L x=some (.func (.yield l) #[] #[])) (hargs:evs L args vs) (hn:Nat.blt d n=true) (p:Pull H A H')
  (kt:Tri w0 (wlr ro P ops Q rest) n ((d, .bool true)::L) (B::H')) (kf:Tri w0 (wlr ro P ops Q rest) n ((d, .bool false)::L) (C::H')):
  Tri w0 (wlr ro P ops Q (⟨some d, .call { callee:= .value x,args:=args.toArray,argTypes:=ts },ty,pos,aft,none⟩::rest)) n L H:=fun a w ha hw=>by
 unfold wlr
 rw [if_pos (by simp [Region.wanted])]
 refine⟨fun _ _=>trivial, ?_⟩
 rw [Oper.semAt_eq _ _ _ (by intro c;simp)]
 obtain⟨fn,tmps,assign,body,hrun,hround⟩:=hy w H' (hw.pull p)
 have hr:(execOp a.eval (⟨some d, .call { callee:= .value x,args:=args.toArray,argTypes:=ts },ty,pos,aft,none⟩:Oper)).run P w= .ok (.round l fn tmps assign body) w:=by
  have he:(List.map a.eval args).toArray=vs.toArray:=by rw [evs.map ha hargs]
  simp [execOp,resolve,Deferred.ofValue,ha.eval hx,invoke,he,hrun]
 rw [hr,Oper.uponIn_round]
 refine⟨fun h=>(nomatch h),RoundIn.mono (F:=Fence.wide) (n:=0) hround ?_⟩
 rintro e w' (⟨rfl,hs⟩ | ⟨rfl,hs⟩)
 ·exact kt _ w' (ha.put hn _) hs
 ·exact kf _ w' (ha.put hn _) hs
def Iter (P:Program)(g:FuncId)(lb:List Value)(C:List Atom)(xs:List (List Value)):Prop:=
 ∀(w0:World) (l:Nat) (I:Nat→Atom) (J:Atom),(∀k vs,xs[k]? =some vs→YSpec P w0 l vs.toArray (I k) (I (k+1)) J)→ ∀w H,St w0 w (I 0::(C++H))→
  Calls P g (#[.func (.yield l) #[] #[]] ++lb.toArray) w (Ret fun _ w'=>St w0 w' (I xs.length::(C++H))∨St w0 w' (J::(C++H)))
def zipL:List Tmp→List Value→Slots→Slots
 | p::ps,v::vs,L=>zipL ps vs ((p,v)::L)
 | _,_,L=>L
theorem Has.zip {n:NT}: ∀(ps:List Tmp) (vs:List Value) {a:Act} {L:Slots},Has a n L→(∀q∈ps,Nat.blt q n=true)→Has { tmps:=(ps.zip vs).foldl (fun t q=>t.setIfInBounds q.1 q.2) a.tmps,defers:=a.defers } n (zipL ps vs L)
 | [],_,_,_,h,_=>h
 | _::_, [],_,_,h,_=>h
 | p::ps,v::vs,a,L,h,hq=>by
  have h1:=h.put (hq p (List.mem_cons_self ..)) v
  exact Has.zip ps vs h1 (fun q hm=>hq q (mCm _ hm))
theorem upd_lp {w:World}{l:Nat}{r:Loop}(r':Loop)(hw:St w0 w (lpA l r::H)):St w0 (w.putObj l (.loop r')) (lpA l r'::H):=by
 refine hw.upd ⟨rfl,rfl,rfl,by simp⟩ (fun s hs hA=>⟨⟨s,fun c hc=>⟨by have:=hs c hc;simpa using this, .inl hc⟩, ?_⟩,fun c hc hl=>?_⟩)
 ·have hb:=res_some (o:= .loop r) hA
  show res _ s l=_
  unfold res;rw [if_pos hb.1]
  exact World.putObj_heap_same (hs l hb.1)
 ·have hb:=res_some (o:= .loop r) hA
  exact World.putObj_heap_other (fun e=>hc (e▸hb.1))
theorem St.lp {w:World}{l:Nat}{r:Loop}(hw:St w0 w (lpA l r::H)):w.heap[l]? =some (.loop r):=by
 obtain⟨s,hs⟩:=hw.2.head
 exact(res_some (o:= .loop r) hs).2
theorem St.df {w:World}{D:Nat}(hw:St w0 w (dfA D::H)):w.heap[D]? =some (.deferred (some [])):=by
 obtain⟨s,hs⟩:=hw.2.head
 exact(res_some (o:= .deferred (some [])) hs).2
theorem St.rot {w:World}{A:Atom}: ∀{X R:List Atom},St w0 w (X++(A::R))→St w0 w (A::(X++R))
 | [],_,h=>h
 | B::X,R,h=>by
  refine⟨h.1,Sat.swap ?_⟩
  exact Sat.under (fun av hs=>(rotS X R av hs)) _ h.2
where
 rotS {w:World} {A:Atom}: ∀(X R:List Atom) (av:Nat→Prop),Sat w av (X++(A::R))→Sat w av (A::(X++R))
  | [],_,_,h=>h
  | B::X,R,av,h=>Sat.swap (Sat.under (fun av hs=>rotS X R av hs) av h)
theorem St.unrot {w:World}{A:Atom}: ∀{X R:List Atom},St w0 w (A::(X++R))→St w0 w (X++(A::R))
 | X,R,h=>⟨h.1,rotU X R _ h.2⟩
where
 rotU {w:World} {A:Atom}: ∀(X R:List Atom) (av:Nat→Prop),Sat w av (A::(X++R))→Sat w av (X++(A::R))
  | [],_,_,h=>h
  | B::X,R,av,h=>Sat.under (fun av hs=>rotU X R av hs) av (Sat.swap h)
def RdQ {α β:Type}(w0:World)(idx:α→Nat)(Hx:α→List Atom)(Jc:β→Code)(Hj:β→List Atom)(k:Nat)(h0:PH):Exit→Act→World→Prop
 | .normal,_,w=> ∃y,idx y=k+1∧St w0 w (Hx y++ [Ex h0])
 | .ret,_,w=> ∃y,Jc y= .ret∧St w0 w (Hj y++ [Ex h0])
 | .exit id,_,w=> ∃y,Jc y= .exit id∧St w0 w (Hj y++ [Ex h0])
 | _,_,_=>False
theorem TriR.range {α β γ:Type}(idx:α→Nat)(Hx:α→List Atom)(x0:α)(Jc:β→Code)(Hj:β→List Atom)(Lm:α→γ→Slots)(Hm:α→γ→List Atom){g:Operand}{gf:FuncId}{lb:List Value}{C:List Atom}{xs:List (List Value)}{ps:List Tmp}{assign body:Code}[TFn P gf]
  (hit:Iter P gf lb C xs) (hg:ev L g=some (.func (.func gf) #[] lb.toArray)) (h0:idx x0=0) (p:Pulls H (Hx x0++C) H') (hps: ∀v∈xs,v.length=ps.length) (hpn: ∀q∈ps,Nat.blt q n=true)
  (hassign: ∀l x vs,xs[idx x]? =some vs→ ∀h0,Tri w0 (Code.wr (some l) P assign (Exit.then (fun a w=> ∃z:γ,Has a ⟨n.k, []⟩ (Lm x z)∧St w0 w (Hm x z++ [Ex h0])) (fun _ _ _=>False))) ⟨n.k, []⟩ (zipL ps vs L) (Hx x++ [Ex h0]))
  (hbody: ∀l x vs,xs[idx x]? =some vs→ ∀z h0,Tri w0 (Code.wr (some l) P body (RdQ w0 idx Hx Jc Hj (idx x) h0)) ⟨n.k, []⟩ (Lm x z) (Hm x z++ [Ex h0]))
  (hdone: ∀D y,idx y=xs.length→Tri w0 (Q .normal) ⟨n.k,mark D::n.ds⟩ L (dfA D::(Hx y++(C++H'))))
  (hjump: ∀D y,Tri w0 (Code.wr none P (Jc y) Q) ⟨n.k,mark D::n.ds⟩ L (dfA D::(Hj y++(C++H')))):
  Tri w0 (Code.wr none P (Code.rangeFunc g ps.toArray assign body) Q) n L H:=fun a w ha hw=>by
 refine wpIn_rangeFunc (F:=FR none) (n:=0) (fun fn _=>?_)
 let r0:Loop:={ state:= .ready,pending:=none,fn,tmps:=a.tmps,params:=ps.toArray,assign,body,defers:=w.heap.size }
 let w1:World:=(w.alloc (.deferred (some []))).alloc (.loop r0)
 have hsz:(w.alloc (.deferred (some []))).heap.size=w.heap.size+1:=by show (w.heap.push _).size=_;simp
 have hst0:St w0 w1 (lpA (w.heap.size+1) r0::dfA w.heap.size::((Hx x0++C)++H')):=by
  have q1:=(hw.pulls p).alloc (.deferred (some [])) (dfA w.heap.size) (fun h e=>e)
  have q2:=q1.alloc (.loop r0) (lpA (w.heap.size+1) r0) (fun h e=>by rw [hsz] at e;exact e)
  exact q2
 let I:Nat→Atom:=fun k=>Gv.exA (fun x:{ x:α//idx x=k }=>Gv.star (lpA (w.heap.size+1) r0::Hx x.1))
 let J:Atom:=Gv.exA (fun y:β=>Gv.star (lpA (w.heap.size+1) { r0 with state:= .done,pending:=some (Jc y) }::Hj y))
 have hY: ∀k vs,xs[k]? =some vs→YSpec P w0 (w.heap.size+1) vs.toArray (I k) (I (k+1)) J:=by
  intro k vs hvs w2 Hf hw2
  obtain⟨⟨x,hx⟩,hw3⟩:=St.exA hw2
  subst hx
  have hw4:=St.unstar hw3
  have hl:=St.lp hw4
  have hlen:vs.length=ps.length:=hps vs (List.mem_of_getElem? hvs)
  refine⟨_,_,_,_,run_yield hl (by show vs.toArray.size=ps.toArray.size;simpa using hlen), ?_⟩
  have hz:Has { tmps:=(ps.toArray.zip vs.toArray).foldl (fun t (q:Tmp×Value)=>t.setIfInBounds q.1 q.2) a.tmps,defers:= [] } ⟨n.k, []⟩ (zipL ps vs L):=by
   have:=Has.zip (n:=⟨n.k, []⟩) ps vs (a:={ tmps:=a.tmps,defers:= [] }) (L:=L) ⟨rfl,ha.size,ha.get⟩ hpn
   simpa using this
  refine roundIn_of_wpIn (F:=Fence.wide) (n:=0) trivial ?_
  have hw5:St w0 w2 (Hx x++(lpA (w.heap.size+1) r0::Hf)):=St.unrot hw4
  obtain⟨hA,hA1,hA2⟩:=St.aside hw5
  refine wpIn_mono (hassign (w.heap.size+1) x vs hvs hA _ w2 hz hA1) ?_
  intro e a1 w3 hq
  cases e with
  | normal=>
   obtain⟨z,hz1,hz2⟩:=hq
   have hw6:=St.rot (hA2 w3 _ hz2)
   refine⟨_,run_beginRound (St.lp hw6) rfl, ?_⟩
   have hw7:=St.unrot (upd_lp { r0 with state:= .busy } hw6)
   obtain⟨hB,hB1,hB2⟩:=St.aside hw7
   refine wpIn_mono (hbody (w.heap.size+1) x vs hvs z hB _ _ hz1 hB1) ?_
   intro e2 a2 w4 hq2
   cases e2 with
   | normal=>
    obtain⟨y,hy1,hy2⟩:=hq2
    have hw8:=St.rot (hB2 w4 _ hy2)
    refine⟨_,_,run_endRound none (St.lp hw8), .inl ⟨rfl, ?_⟩⟩
    exact St.toExA (A:=fun x':{ x':α//idx x'=idx x+1 }=>Gv.star (lpA (w.heap.size+1) r0::Hx x'.1)) ⟨y,hy1⟩ (St.star (As:=lpA _ r0::Hx y) (upd_lp _ hw8))
   | ret=>
    obtain⟨y,hy1,hy2⟩:=hq2
    have hw8:=St.rot (hB2 w4 _ hy2)
    refine⟨_,_,run_endRound (some .ret) (St.lp hw8), .inr ⟨rfl, ?_⟩⟩
    exact St.toExA (A:=fun y:β=>Gv.star (lpA (w.heap.size+1) { r0 with state:= .done,pending:=some (Jc y) }::Hj y)) y (St.star (As:=lpA _ _::Hj y) (by rw [hy1];exact upd_lp _ hw8))
   | exit id=>
    obtain⟨y,hy1,hy2⟩:=hq2
    have hw8:=St.rot (hB2 w4 _ hy2)
    refine⟨_,_,run_endRound (some (.exit id)) (St.lp hw8), .inr ⟨rfl, ?_⟩⟩
    exact St.toExA (A:=fun y:β=>Gv.star (lpA (w.heap.size+1) { r0 with state:= .done,pending:=some (Jc y) }::Hj y)) y (St.star (As:=lpA _ _::Hj y) (by rw [hy1];exact upd_lp _ hw8))
   | goto t=>exact hq2.elim
   | panic c=>exact hq2.elim
   | outgrown=>exact hq2.elim
  | ret=>exact hq.elim
  | exit id=>exact hq.elim
  | goto t=>exact hq.elim
  | panic c=>exact hq.elim
  | outgrown=>exact hq.elim
 have hst1:St w0 w1 (I 0::(C++(dfA w.heap.size::H'))):=by
  have q1:St w0 w1 (dfA w.heap.size::((lpA (w.heap.size+1) r0::(Hx x0++C))++H')):=⟨hst0.1,Sat.swap hst0.2⟩
  have q2:=St.unrot q1
  have q3:St w0 w1 ((lpA (w.heap.size+1) r0::Hx x0)++(C++(dfA w.heap.size::H'))):=by simpa [aAs] using q2
  exact St.toExA (A:=fun x':{ x':α//idx x'=0 }=>Gv.star (lpA (w.heap.size+1) r0::Hx x'.1)) ⟨x0,h0⟩ (St.star q3)
 have hcall:=hit w0 (w.heap.size+1) I J hY w1 (dfA w.heap.size::H') hst1
 have ev1: ∀(a':Act),a'.eval (.const (.func (.yield (w.heap.size+1)) #[] #[]))= .func (.yield (w.heap.size+1)) #[] #[] :=fun _=>rfl
 have hmk: ∀(z:List Deferred),Has { a with defers:= [mark w.heap.size] ++a.defers } ⟨n.k,mark w.heap.size::n.ds⟩ L:=fun _=>⟨by simp [ha.defers],ha.size,ha.get⟩
 refine⟨_, [mark w.heap.size],w1,⟨.fn (.func gf) lb.toArray, #[.func (.yield (w.heap.size+1)) #[] #[]]⟩,w1,gf,_,w1,run_enterLoop_outer fn a.tmps ps.toArray assign body, ?_,fun _ _=>trivial, ?_,fun h=>(nomatch h),CallsIn.mono (callsIn_FR hcall) ?_⟩
 ·simp [resolve,rangeCall,Deferred.ofValue,ha.eval hg,ev1]
 ·simp only [invoke]
  exact fn_run
 ·intro e w3 he
  cases e with
  | returned v=>
   rcases he with he | he
   ·obtain⟨⟨y,hy⟩,hw3⟩:=St.exA he
    have hw4:=St.unstar hw3
    refine⟨none,_,run_endLoop (St.lp hw4) (by simp [r0]), ?_⟩
    have hw5:=(upd_lp { r0 with state:= .exhausted } hw4).drop
    refine hdone w.heap.size y hy _ _ (hmk []) ?_
    have q:St w0 (w3.putObj (w.heap.size+1) (.loop { r0 with state:= .exhausted })) ((Hx y++C)++(dfA w.heap.size::H')):=by simpa [aAs] using hw5
    simpa [aAs] using St.rot q
   ·obtain⟨y,hw3⟩:=St.exA he
    have hw4:=St.unstar hw3
    refine⟨some (Jc y),_,run_endLoop (St.lp hw4) (by simp), ?_⟩
    have hw5:=(upd_lp { r0 with state:= .exhausted,pending:=some (Jc y) } hw4).drop
    refine hjump w.heap.size y _ _ (hmk []) ?_
    have q:St w0 (w3.putObj (w.heap.size+1) (.loop { r0 with state:= .exhausted,pending:=some (Jc y) })) ((Hj y++C)++(dfA w.heap.size::H')):=by simpa [aAs] using hw5
    simpa [aAs] using St.rot q
  | panicked c=>exact he.elim
  | outgrown=>exact he.elim
theorem Calls.enterM {f:FuncId}{fn:Func}{c:Code}{args:List Value}{w:World}{R:Ending→World→Prop}(hf:P.funcs[f]? =some fn)(hb:fn.body=some c){m:Nat}(hn:fn.ntmps=m)(hle:Nat.ble args.length m=true)(hw:St w0 w H)
  (h:Tri w0 (Code.wr none P c (bodyPostM Fence.wide 0 P fn R)) ⟨m, []⟩ (argSlots 0 args) H):Calls P f args.toArray w R:=by
 refine(callsIn_wide (n:=0)).1 (callsIn_of_wp_marks (F:=Fence.wide) hf hb trivial (h _ w ⟨rfl, ?_,fun t v ht=>?_⟩ hw))
 ·have:=Nat.le_of_ble_eq_true hle
  simp [hn];omega
 ·obtain⟨_,h2⟩:=look_argSlots args 0 t v ht
  simp only [Nat.sub_zero] at h2
  have hlt:t<args.length:=(List.getElem?_eq_some_iff.1 h2).1
  simp [Array.getElem?_append,hlt]
  exact(List.getElem?_eq_some_iff.1 h2).2
theorem leaves1 {fn:Func}{rs:List ResultVar}{vs:List Value}{R:Value→World→Prop}{m D:Nat}{a:Act}{w:World}(p:Pull H (dfA D) H')(hr:fn.results=rs.toArray)(h:ResL P L H' rs vs)(hR: ∀w,St w0 w H'→R (tupled vs) w)(ha:Has a ⟨m, [mark D]⟩ L)(hw:St w0 w H):LeavesInM Fence.wide 0 P fn a.tmps (Ret R) a.defers .returning w:=by
 rw [ha.defers]
 have hp:=hw.pull p
 have hd:=St.df hp
 have hw':St w0 (w.putObj D (.deferred none)) H':=by
  have:St w0 (w.putObj D (.deferred none)) (fact True::H'):=by
   refine hp.upd ⟨rfl,rfl,rfl,by simp⟩ (fun s hs hA=>⟨⟨fun _=>False,fun c hc=>hc.elim,trivial⟩,fun c hc hl=>?_⟩)
   have hb:=res_some (o:= .deferred (some [])) hA
   exact World.putObj_heap_other (fun e=>hc (e▸hb.1))
  exact this.drop
 have ha':Has { tmps:=a.tmps,defers:= [] } ⟨m, []⟩ L:=⟨rfl,ha.size,ha.get⟩
 have hq:=results_run hr ha' hw' h
 exact⟨by simp, .inl ⟨D,_,rfl,run_takeDeferred hd,⟨_,hq,hR _ hw'⟩⟩⟩
theorem Tri.finM1 {m D:Nat}{fn:Func}{rs:List ResultVar}{vs:List Value}{R:Value→World→Prop}(p:Pull H (dfA D) H')(hr:fn.results=rs.toArray)(h:ResL P L H' rs vs)(hR: ∀w,St w0 w H'→R (tupled vs) w):Tri w0 (bodyPostM Fence.wide 0 P fn (Ret R) .ret) ⟨m, [mark D]⟩ L H:=fun a w ha hw=>leaves1 p hr h hR ha hw
theorem Tri.finM1N {m D:Nat}{fn:Func}{rs:List ResultVar}{vs:List Value}{R:Value→World→Prop}(p:Pull H (dfA D) H')(hr:fn.results=rs.toArray)(h:ResL P L H' rs vs)(hR: ∀w,St w0 w H'→R (tupled vs) w):Tri w0 (bodyPostM Fence.wide 0 P fn (Ret R) .normal) ⟨m, [mark D]⟩ L H:=fun a w ha hw=>leaves1 p hr h hR ha hw
end
section
variable {P:Program} {w0:World} {n:NT} {L:Slots} {H H' H1 H2:List Atom} {Q:Exit→Act→World→Prop} {K:Act→World→Prop} {d:Nat}
variable {ty:TypeId} {pos:String} {aft:Array Edge} {g:Option (Nat×Bool)}
theorem blk_Rd {g:Nat}{T:TypeId}{cur xs:List Value}{m cap:Nat}{h:PH}(hb:blk g T cur h)(hc:m≤cap∧cap≤9223372036854775807)(hx:cur.take xs.length=xs):Rd h (.slice (some ⟨g,0,none⟩) m cap) m xs:=by
 refine⟨_,cap,rfl,⟨hc.1,by unfold maxLen;omega⟩,fun j u hu=>⟨_,rfl,cur.toArray,T,(0,0),hb,by rw [Addr.add_lit], ?_⟩⟩
 rw [Addr.add_lit]
 have hj:j<xs.length:=(List.getElem?_eq_some_iff.1 hu).1
 rw [←hx,List.getElem?_take,if_pos hj] at hu
 simpa using hu
theorem o_ixW {T e:TypeId}{size:Nat}{x y:Operand}{v:Value}{m:Nat}{xs:List Value}{ik:IntKind}{i:Int}{j:Nat}[hT:TSlice P T e][hs:TSize P e size](hx:ev L x=some v)(hy:ev L y=some (.int ik i))(hr: ∀w,St w0 w H→RdW w v m xs)(hj:i=(j:Int))(hlt:j<m)(hl:j*size<xs.length)(hn:Nat.blt d n=true)(k:Tri w0 K n ((d, .pointer (some (eaddr v (j*size))))::L) H):
  Tri w0 (OpG P ⟨some d, .indexAddr T x y,ty,pos,aft,g⟩ K Q) n L H:=
 Tri.val rfl hn _ (fun a w ha hw=>by
  subst hj
  obtain⟨A,c,hv,hc,h3⟩:=hr w hw
  obtain⟨a',rfl,_⟩:=h3 (j*size) _ (gEe hl)
  simp [execOp,ha.eval hx,ha.eval hy,ix_run (P:=P) (T:=T) (w:=w) (ik:=ik) hv rfl hlt]) k
theorem rdw_cell {w:World}{v:Value}{m:Nat}{xs:List Value}(hr:RdW w v m xs){j:Nat}{u:Value}(hu:xs[j]? =some u):w.cell? (eaddr v j)=some u:=by
 have:hp w=res w (fun _=>True):=by funext b;simp [hp,res]
 rw [RdW,this] at hr
 exact hr.cell hu
theorem o_loadW {T:TypeId}{x:Operand}{u v:Value}{m j:Nat}{xs:List Value}[TPlain P T](hx:ev L x=some (.pointer (some (eaddr u j))))(hr: ∀w,St w0 w H→RdW w u m xs)(hv:xs[j]? =some v)(hn:Nat.blt d n=true)(k:Tri w0 K n ((d,v)::L) H):
  Tri w0 (OpG P ⟨some d, .load T x,ty,pos,aft,g⟩ K Q) n L H:=
 Tri.val rfl hn v (fun a w ha hw=>by
  simp [execOp,ha.eval hx,Instr.loadAt,Instr.sureAddr,load_cell (P:=P) (T:=T) (rdw_cell (hr w hw) hv)]) k
theorem o_loadAggW {T:TypeId}{sz:Nat}{x:Operand}{u:Value}{m i:Nat}{xs ys:List Value}[TAgg P T sz](hx:ev L x=some (.pointer (some (eaddr u i))))(hr: ∀w,St w0 w H→RdW w u m xs)(hv:(xs.drop i).take sz=ys)(hl:ys.length=sz)(hn:Nat.blt d n=true)(k:Tri w0 K n ((d, .agg ys.toArray)::L) H):
  Tri w0 (OpG P ⟨some d, .load T x,ty,pos,aft,g⟩ K Q) n L H:=
 Tri.val rfl hn _ (fun a w ha hw=>by
  have hq:(loadVar T (eaddr u i)).run P w= .ok (.agg ys.toArray) w:=load_agg hl (fun j v hj=>by
   rw [←hv,List.getElem?_take] at hj
   split at hj
   ·rw [List.getElem?_drop] at hj
    rw [eaddr_add]
    exact rdw_cell (hr w hw) hj
   ·cases hj)
  simp [execOp,ha.eval hx,Instr.loadAt,Instr.sureAddr,hq]) k
theorem Sat.pure1 {w:World}{A:Atom}(hA: ∀h,A h){av:Nat→Prop}{H:List Atom}(hs:Sat w av H):Sat w av (A::H):=
 ⟨fun _=>False,fun _ h=>h.elim,hA _,hs.mono (fun _ _ hb=>⟨hb,fun h=>h⟩)⟩
theorem St.pure1 {w:World}{A:Atom}(hA: ∀h,A h){H:List Atom}(hw:St w0 w H):St w0 w (A::H):=⟨hw.1,Sat.pure1 hA hw.2⟩
theorem St.pure2 {w:World}{A B:Atom}(hA: ∀h,A h){H:List Atom}(hw:St w0 w (B::H)):St w0 w (B::A::H):=⟨hw.1,Sat.under (fun av hs=>Sat.pure1 hA hs) _ hw.2⟩
theorem SpecR.conv {P:Program}{f:FuncId}{args:Array Value}{Pre:World→Prop}{R R':Value→List Atom→Prop}(h:SpecR P f args Pre R)(hR: ∀r H',R r H'→ ∃H'',R' r H''∧ ∀w0 w H,St w0 w (H'++H)→St w0 w (H''++H)):SpecR P f args Pre R':=fun w0 w H hw hp=>by
 refine(h w0 w H hw hp).mono ?_
 intro e w' he
 cases e with
 | returned v=>obtain⟨H',g1,g2⟩:=he;obtain⟨H'',g3,g4⟩:=hR _ _ g1;exact⟨H'',g3,g4 _ _ _ g2⟩
 | panicked c=>exact he.elim
 | outgrown=>exact he.elim
end
section
variable {P:Program} {w0:World} {n:NT} {L:Slots} {H H' H1 H2:List Atom} {Q:Exit→Act→World→Prop} {K:Act→World→Prop} {d:Nat}
variable {ty:TypeId} {pos:String} {aft:Array Edge} {g:Option (Nat×Bool)}
theorem slice3_run {T e:TypeId}{size:Nat}[hT:TSlice P T e][hs:TSize P e size]{w:World}{A:Option Addr}{m c lo hi mx:Nat}{ol oh om:Option Value}(hlo:(∃ik,ol=some (.int ik (lo:Int)))∨ol=none∧lo=0)(hhi: ∃jk,oh=some (.int jk (hi:Int)))(hmx: ∃kk,om=some (.int kk (mx:Int)))(h1:lo≤hi)(h2:hi≤mx)(h3:mx≤c):
  (Instr.sliceAt T (.slice A m c) ol oh om).run P w= .ok (.slice (if mx=lo then A else A.map (·.add (lo*size))) (hi-lo) (mx-lo)) w:=by
 have b2:(0:Int)≤lo∧(lo:Int)≤hi:=by omega
 have b1:(0:Int)≤hi∧(hi:Int)≤mx:=by omega
 have b0:(0:Int)≤mx∧(mx:Int)≤c:=by omega
 obtain⟨jk,rfl⟩:=hhi
 obtain⟨kk,rfl⟩:=hmx
 rcases hlo with ⟨ik,rfl⟩ | ⟨rfl,rfl⟩<;>
  simp [Instr.sliceAt,Instr.slice,run_underlying hT.ok,Instr.sliceBounds,Instr.sliceBound,asIntOf,size_run hs.ok,b0,b1,b2,h1,h2,h3]
theorem o_slice3 {T e:TypeId}{size:Nat}{x y z:Operand}{ol:Option Operand}{A:Option Addr}{m c lo hi mx:Nat}{vl:Option Value}{jk kk:IntKind}[hT:TSlice P T e][hs:TSize P e size](hx:ev L x=some (.slice A m c))(hol: ∀a,Has a n L→ol.map a.eval=vl)(hlo:(∃ik,vl=some (.int ik (lo:Int)))∨vl=none∧lo=0)(hy:ev L y=some (.int jk (hi:Int)))(hz:ev L z=some (.int kk (mx:Int)))(hlh:lo≤hi)(hhm:hi≤mx)(hmc:mx≤c)(hn:Nat.blt d n=true)
  (k:Tri w0 K n ((d, .slice (if mx=lo then A else A.map (·.add (lo*size))) (hi-lo) (mx-lo))::L) H):
  Tri w0 (OpG P ⟨some d, .slice T x ol (some y) (some z),ty,pos,aft,g⟩ K Q) n L H:=by
 refine Tri.val rfl hn _ (fun a w ha _=>?_) k
 simp [execOp,ha.eval hx,hol a ha,ha.eval hy,ha.eval hz,slice3_run (P:=P) (T:=T) (e:=e) (size:=size) (w:=w) (A:=A) (m:=m) (c:=c) (lo:=lo) (hi:=hi) (mx:=mx) (ol:=vl) hlo ⟨jk,rfl⟩ ⟨kk,rfl⟩ hlh hhm hmc]
theorem o_sliceH {T e:TypeId}{size:Nat}{x:Operand}{ol oh:Option Operand}{A:Option Addr}{m c lo hi:Nat}{vl vh:Option Value}[hT:TSlice P T e][hs:TSize P e size](hx:ev L x=some (.slice A m c))(hol: ∀a,Has a n L→ol.map a.eval=vl)(hoh: ∀a,Has a n L→oh.map a.eval=vh)(hlo:(∃ik,vl=some (.int ik (lo:Int)))∨vl=none∧lo=0)(hhi:(∃jk,vh=some (.int jk (hi:Int)))∨vh=none∧hi=m)(hlh:lo≤hi)(hhm:hi≤c)(hn:Nat.blt d n=true)
  (k:Tri w0 K n ((d, .slice (if c=lo then A else A.map (·.add (lo*size))) (hi-lo) (c-lo))::L) H):
  Tri w0 (OpG P ⟨some d, .slice T x ol oh none,ty,pos,aft,g⟩ K Q) n L H:=by
 refine Tri.val rfl hn _ (fun a w ha hw=>?_) k
 simp [execOp,ha.eval hx,hol a ha,hoh a ha,slice_run (P:=P) (T:=T) (e:=e) (size:=size) (w:=w) (A:=A) (m:=m) (c:=c) hlo hhi hlh hhm]
theorem o_makeFunc {f:FuncId}{cap:List Operand}{vs:List Value}(hc:evs L cap vs)(hn:Nat.blt d n=true)(k:Tri w0 K n ((d, .func (.func f) #[] vs.toArray)::L) H):
  Tri w0 (OpG P ⟨some d, .makeFunc (.func f) #[] cap.toArray,ty,pos,aft,g⟩ K Q) n L H:=
 Tri.val rfl hn _ (fun a w ha _=>by simp [execOp,evs.map ha hc,Instr.makeFunc]) k
theorem o_callF {f:FuncId}{x:Operand}{args:List Operand}{ts:Array TypeId}{vs cs:List Value}{Pre:List Atom}{R:Value→List Atom→Prop}[TFn P f](hx:ev L x=some (.func (.func f) #[] cs.toArray))(hs:Spec P f (vs++cs).toArray Pre R)(hargs:evs L args vs)(p:Pulls H Pre H')(hn:Nat.blt d n=true)
  (k: ∀v Hq,R v Hq→Tri w0 K n ((d,v)::L) (Hq++H')):
  Tri w0 (OpG P ⟨some d, .call { callee:= .value x,args:=args.toArray,argTypes:=ts },ty,pos,aft,g⟩ K Q) n L H:=fun a w ha hw=>by
 refine .inl ?_
 unfold Oper.wp
 have hr:(execOp a.eval ⟨some d, .call { callee:= .value x,args:=args.toArray,argTypes:=ts },ty,pos,aft,g⟩).run P w= .ok (.enter f (vs++cs).toArray) w:=by
  have he:(List.map a.eval args).toArray=vs.toArray:=by rw [evs.map ha hargs]
  simp [execOp,resolve,Deferred.ofValue,ha.eval hx,invoke,he,fn_run (P:=P) (f:=f)]
 rw [hr,Oper.upon_enter]
 refine(hs w0 w H' (hw.pulls p)).mono ?_
 intro e w' he
 cases e with
 | returned v=>obtain⟨H'',g1,g2⟩:=he;exact k v H'' g1 _ w' (ha.put hn v) g2
 | panicked c=>exact he.elim
 | outgrown=>exact he.elim
theorem TriR.seqMeet {ro:Option Nat}{α:Type}{c d:Code}(Lx:α→Slots)(Hx:α→List Atom)
  (h1:Tri w0 (Code.wr ro P c (Exit.then (fun a w=> ∃y,Has a n (Lx y)∧St w0 w (Hx y)) Q)) n L H) (h2: ∀x,Tri w0 (Code.wr ro P d Q) n (Lx x) (Hx x)):Tri w0 (Code.wr ro P (Code.seq c d) Q) n L H:=fun a w ha hw=>by
 refine wpIn_seq (wpIn_mono (h1 a w ha hw) ?_)
 intro e a' w' he
 cases e with
 | normal=>obtain⟨y,g1,g2⟩:=he;exact h2 y a' w' g1 g2
 | exit id=>exact he
 | goto t=>exact he
 | ret=>exact he
 | panic c=>exact he
 | outgrown=>exact he
theorem Tri.rdEnd {α β:Type}{idx:α→Nat}{Hx:α→List Atom}{Jc:β→Code}{Hj:β→List Atom}{k:Nat}{h0:PH}{R:List Atom}(y:α)(hk:idx y=k+1)(p:Pulls H (Hx y++ [Ex h0]) R):Tri w0 (RdQ w0 idx Hx Jc Hj k h0 .normal) n L H:=fun a w ha hw=>⟨y,hk,(hw.pulls p).1,Sat.left (hw.pulls p).2⟩
theorem Tri.rdRet {α β:Type}{idx:α→Nat}{Hx:α→List Atom}{Jc:β→Code}{Hj:β→List Atom}{k:Nat}{h0:PH}{R:List Atom}(y:β)(hj:Jc y= .ret)(p:Pulls H (Hj y++ [Ex h0]) R):Tri w0 (RdQ w0 idx Hx Jc Hj k h0 .ret) n L H:=fun a w ha hw=>⟨y,hj,(hw.pulls p).1,Sat.left (hw.pulls p).2⟩
end
theorem Iter.of {P:Program}{g:FuncId}{lb:List Value}{C:List Atom}{xs:List (List Value)}
  (h: ∀(w0:World) (l:Nat) (I:Nat→Atom) (J:Atom),(∀k vs,xs[k]? =some vs→YSpec P w0 l vs.toArray (I k) (I (k+1)) J)→ ∀w h0,St w0 w ((I 0::C)++ [Ex h0])→
   Calls P g ((.func (.yield l) #[] #[] ::lb).toArray) w (Ret fun _ w'=>St w0 w' ((I xs.length::C)++ [Ex h0])∨St w0 w' ((J::C)++ [Ex h0]))):Iter P g lb C xs:=fun w0 l I J hY w H hw=>by
 have hw':St w0 w ((I 0::C)++H):=hw
 obtain⟨h0,h1,h2⟩:=St.aside hw'
 have e:(#[.func (.yield l) #[] #[]] ++lb.toArray:Array Value)=(.func (.yield l) #[] #[] ::lb).toArray:=by simp
 rw [e]
 refine(h w0 l I J hY w h0 h1).mono ?_
 intro e w' he
 cases e with
 | returned v=>exact he.imp (fun q=>h2 w' _ q) (fun q=>h2 w' _ q)
 | panicked c=>exact he.elim
 | outgrown=>exact he.elim
def IterS (P:Program)(g:FuncId)(lb:List Value)(C0:List Atom)(Cj:Nat→List Atom)(Ce:List Atom)(xs:List (List Value)):Prop:=
 ∀(w0:World) (l:Nat) (I J:Nat→Atom),(∀k vs,xs[k]? =some vs→YSpec P w0 l vs.toArray (I k) (I (k+1)) (J k))→ ∀w H,St w0 w (I 0::(C0++H))→
  Calls P g (#[.func (.yield l) #[] #[]] ++lb.toArray) w (Ret fun _ w'=>St w0 w' (I xs.length::(Ce++H))∨ ∃k,k<xs.length∧St w0 w' (J k::(Cj k++H)))
def RdQS {α β:Type}(w0:World)(idx:α→Nat)(jdx:β→Nat)(Hx:α→List Atom)(Jc:β→Code)(Hj:β→List Atom)(k:Nat)(h0:PH):Exit→Act→World→Prop
 | .normal,_,w=> ∃y,idx y=k+1∧St w0 w (Hx y++ [Ex h0])
 | .ret,_,w=> ∃y,jdx y=k∧Jc y= .ret∧St w0 w (Hj y++ [Ex h0])
 | .exit id,_,w=> ∃y,jdx y=k∧Jc y= .exit id∧St w0 w (Hj y++ [Ex h0])
 | _,_,_=>False
section
variable {P:Program} {w0:World} {n:NT} {L:Slots} {H H':List Atom} {Q:Exit→Act→World→Prop} {G:Act→World→Prop} {ro:Option Nat}
theorem Tri.rdEndS {α β:Type}{idx:α→Nat}{jdx:β→Nat}{Hx:α→List Atom}{Jc:β→Code}{Hj:β→List Atom}{k:Nat}{h0:PH}{R:List Atom}(y:α)(hk:idx y=k+1)(p:Pulls H (Hx y++ [Ex h0]) R):Tri w0 (RdQS w0 idx jdx Hx Jc Hj k h0 .normal) n L H:=fun a w ha hw=>⟨y,hk,(hw.pulls p).1,Sat.left (hw.pulls p).2⟩
theorem Tri.rdRetS {α β:Type}{idx:α→Nat}{jdx:β→Nat}{Hx:α→List Atom}{Jc:β→Code}{Hj:β→List Atom}{k:Nat}{h0:PH}{R:List Atom}(y:β)(hj:jdx y=k∧Jc y= .ret)(p:Pulls H (Hj y++ [Ex h0]) R):Tri w0 (RdQS w0 idx jdx Hx Jc Hj k h0 .ret) n L H:=fun a w ha hw=>⟨y,hj.1,hj.2,(hw.pulls p).1,Sat.left (hw.pulls p).2⟩
end
def SpecW (P:Program)(w0:World)(f:FuncId)(args:Array Value)(Pre:List Atom)(R:Value→List Atom→Prop):Prop:=
 ∀w H,St w0 w (Pre++H)→Calls P f args w (Ret fun v w'=> ∃H',R v H'∧St w0 w' (H'++H))
theorem SpecW.of {P:Program}{w0:World}{f:FuncId}{args:Array Value}{Pre:List Atom}{R:Value→List Atom→Prop}
  (h: ∀w h0,St w0 w (Pre++ [Ex h0])→Calls P f args w (Ret fun v w'=> ∃H',R v H'∧St w0 w' (H'++ [Ex h0]))):SpecW P w0 f args Pre R:=fun w H hw=>by
 obtain⟨h0,h1,h2⟩:=St.aside hw
 refine(h w h0 h1).mono ?_
 intro e w' he
 cases e with
 | returned v=>obtain⟨H',q1,q2⟩:=he;exact⟨H',q1,h2 w' _ q2⟩
 | panicked c=>exact he.elim
 | outgrown=>exact he.elim
section
variable {P:Program} {w0:World} {n:NT} {L:Slots} {H H':List Atom} {K:Act→World→Prop} {Q:Exit→Act→World→Prop} {d:Nat} {ty:TypeId} {pos:String} {aft:Array Edge} {g:Option (Nat×Bool)}
theorem o_callW {f:FuncId}{args:List Operand}{ts:Array TypeId}{vs:List Value}{Pre:List Atom}{R:Value→List Atom→Prop}[TFn P f](hs:SpecW P w0 f vs.toArray Pre R)(hargs:evs L args vs)(p:Pulls H Pre H')(hn:Nat.blt d n=true)
  (k: ∀v Hq,R v Hq→Tri w0 K n ((d,v)::L) (Hq++H')):
  Tri w0 (OpG P ⟨some d, .call { callee:= .value (.func f),args:=args.toArray,argTypes:=ts },ty,pos,aft,g⟩ K Q) n L H:=
 o_callX hargs hn (fun w hw=>hs w H' (hw.pulls p)) k
end
theorem IterS.of {P:Program}{g:FuncId}{lb:List Value}{C0:List Atom}{Cj:Nat→List Atom}{Ce:List Atom}{xs:List (List Value)}
  (h: ∀(w0:World) (l:Nat) (I J:Nat→Atom),(∀k vs,xs[k]? =some vs→YSpec P w0 l vs.toArray (I k) (I (k+1)) (J k))→ ∀w h0,St w0 w ((I 0::C0)++ [Ex h0])→
   Calls P g ((.func (.yield l) #[] #[] ::lb).toArray) w (Ret fun _ w'=>St w0 w' ((I xs.length::Ce)++ [Ex h0])∨ ∃k,k<xs.length∧St w0 w' ((J k::Cj k)++ [Ex h0]))):IterS P g lb C0 Cj Ce xs:=fun w0 l I J hY w H hw=>by
 have hw':St w0 w ((I 0::C0)++H):=hw
 obtain⟨h0,h1,h2⟩:=St.aside hw'
 have e:(#[.func (.yield l) #[] #[]] ++lb.toArray:Array Value)=(.func (.yield l) #[] #[] ::lb).toArray:=by simp
 rw [e]
 refine(h w0 l I J hY w h0 h1).mono ?_
 intro e w' he
 cases e with
 | returned v=>
  rcases he with q | ⟨k,hk,q⟩
  ·exact .inl (h2 w' _ q)
  ·exact .inr ⟨k,hk,h2 w' _ q⟩
 | panicked c=>exact he.elim
 | outgrown=>exact he.elim
section
variable {P:Program} {w0:World} {n:NT} {L:Slots} {H H':List Atom} {Q:Exit→Act→World→Prop} {ro:Option Nat} {ops:Array Oper} {md:Region.Mode} {C:World→Prop}
theorem wpAnyIn_of_seq: ∀(l:List Oper) (k:Nat) (listed:Array Bool) (a:Act) (w:World),(∀j,l[j]? =ops[k+j]?)→
  Region.seqB md ops l.length k listed=true→wlr ro P ops Q l a w→wpAnyIn (FR ro) 0 P md ops Q l.length listed a w
 | [],_,_,_,_,_,hB,h=>⟨by simpa [Region.seqB] using hB,h⟩
 | o::l,k,listed,a,w,hl,hB,h=>by
  have h0:ops[k]? =some o:=by simpa using (hl 0).symm
  simp only [lCn,Region.seqB,Bool.and_eq_true,decide_eq_true_eq] at hB
  refine⟨fun h1=>(by rw [hB.1] at h1;cases h1),fun i hi=>?_⟩
  rw [hB.1] at hi
  have hik:i=k:=by simpa using hi
  subst hik
  have ih:=fun a' w'=>wpAnyIn_of_seq l (i+1) (listed.setIfInBounds i true) a' w' (fun j=>by have:=hl (j+1);simpa [Nat.add_assoc,Nat.add_comm 1 j] using this) hB.2
  unfold wpOpIn
  simp only [h0]
  unfold wlr at h
  split
  ·rename_i hw
   rw [if_pos hw] at h
   exact Oper.wpIn_mono ih h
  ·rename_i hw
   rw [if_neg hw] at h
   exact⟨fun _ _=>trivial,ih _ w h⟩
theorem anyIn_of_qL {m g:Nat}{LL:Array Bool→Act→Prop}(hnd: ∀(i:Nat) (o:Oper),i<m→ops[i]? =some o→nodefer o=true)(hL: ∀listed a w,C w→LL listed a→wpAnyIn (FR ro) 0 P md ops Q g listed a w):
  ∀(f:Nat) (listed:Array Bool) (a:Act) (w:World),C w→qAnyL P md ops C m LL f listed a→wpAnyIn (FR ro) 0 P md ops Q (f+g) listed a w
 | 0,listed,a,w,hw,h=>by rw [Nat.zero_add];exact hL _ _ _ hw h
 | f+1,listed,a,w,hw,h=>by
  rw [show f+1+g=(f+g)+1 by omega]
  refine⟨fun h0=>absurd h0 h.1,fun i hi=>?_⟩
  obtain⟨him,hs⟩:=h.2 i hi
  unfold qStep at hs
  unfold wpOpIn
  cases ho:ops[i]? with
  | none=>simp only [ho] at hs ⊢;exact anyIn_of_qL hnd hL f _ _ _ hw hs
  | some o=>
   simp only [ho] at hs ⊢
   obtain⟨v,hy,hK⟩:=hs
   rcases hy with ⟨hwt,hv⟩ | ⟨hwt,rfl⟩
   ·rw [if_pos hwt]
    refine wpIn_of_wp (nodefer_spec (hnd i o him ho)) ?_
    unfold Oper.wp
    have hr:=hv w hw
    generalize (execOp a.eval o).run P w=r at hr
    cases r with
    | halt x w'=>exact hr.elim
    | ok nx w'=>
     cases nx with
     | value u=>
      obtain⟨rfl,hc⟩:=hr
      exact anyIn_of_qL hnd hL f _ _ _ hc hK
     | skip=>
      obtain⟨rfl,hc⟩:=hr
      exact anyIn_of_qL hnd hL f _ _ _ hc hK
     | enter fn args=>
      refine Calls.mono hr ?_
      intro e w'' he
      cases e with
      | returned u=>obtain⟨rfl,hc⟩:=he;exact anyIn_of_qL hnd hL f _ _ _ hc hK
      | panicked c=>exact he.elim
      | outgrown=>exact he.elim
     | row r args=>
      refine Rows.mono hr ?_
      intro u w'' he
      obtain⟨rfl,hc⟩:=he
      exact anyIn_of_qL hnd hL f _ _ _ hc hK
     | _=>exact hr.elim
   ·rw [if_neg (by rw [hwt];simp)]
    exact⟨fun _ _=>trivial,anyIn_of_qL hnd hL f _ _ _ hw hK⟩
theorem TriR.quietTail (m:Nat){id:Nat}{l:List Oper}[hm:TMixed P](hB:Region.lexTailB .any l.toArray m=true)(hnd:(l.take m).all nodefer=true)
  (h:TriQ P w0 l.toArray (fun _=>wlr ro P l.toArray Q (l.drop m)) (l.take m) n L H):Tri w0 (Code.wr ro P (Code.region id l.toArray true) Q) n L H:=fun a w ha hw=>by
 simp only [Region.lexTailB,Bool.and_eq_true,decide_eq_true_eq] at hB
 obtain⟨⟨⟨⟨hsel,hn⟩,hs⟩,hc⟩,hlex⟩:=hB
 have hn':m<l.length:=by simpa using hn
 have htl:(l.take m).length=m:=by simp;omega
 have hdl:(l.drop m).length=l.toArray.size-m:=by simp
 have inv0:HeadInv .any l.toArray m (Array.replicate l.toArray.size false):=
  ⟨by simp,fun j oj _ hl=>(by rw [getD_replicate_false] at hl;cases hl),fun t _ ht=>getD_in (by simpa using ht) (getD_replicate_false _ _)⟩
 have G:=qAnyL_lex (P:=P) (C:=fun w=>St w0 w H) (md:= .any) (g:=l.toArray.size-m) (Lq:=fun a'=> ∀w,St w0 w H→wlr ro P l.toArray Q (l.drop m) a' w) hsel hs hc hn (l.take m) 0 _ a (fun j hj=>by
  have hj':j<m:=by rw [htl] at hj;exact hj
  simp [hj']) (by simpa using htl) inv0 (by rw [htl];exact hlex) (h a ha)
 refine wpIn_region_any hm.ok ?_
 have hnd': ∀(i:Nat) (o:Oper),i<m→l.toArray[i]? =some o→nodefer o=true:=fun i o him ho=>by
  have h1:(l.take m)[i]? =some o:=by rw [List.getElem?_take,if_pos him];simpa using ho
  exact List.all_eq_true.1 hnd o (List.mem_of_getElem? h1)
 have:=anyIn_of_qL (Q:=Q) (ro:=ro) (g:=l.toArray.size-m) hnd' (fun listed a' w' hw' hL=>by
  have:=wpAnyIn_of_seq (md:= .any) (Q:=Q) (ro:=ro) (l.drop m) m listed a' w' (fun j=>by simp [List.getElem?_drop]) (by rw [hdl];exact hL.1) (hL.2 w' hw')
  rwa [hdl] at this) _ _ _ _ (hw.drawn (w.drawn+1)) G
 rw [htl,show m+(l.toArray.size-m)=l.toArray.size by omega] at this
 exact this
end
def IterH (P:Program)(g:FuncId)(lb:List Value)(Sh C0:List Atom)(Cj:Nat→List Atom)(Ce:List Atom)(xs:List (List Value)):Prop:=
 ∀(w0:World) (l:Nat) (I J:Nat→Atom),(∀k vs,xs[k]? =some vs→YSpec P w0 l vs.toArray (Gv.star (I k::Sh)) (Gv.star (I (k+1)::Sh)) (Gv.star (J k::Sh)))→ ∀w H,St w0 w (I 0::(Sh++(C0++H)))→
  Calls P g (#[.func (.yield l) #[] #[]] ++lb.toArray) w (Ret fun _ w'=>St w0 w' (I xs.length::(Sh++(Ce++H)))∨ ∃k,k<xs.length∧St w0 w' (J k::(Sh++(Cj k++H))))
theorem YSpec.conv {P:Program}{w0:World}{l:Nat}{args:Array Value}{A B C A' B' C':Atom}(hA: ∀w H,St w0 w (A'::H)→St w0 w (A::H))(hB: ∀w H,St w0 w (B::H)→St w0 w (B'::H))(hC: ∀w H,St w0 w (C::H)→St w0 w (C'::H))(h:YSpec P w0 l args A B C):YSpec P w0 l args A' B' C':=fun w H hw=>by
 obtain⟨fn,tmps,assign,body,hrun,hround⟩:=h w H (hA w H hw)
 refine⟨fn,tmps,assign,body,hrun,RoundIn.mono (F:=Fence.wide) (n:=0) hround ?_⟩
 rintro e w' (⟨rfl,hs⟩ | ⟨rfl,hs⟩)
 ·exact .inl ⟨rfl,hB w' H hs⟩
 ·exact .inr ⟨rfl,hC w' H hs⟩
theorem IterH.of {P:Program}{g:FuncId}{lb:List Value}{Sh C0:List Atom}{Cj:Nat→List Atom}{Ce:List Atom}{xs:List (List Value)}
  (h: ∀(w0:World) (l:Nat) (I J:Nat→Atom),(∀k vs,xs[k]? =some vs→YSpec P w0 l vs.toArray (Gv.star (I k::Sh)) (Gv.star (I (k+1)::Sh)) (Gv.star (J k::Sh)))→ ∀w h0,St w0 w ((I 0::(Sh++C0))++ [Ex h0])→
   Calls P g ((.func (.yield l) #[] #[] ::lb).toArray) w (Ret fun _ w'=>St w0 w' ((I xs.length::(Sh++Ce))++ [Ex h0])∨ ∃k,k<xs.length∧St w0 w' ((J k::(Sh++Cj k))++ [Ex h0]))):IterH P g lb Sh C0 Cj Ce xs:=fun w0 l I J hY w H hw=>by
 have hw':St w0 w ((I 0::(Sh++C0))++H):=by simpa [aAs] using hw
 obtain⟨h0,h1,h2⟩:=St.aside hw'
 have e:(#[.func (.yield l) #[] #[]] ++lb.toArray:Array Value)=(.func (.yield l) #[] #[] ::lb).toArray:=by simp
 rw [e]
 refine(h w0 l I J hY w h0 h1).mono ?_
 intro e w' he
 cases e with
 | returned v=>
  rcases he with he | ⟨k,hk,he⟩
  ·exact .inl (by simpa [aAs] using h2 w' (I xs.length::(Sh++Ce)) he)
  ·exact .inr ⟨k,hk,by simpa [aAs] using h2 w' (J k::(Sh++Cj k)) he⟩
 | panicked c=>exact he.elim
 | outgrown=>exact he.elim
section
variable {P:Program} {w0:World} {n:NT} {L:Slots} {H H':List Atom} {Q:Exit→Act→World→Prop} {G:Act→World→Prop} {ro:Option Nat}
theorem Tri.star (As:List Atom)(p:Pulls H As H')(h:Tri w0 G n L (Gv.star As::H')):Tri w0 G n L H:=Tri.conv (fun w hw=>St.star (As:=As) (hw.pulls p)) h
theorem TriR.rangeH {α β γ:Type}(Sh:List Atom)(idx:α→Nat)(jdx:β→Nat)(Hx:α→List Atom)(x0:α)(Jc:β→Code)(Hj:β→List Atom)(Lm:α→γ→Slots)(Hm:α→γ→List Atom){g:Operand}{gf:FuncId}{lb:List Value}{C0:List Atom}{Cj:Nat→List Atom}{Ce:List Atom}{xs:List (List Value)}{ps:List Tmp}{assign body:Code}[TFn P gf]
  (hit:IterH P gf lb Sh C0 Cj Ce xs) (hg:ev L g=some (.func (.func gf) #[] lb.toArray)) (h0:idx x0=0) (p:Pulls H ((Hx x0++Sh)++C0) H') (hps: ∀v∈xs,v.length=ps.length) (hpn: ∀q∈ps,Nat.blt q n=true)
  (hassign: ∀l x vs,xs[idx x]? =some vs→ ∀h0,Tri w0 (Code.wr (some l) P assign (Exit.then (fun a w=> ∃z:γ,Has a ⟨n.k, []⟩ (Lm x z)∧St w0 w (Hm x z++ [Ex h0])) (fun _ _ _=>False))) ⟨n.k, []⟩ (zipL ps vs L) ((Hx x++Sh)++ [Ex h0]))
  (hbody: ∀l x vs,xs[idx x]? =some vs→ ∀z h0,Tri w0 (Code.wr (some l) P body (RdQS w0 idx jdx (fun x=>Hx x++Sh) Jc (fun y=>Hj y++Sh) (idx x) h0)) ⟨n.k, []⟩ (Lm x z) (Hm x z++ [Ex h0]))
  (hdone: ∀D y,idx y=xs.length→Tri w0 (Q .normal) ⟨n.k,mark D::n.ds⟩ L (dfA D::((Hx y++Sh)++(Ce++H'))))
  (hjump: ∀D y,jdx y<xs.length→Tri w0 (Code.wr none P (Jc y) Q) ⟨n.k,mark D::n.ds⟩ L (dfA D::((Hj y++Sh)++(Cj (jdx y)++H')))):
  Tri w0 (Code.wr none P (Code.rangeFunc g ps.toArray assign body) Q) n L H:=fun a w ha hw=>by
 let HxS:α→List Atom:=fun x=>Hx x++Sh
 let HjS:β→List Atom:=fun y=>Hj y++Sh
 refine wpIn_rangeFunc (F:=FR none) (n:=0) (fun fn _=>?_)
 let r0:Loop:={ state:= .ready,pending:=none,fn,tmps:=a.tmps,params:=ps.toArray,assign,body,defers:=w.heap.size }
 let w1:World:=(w.alloc (.deferred (some []))).alloc (.loop r0)
 have hsz:(w.alloc (.deferred (some []))).heap.size=w.heap.size+1:=by show (w.heap.push _).size=_;simp
 have hst0:St w0 w1 (lpA (w.heap.size+1) r0::dfA w.heap.size::((HxS x0++C0)++H')):=by
  have q1:=(hw.pulls p).alloc (.deferred (some [])) (dfA w.heap.size) (fun h e=>e)
  have q2:=q1.alloc (.loop r0) (lpA (w.heap.size+1) r0) (fun h e=>by rw [hsz] at e;exact e)
  exact q2
 let I:Nat→Atom:=fun k=>Gv.exA (fun x:{ x:α//idx x=k }=>Gv.star (lpA (w.heap.size+1) r0::HxS x.1))
 let J:Nat→Atom:=fun k=>Gv.exA (fun y:{ y:β//jdx y=k }=>Gv.star (lpA (w.heap.size+1) { r0 with state:= .done,pending:=some (Jc y.1) }::HjS y.1))
 have hY: ∀k vs,xs[k]? =some vs→YSpec P w0 (w.heap.size+1) vs.toArray (I k) (I (k+1)) (J k):=by
  intro k vs hvs w2 Hf hw2
  obtain⟨⟨x,hx⟩,hw3⟩:=St.exA hw2
  subst hx
  have hw4:=St.unstar hw3
  have hl:=St.lp hw4
  have hlen:vs.length=ps.length:=hps vs (List.mem_of_getElem? hvs)
  refine⟨_,_,_,_,run_yield hl (by show vs.toArray.size=ps.toArray.size;simpa using hlen), ?_⟩
  have hz:Has { tmps:=(ps.toArray.zip vs.toArray).foldl (fun t (q:Tmp×Value)=>t.setIfInBounds q.1 q.2) a.tmps,defers:= [] } ⟨n.k, []⟩ (zipL ps vs L):=by
   have:=Has.zip (n:=⟨n.k, []⟩) ps vs (a:={ tmps:=a.tmps,defers:= [] }) (L:=L) ⟨rfl,ha.size,ha.get⟩ hpn
   simpa using this
  refine roundIn_of_wpIn (F:=Fence.wide) (n:=0) trivial ?_
  have hw5:St w0 w2 (HxS x++(lpA (w.heap.size+1) r0::Hf)):=St.unrot hw4
  obtain⟨hA,hA1,hA2⟩:=St.aside hw5
  refine wpIn_mono (hassign (w.heap.size+1) x vs hvs hA _ w2 hz hA1) ?_
  intro e a1 w3 hq
  cases e with
  | normal=>
   obtain⟨z,hz1,hz2⟩:=hq
   have hw6:=St.rot (hA2 w3 _ hz2)
   refine⟨_,run_beginRound (St.lp hw6) rfl, ?_⟩
   have hw7:=St.unrot (upd_lp { r0 with state:= .busy } hw6)
   obtain⟨hB,hB1,hB2⟩:=St.aside hw7
   refine wpIn_mono (hbody (w.heap.size+1) x vs hvs z hB _ _ hz1 hB1) ?_
   intro e2 a2 w4 hq2
   cases e2 with
   | normal=>
    obtain⟨y,hy1,hy2⟩:=hq2
    have hw8:=St.rot (hB2 w4 _ hy2)
    refine⟨_,_,run_endRound none (St.lp hw8), .inl ⟨rfl, ?_⟩⟩
    exact St.toExA (A:=fun x':{ x':α//idx x'=idx x+1 }=>Gv.star (lpA (w.heap.size+1) r0::HxS x'.1)) ⟨y,hy1⟩ (St.star (As:=lpA _ r0::HxS y) (upd_lp _ hw8))
   | ret=>
    obtain⟨y,hyk,hy1,hy2⟩:=hq2
    have hw8:=St.rot (hB2 w4 _ hy2)
    refine⟨_,_,run_endRound (some .ret) (St.lp hw8), .inr ⟨rfl, ?_⟩⟩
    exact St.toExA (A:=fun y:{ y:β//jdx y=idx x }=>Gv.star (lpA (w.heap.size+1) { r0 with state:= .done,pending:=some (Jc y.1) }::HjS y.1)) ⟨y,hyk⟩ (St.star (As:=lpA _ _::HjS y) (by rw [hy1];exact upd_lp _ hw8))
   | exit id=>
    obtain⟨y,hyk,hy1,hy2⟩:=hq2
    have hw8:=St.rot (hB2 w4 _ hy2)
    refine⟨_,_,run_endRound (some (.exit id)) (St.lp hw8), .inr ⟨rfl, ?_⟩⟩
    exact St.toExA (A:=fun y:{ y:β//jdx y=idx x }=>Gv.star (lpA (w.heap.size+1) { r0 with state:= .done,pending:=some (Jc y.1) }::HjS y.1)) ⟨y,hyk⟩ (St.star (As:=lpA _ _::HjS y) (by rw [hy1];exact upd_lp _ hw8))
   | goto t=>exact hq2.elim
   | panic c=>exact hq2.elim
   | outgrown=>exact hq2.elim
  | ret=>exact hq.elim
  | exit id=>exact hq.elim
  | goto t=>exact hq.elim
  | panic c=>exact hq.elim
  | outgrown=>exact hq.elim
 have hst1:St w0 w1 (I 0::(C0++(dfA w.heap.size::H'))):=by
  have q1:St w0 w1 (dfA w.heap.size::((lpA (w.heap.size+1) r0::(HxS x0++C0))++H')):=⟨hst0.1,Sat.swap hst0.2⟩
  have q2:=St.unrot q1
  have q3:St w0 w1 ((lpA (w.heap.size+1) r0::HxS x0)++(C0++(dfA w.heap.size::H'))):=by simpa [aAs] using q2
  exact St.toExA (A:=fun x':{ x':α//idx x'=0 }=>Gv.star (lpA (w.heap.size+1) r0::HxS x'.1)) ⟨x0,h0⟩ (St.star q3)
 let I1:Nat→Atom:=fun k=>Gv.exA (fun x:{ x:α//idx x=k }=>Gv.star (lpA (w.heap.size+1) r0::Hx x.1))
 let J1:Nat→Atom:=fun k=>Gv.exA (fun y:{ y:β//jdx y=k }=>Gv.star (lpA (w.heap.size+1) { r0 with state:= .done,pending:=some (Jc y.1) }::Hj y.1))
 have hI1: ∀k w2 Hf,St w0 w2 (I1 k::(Sh++Hf))→St w0 w2 (I k::Hf):=fun k w2 Hf h=>by
  obtain⟨x,hx⟩:=St.exA h
  have h2:=St.unstar hx
  exact St.toExA (A:=fun x':{ x':α//idx x'=k }=>Gv.star (lpA (w.heap.size+1) r0::HxS x'.1)) x (St.star (As:=lpA _ r0::HxS x.1) (by simpa [HxS,aAs] using h2))
 have hI2: ∀k w2 Hf,St w0 w2 (I k::Hf)→St w0 w2 (I1 k::(Sh++Hf)):=fun k w2 Hf h=>by
  obtain⟨x,hx⟩:=St.exA h
  have h2:=St.unstar hx
  exact St.toExA (A:=fun x':{ x':α//idx x'=k }=>Gv.star (lpA (w.heap.size+1) r0::Hx x'.1)) x (St.star (As:=lpA _ r0::Hx x.1) (by simpa [HxS,aAs] using h2))
 have hJ1: ∀k w2 Hf,St w0 w2 (J1 k::(Sh++Hf))→St w0 w2 (J k::Hf):=fun k w2 Hf h=>by
  obtain⟨x,hx⟩:=St.exA h
  have h2:=St.unstar hx
  exact St.toExA (A:=fun y:{ y:β//jdx y=k }=>Gv.star (lpA (w.heap.size+1) { r0 with state:= .done,pending:=some (Jc y.1) }::HjS y.1)) x (St.star (As:=lpA _ _::HjS x.1) (by simpa [HjS,aAs] using h2))
 have hJ2: ∀k w2 Hf,St w0 w2 (J k::Hf)→St w0 w2 (J1 k::(Sh++Hf)):=fun k w2 Hf h=>by
  obtain⟨x,hx⟩:=St.exA h
  have h2:=St.unstar hx
  exact St.toExA (A:=fun y:{ y:β//jdx y=k }=>Gv.star (lpA (w.heap.size+1) { r0 with state:= .done,pending:=some (Jc y.1) }::Hj y.1)) x (St.star (As:=lpA _ _::Hj x.1) (by simpa [HjS,aAs] using h2))
 have hY1: ∀k vs,xs[k]? =some vs→YSpec P w0 (w.heap.size+1) vs.toArray (Gv.star (I1 k::Sh)) (Gv.star (I1 (k+1)::Sh)) (Gv.star (J1 k::Sh)):=fun k vs hvs=>
  YSpec.conv (fun w2 Hf h=>hI1 k w2 Hf (St.unstar h)) (fun w2 Hf h=>St.star (As:=I1 (k+1)::Sh) (hI2 _ w2 Hf h)) (fun w2 Hf h=>St.star (As:=J1 k::Sh) (hJ2 _ w2 Hf h)) (hY k vs hvs)
 have hcall:=(hit w0 (w.heap.size+1) I1 J1 hY1 w1 (dfA w.heap.size::H') (hI2 0 w1 _ hst1)).mono (R':=Ret fun _ w'=>St w0 w' (I xs.length::(Ce++(dfA w.heap.size::H')))∨ ∃k,k<xs.length∧St w0 w' (J k::(Cj k++(dfA w.heap.size::H')))) (by
  intro e w' he
  cases e with
  | returned v=>
   rcases he with he | ⟨k,hk,he⟩
   ·exact .inl (hI1 _ w' _ he)
   ·exact .inr ⟨k,hk,hJ1 _ w' _ he⟩
  | panicked c=>exact he.elim
  | outgrown=>exact he.elim)
 have ev1: ∀(a':Act),a'.eval (.const (.func (.yield (w.heap.size+1)) #[] #[]))= .func (.yield (w.heap.size+1)) #[] #[] :=fun _=>rfl
 have hmk: ∀(z:List Deferred),Has { a with defers:= [mark w.heap.size] ++a.defers } ⟨n.k,mark w.heap.size::n.ds⟩ L:=fun _=>⟨by simp [ha.defers],ha.size,ha.get⟩
 refine⟨_, [mark w.heap.size],w1,⟨.fn (.func gf) lb.toArray, #[.func (.yield (w.heap.size+1)) #[] #[]]⟩,w1,gf,_,w1,run_enterLoop_outer fn a.tmps ps.toArray assign body, ?_,fun _ _=>trivial, ?_,fun h=>(nomatch h),CallsIn.mono (callsIn_FR hcall) ?_⟩
 ·simp [resolve,rangeCall,Deferred.ofValue,ha.eval hg,ev1]
 ·simp only [invoke]
  exact fn_run
 ·intro e w3 he
  cases e with
  | returned v=>
   rcases he with he | ⟨kj,hkj,he⟩
   ·obtain⟨⟨y,hy⟩,hw3⟩:=St.exA he
    have hw4:=St.unstar hw3
    refine⟨none,_,run_endLoop (St.lp hw4) (by simp [r0]), ?_⟩
    have hw5:=(upd_lp { r0 with state:= .exhausted } hw4).drop
    refine hdone w.heap.size y hy _ _ (hmk []) ?_
    have q:St w0 (w3.putObj (w.heap.size+1) (.loop { r0 with state:= .exhausted })) ((HxS y++Ce)++(dfA w.heap.size::H')):=by simpa [aAs] using hw5
    simpa [HxS,HjS,aAs] using St.rot q
   ·obtain⟨⟨y,hyk⟩,hw3⟩:=St.exA he
    have hw4:=St.unstar hw3
    refine⟨some (Jc y),_,run_endLoop (St.lp hw4) (by simp), ?_⟩
    have hw5:=(upd_lp { r0 with state:= .exhausted,pending:=some (Jc y) } hw4).drop
    refine hjump w.heap.size y (by rw [hyk];exact hkj) _ _ (hmk []) ?_
    rw [hyk]
    have q:St w0 (w3.putObj (w.heap.size+1) (.loop { r0 with state:= .exhausted,pending:=some (Jc y) })) ((HjS y++Cj kj)++(dfA w.heap.size::H')):=by simpa [aAs] using hw5
    simpa [HxS,HjS,aAs] using St.rot q
  | panicked c=>exact he.elim
  | outgrown=>exact he.elim
end
theorem manyRd_both {l1 l2:List (Value×Nat×List Value)}(w:World)(s1 s2:Nat→Prop)(h1:manyRd l1 (res w s1))(h2:manyRd l2 (res w s2)):manyRd (l1++l2) (res w (fun b=>s1 b∨s2 b)):=by
 have up1: ∀b o,res w s1 b=some o→res w (fun b=>s1 b∨s2 b) b=some o:=fun b o h=>by
  have:=res_some h
  unfold res;rw [if_pos (.inl this.1)];exact this.2
 have up2: ∀b o,res w s2 b=some o→res w (fun b=>s1 b∨s2 b) b=some o:=fun b o h=>by
  have:=res_some h
  unfold res;rw [if_pos (.inr this.1)];exact this.2
 intro x hx
 rcases List.mem_append.1 hx with hx | hx
 ·exact(h1 x hx).mono up1
 ·exact(h2 x hx).mono up2
section
variable {P:Program} {w0:World} {n:NT} {L:Slots} {H H1 H2:List Atom}
theorem Tri.joinM {G:Act→World→Prop}{l1 l2:List (Value×Nat×List Value)}(pA:Pull H (manyRd l1) H1)(pB:Pull H1 (manyRd l2) H2)(k:Tri w0 G n L (manyRd (l1++l2)::H2)):Tri w0 G n L H:=
 Tri.merge pA pB (fun w s1 s2 _ h1 h2=>manyRd_both w s1 s2 h1 h2) k
theorem Tri.joinS {G:Act→World→Prop}{e:TypeId}{size m:Nat}{v:Value}{xs:List Value}{l:List (Value×Nat×List Value)}(pA:Pull H (manyRd l) H1)(pB:Pull H1 (own e size v m xs) H2)(k:Tri w0 G n L (manyRd (l++ [(v,m,xs)])::H2)):Tri w0 G n L H:=
 Tri.merge pA pB (fun w s1 s2 _ h1 h2=>manyRd_add w s1 s2 h1 (own_Rd h2)) k
theorem Tri.noneM {G:Act→World→Prop}(k:Tri w0 G n L (manyRd [] ::H)):Tri w0 G n L H:=Tri.pure_ (fun h=>manyRd_nil h) k
end
section
variable {P:Program} {ops:Array Oper} {md:Region.Mode} {Q:Exit→Act→World→Prop}
theorem getD_set_self {listed:Array Bool}{i:Nat}(h:listed.getD i true=false):(listed.setIfInBounds i true).getD i false=true:=by
 rcases Nat.lt_or_ge i listed.size with h' | h'
 ·simp [h']
 ·simp [Array.getElem?_eq_none h'] at h
def D2 (s:Nat)(Ds Dw:WP→Prop)(ls:Array Bool)(D:WP):Prop:=if ls.getD s false=true then Dw D else Ds D
def mAny2 (P:Program)(md:Region.Mode)(ops:Array Oper)(s:Nat)(Ds Dw:WP→Prop)(Q:Exit→Act→World→Prop):Nat→Array Bool→Act→WP→Prop
 | 0,listed,a,D=>Region.ready md ops listed= [] ∧ ∀w,D w→Q .normal a w
 | f+1,listed,a,D=>(Region.ready md ops listed= [] → ∀w,D w→Q .normal a w)∧ ∀i∈Region.ready md ops listed,mOp P ops (D2 s Ds Dw (listed.setIfInBounds i true)) i (mAny2 P md ops s Ds Dw Q f (listed.setIfInBounds i true)) a D
variable {s:Nat} {Ds Dw:WP→Prop}
theorem any_of_m2: ∀(f:Nat) (listed:Array Bool) (a:Act) (D:WP) (w:World),D w→mAny2 P md ops s Ds Dw Q f listed a D→wpAny P md ops Q f listed a w
 | 0,_,_,_,w,hw,h=>⟨h.1,h.2 w hw⟩
 | f+1,listed,a,D,w,hw,h=>by
  refine⟨fun h0=>h.1 h0 w hw,fun i hi=>?_⟩
  have hs:=h.2 i hi
  unfold mOp at hs
  unfold Go.wpOp
  cases ho:ops[i]? with
  | none=>simp only [ho] at hs ⊢;exact any_of_m2 f _ _ _ _ hw hs
  | some o=>
   simp only [ho] at hs ⊢
   by_cases hwt:Region.wanted o (yielded ops a.tmps)=true
   ·rw [if_pos hwt] at hs ⊢
    refine .inl (Oper.wp_mono ?_ (wp_false_mono (hs w hw)))
    rintro a' w' ⟨D',_,hd,hk⟩
    exact any_of_m2 f _ _ _ _ hd hk
   ·rw [if_neg hwt] at hs ⊢
    exact any_of_m2 f _ _ _ _ hw hs
theorem m2_of_m: ∀(f:Nat) (listed:Array Bool) (a:Act) (D:WP),listed.getD s false=true→mAny P md ops Dw Q f listed a D→mAny2 P md ops s Ds Dw Q f listed a D
 | 0,_,_,_,_,h=>h
 | f+1,listed,a,D,hl,h=>by
  refine⟨h.1,fun i hi=>?_⟩
  have hs:=h.2 i hi
  have hl':(listed.setIfInBounds i true).getD s false=true:=getD_set_true hl
  have hDD:D2 s Ds Dw (listed.setIfInBounds i true)=Dw:=by funext D;unfold D2;rw [if_pos hl']
  rw [hDD]
  unfold mOp at*
  cases ho:ops[i]? with
  | none=>simp only [ho] at hs ⊢;exact m2_of_m f _ _ _ hl' hs
  | some o=>
   simp only [ho] at hs ⊢
   by_cases hwt:Region.wanted o (yielded ops a.tmps)=true
   ·rw [if_pos hwt] at hs ⊢
    intro w hw
    refine Oper.wp_mono ?_ (hs w hw)
    rintro a' w' ⟨E,e1,e2,e3⟩
    exact⟨E,e1,e2,m2_of_m f _ _ _ hl' e3⟩
   ·rw [if_neg hwt] at hs ⊢
    exact m2_of_m f _ _ _ hl' hs
theorem mOp_putY {DD:WP→Prop}{j:Nat}{oi oj:Oper}{v:Value}(hj:ops[j]? =some oj)(hap:oi.apart ops oj=true)
  (hsi: ∀cs b,oi.op≠ .select cs b) (hsj: ∀cs b,oj.op≠ .select cs b) {K K':Act→WP→Prop} {a:Act} {D:WP} {Y:Act→Prop}
  (hYs: ∀a a',Y a→execOp a'.eval oi=execOp a.eval oi→Region.wanted oi (yielded ops a'.tmps)=Region.wanted oi (yielded ops a.tmps)→Y a')
  (hy:Y a) (hD:DD D) (hKK: ∀a' D',Y a'→DD D'→K (a'.put oi.dst v) D'→K' a' D') (h:mOp P ops DD j K (a.put oi.dst v) D):mOp P ops DD j K' a D:=by
 obtain⟨h1,h2,h3⟩:=Oper.apart_spec hap
 have keep: ∀u,Y (a.put oj.dst u):=fun u=>hYs _ _ hy (execOp_put oi hsi a oj.dst u h3) (wanted_put oi a oj.dst u h3)
 have keepD: ∀d,Y { a with defers:=d::a.defers }:=fun d=>hYs _ _ hy rfl rfl
 have keepDD: ∀d u,Y (({ a with defers:=d::a.defers }:Act).put oj.dst u):=fun d u=>hYs _ _ (keepD d) (execOp_put oi hsi _ oj.dst u h3) (wanted_put oi _ oj.dst u h3)
 unfold mOp at*
 simp only [hj] at*
 rw [wanted_put oj a oi.dst v h1] at h
 split
 ·rename_i hw
  rw [if_pos hw] at h
  intro w hd
  have hh:=h w hd
  unfold Oper.wp at*
  rw [execOp_put oj hsj a oi.dst v h1] at hh
  generalize (execOp a.eval oj).run P w=r at*
  cases r with
  | halt x w'=>cases x<;>exact hh.elim
  | ok nx w'=>
   cases nx<;>simp only [Oper.upon] at hh ⊢
   case value u=>
    obtain⟨D',e1,e2,e3⟩:=hh
    exact⟨D',e1,e2,hKK _ _ (keep u) e1 (by rw [Act.put_comm a u v (fun d hd he=>h2 d he hd)];exact e3)⟩
   case skip=>
    obtain⟨D',e1,e2,e3⟩:=hh
    exact⟨D',e1,e2,hKK _ _ (keep _) e1 (by rw [Act.put_comm a undef v (fun d hd he=>h2 d he hd)];exact e3)⟩
   case defer d=>
    obtain⟨D',e1,e2,e3⟩:=hh
    refine⟨D',e1,e2,hKK _ _ (keepDD d _) e1 ?_⟩
    rw [Act.put_comm _ undef v (fun d hd he=>h2 d he hd), ←Act.put_defers]
    exact e3
   case enter f args=>
    refine Calls.mono hh fun e w'' he=>?_
    cases e with
    | returned u=>
     obtain⟨D',e1,e2,e3⟩:=he
     exact⟨D',e1,e2,hKK _ _ (keep u) e1 (by rw [Act.put_comm a u v (fun d hd he=>h2 d he hd)];exact e3)⟩
    | panicked c=>exact he
    | outgrown=>exact he
   case row row args=>
    exact Rows.mono hh fun u w'' he=>by
     obtain⟨D',e1,e2,e3⟩:=he
     exact⟨D',e1,e2,hKK _ _ (keep u) e1 (by rw [Act.put_comm a u v (fun d hd he=>h2 d he hd)];exact e3)⟩
 ·rename_i hw
  rw [if_neg hw] at h
  exact hKK _ _ (keep _) hD (by rw [Act.put_comm a undef v (fun d hd he=>h2 d he hd)];exact h)
def Closed (md:Region.Mode)(ops:Array Oper)(ls:Array Bool):Prop:= ∀k o,ops[k]? =some o→ls.getD k false=true→ ∀e∈o.after,Region.binds md e=true→ls.getD e.on false=true
theorem Closed.set {ls:Array Bool}{j:Nat}(h:Closed md ops ls)(hj:j∈Region.ready md ops ls):Closed md ops (ls.setIfInBounds j true):=by
 obtain⟨hjun,oj,hoj,hall⟩:=mem_ready.1 hj
 intro k o ho hk e he hb
 by_cases hjk:j=k
 ·subst hjk
  rw [hoj] at ho;cases ho
  exact getD_set_true (hall e he hb)
 ·rw [getD_set_ne false hjk] at hk
  exact getD_set_true (h k o ho hk e he hb)
def closedB (ops:Array Oper)(ls:Array Bool):Bool:=(List.range ops.size).all fun k=>match ops[k]? with
 | none=>true
 | some o=> !(ls.getD k false) || o.after.toList.all fun e=> !(Region.binds .any e) || ls.getD e.on false
theorem closedB_spec {ls:Array Bool}(h:closedB ops ls=true):Closed .any ops ls:=by
 intro k o ho hk e he hb
 have hlt:k<ops.size:=by
  rcases Nat.lt_or_ge k ops.size with q | q
  ·exact q
  ·rw [Array.getElem?_eq_none q] at ho;cases ho
 have h1:=(List.all_eq_true.1 h) k (List.mem_range.2 hlt)
 simp only [ho,hk,Bool.not_true,Bool.false_or] at h1
 have h2:=(List.all_eq_true.1 h1) e (Array.mem_toList_iff.2 he)
 simpa [hb] using h2
def ancB (ops:Array Oper):Nat→Nat→Nat→Bool
 | 0,_,_=>false
 | f+1,s,i=>match ops[s]? with
  | none=>false
  | some o=>o.after.toList.any fun e=>Region.binds .any e && (e.on==i || ancB ops f e.on i)
theorem anc_listed {ls:Array Bool}(hc:Closed .any ops ls): ∀(f s i:Nat),ancB ops f s i=true→ls.getD s false=true→ls.getD i false=true
 | 0,_,_,h,_=>by simp [ancB] at h
 | f+1,s,i,h,hs=>by
  unfold ancB at h
  cases ho:ops[s]? with
  | none=>simp [ho] at h
  | some o=>
   simp only [ho,List.any_eq_true,Bool.and_eq_true,Bool.or_eq_true,beq_iff_eq] at h
   obtain⟨e,he,hb,h⟩:=h
   have h1:=hc s o ho hs e (Array.mem_toList_iff.1 he) hb
   rcases h with rfl | h
   ·exact h1
   ·exact anc_listed hc f _ _ h h1
def Yq (P:Program)(ops:Array Oper)(Ds Dw:WP→Prop)(anc:Bool)(o:Oper)(v:Value)(a:Act):Prop:=if anc=true then myield P ops Ds o v a else myield P ops Dw o v a
theorem mAny2_first (hsub: ∀D,Ds D→Dw D){i:Nat}{oi:Oper}{v:Value}{fu:Nat}(hi:ops[i]? =some oi)(his:i≠s)(hsel: ∀(j:Nat) (o:Oper) cs b,ops[j]? =some o→o.op≠ .select cs b):
  ∀(f:Nat) (listed:Array Bool) (a:Act) (D:WP),D2 s Ds Dw listed D→Closed .any ops listed→
   (∀j oj,ops[j]? =some oj→j≠i→listed.getD j true=false→(∀e∈oj.after,Region.binds .any e=true→e.on≠i)→oi.apart ops oj=true)→
   i∈Region.ready .any ops listed→Yq P ops Ds Dw (ancB ops fu s i) oi v a→
   mAny2 P .any ops s Ds Dw Q f (listed.setIfInBounds i true) (a.put oi.dst v) D→mAny2 P .any ops s Ds Dw Q (f+1) listed a D:=by
 have hmy: ∀(listed:Array Bool) (a:Act),Closed .any ops listed→i∈Region.ready .any ops listed→Yq P ops Ds Dw (ancB ops fu s i) oi v a→myield P ops (D2 s Ds Dw (listed.setIfInBounds i true)) oi v a:=by
  intro listed a hc hr hy
  have hun:=(mem_ready.1 hr).1
  have hset:(listed.setIfInBounds i true).getD s false=listed.getD s false:=getD_set_ne false his
  unfold Yq at hy
  by_cases ha:ancB ops fu s i=true
  ·rw [if_pos ha] at hy
   have hs:listed.getD s false≠true:=fun hs=>by
    have:=anc_listed hc fu s i ha hs
    rw [getD_both hun] at this;cases this
   have:D2 s Ds Dw (listed.setIfInBounds i true)=Ds:=by funext D;unfold D2;rw [hset,if_neg hs]
   rw [this];exact hy
  ·rw [if_neg ha] at hy
   have hle: ∀D,D2 s Ds Dw (listed.setIfInBounds i true) D→Dw D:=fun D h=>by
    unfold D2 at h
    split at h
    ·exact h
    ·exact hsub D h
   rcases hy with ⟨h1,h2⟩ | hy
   ·exact .inl ⟨h1,fun D hD=>h2 D (hle D hD)⟩
   ·exact .inr hy
 have hsame: ∀a a',Yq P ops Ds Dw (ancB ops fu s i) oi v a→execOp a'.eval oi=execOp a.eval oi→Region.wanted oi (yielded ops a'.tmps)=Region.wanted oi (yielded ops a.tmps)→Yq P ops Ds Dw (ancB ops fu s i) oi v a':=by
  intro a a' h he hw
  unfold Yq at*
  split
  ·rename_i q;rw [if_pos q] at h;exact h.same he hw
  ·rename_i q;rw [if_neg q] at h;exact h.same he hw
 have hset: ∀(listed:Array Bool) D,D2 s Ds Dw listed D→D2 s Ds Dw (listed.setIfInBounds i true) D:=fun listed D h=>by
  unfold D2 at*
  rw [getD_set_ne false his];exact h
 intro f
 induction f with
 | zero=>
  intro listed a D hD hc _ hr hy G
  refine⟨fun h=>(by rw [h] at hr;cases hr),fun j hj=>?_⟩
  by_cases hji:j=i
  ·subst hji;exact(hmy listed a hc hr hy).mOp hi (hset _ _ hD) G
  ·have:=ready_mono hj hji
   rw [G.1] at this
   cases this
 | succ f ih=>
  intro listed a D hD hc hfree hr hy G
  refine⟨fun h=>(by rw [h] at hr;cases hr),fun j hj=>?_⟩
  by_cases hji:j=i
  ·subst hji;exact(hmy listed a hc hr hy).mOp hi (hset _ _ hD) G
  ·have h1:=G.2 j (ready_mono hj hji)
   obtain⟨hjun,oj,hoj,hall⟩:=mem_ready.1 hj
   have hnot: ∀e∈oj.after,Region.binds .any e=true→e.on≠i:=fun e he hb heq=>by
    have h1:=hall e he hb
    rw [heq,getD_both (mem_ready.1 hr).1] at h1
    cases h1
   have hcl:D2 s Ds Dw ((listed.setIfInBounds i true).setIfInBounds j true)=D2 s Ds Dw (listed.setIfInBounds j true):=by
    funext E
    unfold D2
    rw [Array.setIfInBounds_comm _ _ (Ne.symm hji),getD_set_ne false his]
   rw [hcl] at h1
   have hDj:D2 s Ds Dw (listed.setIfInBounds j true) D:=by
    unfold D2 at*
    by_cases hjs:j=s
    ·subst hjs
     rw [if_pos (getD_set_self hjun)]
     rw [if_neg (by rw [getD_both hjun];simp)] at hD
     exact hsub D hD
    ·rw [getD_set_ne false hjs];exact hD
   refine mOp_putY hoj (hfree j oj hoj hji hjun hnot) (fun cs b=>hsel i oi cs b hi) (fun cs b=>hsel j oj cs b hoj) hsame hy hDj (fun a' D' hy' hD' hk=>?_) h1
   have hfree': ∀k ok,ops[k]? =some ok→k≠i→(listed.setIfInBounds j true).getD k true=false→
     (∀e∈ok.after,Region.binds .any e=true→e.on≠i)→oi.apart ops ok=true:=fun k ok hk hki hun hno=>by
    refine hfree k ok hk hki ?_ hno
    by_cases hjk:j=k
    ·subst hjk;exact hjun
    ·rw [getD_set_ne true hjk] at hun;exact hun
   refine ih (listed.setIfInBounds j true) a' D' hD' (hc.set hj) hfree' (ready_mono hr (Ne.symm hji)) hy' ?_
   rw [Array.setIfInBounds_comm _ _ hji]
   exact hk
end
section
variable {P:Program} {w0:World} {n:NT} {L:Slots} {H H':List Atom} {Q:Exit→Act→World→Prop} {K:Act→World→Prop} {o:Oper} {d:Nat}
def TriN (P:Program)(w0:World)(ops:Array Oper)(Q:Exit→Act→World→Prop)(s:Nat)(Hk Hs:List Atom)(m:Nat)(ls:Array Bool)(n:NT)(L:Slots)(F:List Atom):Prop:=
 (∃X,Hs=Hk++X)→ ∀a,Has a n L→mAny2 P .any ops s (Dcl w0 Hs) (Dcl w0 Hk) Q m ls a (fun w=>St w0 w (Hs++F))
def MixN (P:Program)(w0:World)(ops:Array Oper)(Q:Exit→Act→World→Prop)(s:Nat)(Hk Hs:List Atom)(m:Nat)(ls:Array Bool):Act→World→Prop:=
 fun a w=> ∃D',Dcl w0 Hs D'∧D' w∧mAny2 P .any ops s (Dcl w0 Hs) (Dcl w0 Hk) Q m ls a D'
theorem Tri.mixN (s:Nat)(Hk Hs:List Atom){id:Nat}{l:List Oper}{F:List Atom}[hm:TMixed P](hp: ∃X,Hs=Hk++X)(p:Pulls H Hs F)(h:TriN P w0 l.toArray Q s Hk Hs l.length (Array.replicate l.length false) n L F):Tri w0 ((Code.region id l.toArray true).wp P Q) n L H:=fun a w ha hw=>by
 refine wp_region_any hm.ok ?_
 have:=any_of_m2 _ _ _ _ { w with drawn:=w.drawn+1 } ((hw.pulls p).drawn (w.drawn+1)) (h hp a ha)
 simp only [List.size_toArray];exact this
theorem TriN.back {ops:Array Oper}{s:Nat}{Hk Hs F:List Atom}{m:Nat}{ls:Array Bool}(hp: ∃X,Hs=Hk++X)(p:Pulls H Hs F)(h:TriN P w0 ops Q s Hk Hs m ls n L F):Tri w0 (MixN P w0 ops Q s Hk Hs m ls) n L H:=fun a w ha hw=>
 ⟨_,⟨F,rfl⟩,hw.pulls p,h hp a ha⟩
theorem Dcl.less {Hk Hs:List Atom}(hp: ∃X,Hs=Hk++X)(D:WP)(h:Dcl w0 Hs D):Dcl w0 Hk D:=by
 obtain⟨X,rfl⟩:=hp
 obtain⟨F,rfl⟩:=h
 exact⟨X++F,by rw [aAs]⟩
def takeN (ops:Array Oper)(ls:Array Bool)(s i:Nat):Bool:=takeB ops ls i && closedB ops ls && !(ls.getD s false) && ancB ops ops.size s i && !(i==s)
def takeP (ops:Array Oper)(ls:Array Bool)(s i:Nat):Bool:=takeB ops ls i && closedB ops ls && !(ls.getD s false) && !(i==s)
theorem TriN.take {ops:Array Oper}{s:Nat}{Hk Hs F:List Atom}{m:Nat}{ls:Array Bool}(i:Nat){v:Value}(ho:ops[i]? =some o)(hB:takeN ops ls s i=true)(hd:o.dst=some d)(hn:Nat.blt d n=true)
  (hy: ∀a,Has a n L→myield P ops (Dcl w0 Hs) o v a) (k:TriN P w0 ops Q s Hk Hs m (ls.setIfInBounds i true) n ((d,v)::L) F):TriN P w0 ops Q s Hk Hs (m+1) ls n L F:=fun hp a ha=>by
 simp only [takeN,takeB,Bool.and_eq_true,Bool.not_eq_true',beq_eq_false_iff_ne] at hB
 obtain⟨⟨⟨⟨⟨⟨b1,b2⟩,b3⟩,b4⟩,b5⟩,b6⟩,b7⟩:=hB
 refine mAny2_first (v:=v) (fu:=ops.size) (Dcl.less hp) ho b7 (Region.noSelect_spec b1) m ls a _ ?_ (closedB_spec b4) (Region.free_spec ho b3) (by simpa using b2) ?_ ?_
 ·unfold D2;rw [if_neg (by rw [b5];simp)];exact⟨F,rfl⟩
 ·unfold Yq;rw [if_pos b6];exact hy a ha
 ·rw [hd];exact k hp _ (ha.put hn v)
theorem TriN.takeP {ops:Array Oper}{s:Nat}{Hk Hs F:List Atom}{m:Nat}{ls:Array Bool}(i:Nat){v:Value}(ho:ops[i]? =some o)(hB:Gv.takeP ops ls s i=true)(hd:o.dst=some d)(hn:Nat.blt d n=true)
  (hy: ∀a,Has a n L→myield P ops (Dcl w0 Hk) o v a) (k:TriN P w0 ops Q s Hk Hs m (ls.setIfInBounds i true) n ((d,v)::L) F):TriN P w0 ops Q s Hk Hs (m+1) ls n L F:=fun hp a ha=>by
 simp only [Gv.takeP,takeB,Bool.and_eq_true,Bool.not_eq_true',beq_eq_false_iff_ne] at hB
 obtain⟨⟨⟨⟨⟨b1,b2⟩,b3⟩,b4⟩,b5⟩,b7⟩:=hB
 refine mAny2_first (v:=v) (fu:=0) (Dcl.less hp) ho b7 (Region.noSelect_spec b1) m ls a _ ?_ (closedB_spec b4) (Region.free_spec ho b3) (by simpa using b2) ?_ ?_
 ·unfold D2;rw [if_neg (by rw [b5];simp)];exact⟨F,rfl⟩
 ·unfold Yq;rw [if_neg (by simp [ancB])];exact hy a ha
 ·rw [hd];exact k hp _ (ha.put hn v)
theorem TriN.q {ops:Array Oper}{s:Nat}{Hk Hs F:List Atom}{m:Nat}{ls:Array Bool}(i:Nat){v:Value}(ho:ops.toList[i]? =some o)(hg:o.guard=none)(hB:takeN ops ls s i=true)(hd:o.dst=some d)(hn:Nat.blt d n=true)
  (h: ∀(F:List Atom) (K:Act→World→Prop),Tri w0 K n ((d,v)::L) (Hs++F)→Tri w0 (OpG P o K (fun _ _ _=>False)) n L (Hs++F)) (k:TriN P w0 ops Q s Hk Hs m (ls.setIfInBounds i true) n ((d,v)::L) F):TriN P w0 ops Q s Hk Hs (m+1) ls n L F:=
 TriN.take i (by rw [←Array.getElem?_toList];exact ho) hB hd hn (myield_of (fun a _=>by simp [Region.wanted,hg]) hd hn h) k
theorem TriN.p {ops:Array Oper}{s:Nat}{Hk Hs F:List Atom}{m:Nat}{ls:Array Bool}(i:Nat){v:Value}(ho:ops.toList[i]? =some o)(hg:o.guard=none)(hB:Gv.takeP ops ls s i=true)(hd:o.dst=some d)(hn:Nat.blt d n=true)
  (h: ∀(F:List Atom) (K:Act→World→Prop),Tri w0 K n ((d,v)::L) (Hk++F)→Tri w0 (OpG P o K (fun _ _ _=>False)) n L (Hk++F)) (k:TriN P w0 ops Q s Hk Hs m (ls.setIfInBounds i true) n ((d,v)::L) F):TriN P w0 ops Q s Hk Hs (m+1) ls n L F:=
 TriN.takeP i (by rw [←Array.getElem?_toList];exact ho) hB hd hn (myield_of (fun a _=>by simp [Region.wanted,hg]) hd hn h) k
theorem mOp_of2 {DD:WP→Prop}{K':Act→WP→Prop}{ops:Array Oper}{H:List Atom}{i:Nat}(ho:ops[i]? =some o){a:Act}(hw:Region.wanted o (yielded ops a.tmps)=true)(ha:Has a n L)
  (h:Tri w0 (OpG P o (fun a w=> ∃D',DD D'∧D' w∧K' a D') (fun _ _ _=>False)) n L H):mOp P ops DD i K' a (fun w=>St w0 w H):=by
 unfold mOp
 simp only [ho]
 rw [if_pos hw]
 intro w hD
 rcases h a w ha hD with g | ⟨_,_,_,g⟩
 ·exact g
 ·exact g.elim
theorem TriN.a {ops:Array Oper}{s:Nat}{Hk Hs F:List Atom}{m:Nat}{ls:Array Bool}(i:Nat)(ho:ops.toList[i]? =some o)(hg:o.guard=none)(hr:decide (Region.ready .any ops ls= [i]) && (!(i==s) && !(ls.getD s false))=true)
  (h:Tri w0 (OpG P o (MixN P w0 ops Q s Hk Hs m (ls.setIfInBounds i true)) (fun _ _ _=>False)) n L (Hs++F)):TriN P w0 ops Q s Hk Hs (m+1) ls n L F:=fun hp a ha=>by
 simp only [Bool.and_eq_true,decide_eq_true_eq,Bool.not_eq_true',beq_eq_false_iff_ne] at hr
 obtain⟨hr,his,hls⟩:=hr
 refine⟨fun h0=>(by rw [h0] at hr;cases hr),fun j hj=>?_⟩
 rw [hr] at hj
 have:j=i:=by simpa using hj
 subst this
 have hcl:D2 s (Dcl w0 Hs) (Dcl w0 Hk) (ls.setIfInBounds j true)=Dcl w0 Hs:=by
  funext D;unfold D2;rw [getD_set_ne false his,if_neg (by rw [hls];simp)]
 rw [hcl]
 exact mOp_of2 (by rw [←Array.getElem?_toList];exact ho) (by simp [Region.wanted,hg]) ha h
theorem TriN.one {ops:Array Oper}{s:Nat}{Hk Hs F:List Atom}{m:Nat}{ls:Array Bool}{i:Nat}(ho:ops.toList[i]? =some o)(hg:o.guard=none)(hb:(!(i==s) && !(ls.getD s false))=true)
  (h:Tri w0 (OpG P o (MixN P w0 ops Q s Hk Hs m (ls.setIfInBounds i true)) (fun _ _ _=>False)) n L (Hs++F)) (hp: ∃X,Hs=Hk++X) (a:Act) (ha:Has a n L):
  mOp P ops (D2 s (Dcl w0 Hs) (Dcl w0 Hk) (ls.setIfInBounds i true)) i (mAny2 P .any ops s (Dcl w0 Hs) (Dcl w0 Hk) Q m (ls.setIfInBounds i true)) a (fun w=>St w0 w (Hs++F)):=by
 simp only [Bool.and_eq_true,Bool.not_eq_true',beq_eq_false_iff_ne] at hb
 obtain⟨his,hls⟩:=hb
 have hcl:D2 s (Dcl w0 Hs) (Dcl w0 Hk) (ls.setIfInBounds i true)=Dcl w0 Hs:=by
  funext D;unfold D2;rw [getD_set_ne false his,if_neg (by rw [hls];simp)]
 rw [hcl]
 exact mOp_of2 (by rw [←Array.getElem?_toList];exact ho) (by simp [Region.wanted,hg]) ha h
theorem TriN.a2 {ops:Array Oper}{s:Nat}{Hk Hs F:List Atom}{m:Nat}{ls:Array Bool}(i j:Nat){oi oj:Oper}(hoi:ops.toList[i]? =some oi)(hoj:ops.toList[j]? =some oj)(hgi:oi.guard=none)(hgj:oj.guard=none)(hr:(decide (Region.ready .any ops ls= [i,j]) && ((!(i==s) && !(ls.getD s false)) && (!(j==s) && !(ls.getD s false))))=true)
  (hi:Tri w0 (OpG P oi (MixN P w0 ops Q s Hk Hs m (ls.setIfInBounds i true)) (fun _ _ _=>False)) n L (Hs++F))
  (hj:Tri w0 (OpG P oj (MixN P w0 ops Q s Hk Hs m (ls.setIfInBounds j true)) (fun _ _ _=>False)) n L (Hs++F)):TriN P w0 ops Q s Hk Hs (m+1) ls n L F:=fun hp a ha=>by
 rw [Bool.and_eq_true,Bool.and_eq_true,decide_eq_true_eq] at hr
 obtain⟨hr,b1,b2⟩:=hr
 refine⟨fun h0=>(by rw [h0] at hr;cases hr),fun k hk=>?_⟩
 rw [hr] at hk
 simp at hk
 rcases hk with rfl | rfl
 ·exact TriN.one hoi hgi b1 hi hp a ha
 ·exact TriN.one hoj hgj b2 hj hp a ha
theorem TriN.a3 {ops:Array Oper}{s:Nat}{Hk Hs F:List Atom}{m:Nat}{ls:Array Bool}(i j l:Nat){oi oj ol:Oper}(hoi:ops.toList[i]? =some oi)(hoj:ops.toList[j]? =some oj)(hok:ops.toList[l]? =some ol)(hgi:oi.guard=none)(hgj:oj.guard=none)(hgk:ol.guard=none)(hr:(decide (Region.ready .any ops ls= [i,j,l]) && ((!(i==s) && !(ls.getD s false)) && ((!(j==s) && !(ls.getD s false)) && (!(l==s) && !(ls.getD s false)))))=true)
  (hi:Tri w0 (OpG P oi (MixN P w0 ops Q s Hk Hs m (ls.setIfInBounds i true)) (fun _ _ _=>False)) n L (Hs++F))
  (hj:Tri w0 (OpG P oj (MixN P w0 ops Q s Hk Hs m (ls.setIfInBounds j true)) (fun _ _ _=>False)) n L (Hs++F))
  (hk:Tri w0 (OpG P ol (MixN P w0 ops Q s Hk Hs m (ls.setIfInBounds l true)) (fun _ _ _=>False)) n L (Hs++F)):TriN P w0 ops Q s Hk Hs (m+1) ls n L F:=fun hp a ha=>by
 rw [Bool.and_eq_true,decide_eq_true_eq] at hr
 obtain⟨hr,hb⟩:=hr
 rw [Bool.and_eq_true] at hb
 obtain⟨b1,hb⟩:=hb
 rw [Bool.and_eq_true] at hb
 obtain⟨b2,b3⟩:=hb
 refine⟨fun h0=>(by rw [h0] at hr;cases hr),fun q hq=>?_⟩
 rw [hr] at hq
 simp at hq
 rcases hq with rfl | rfl | rfl
 ·exact TriN.one hoi hgi b1 hi hp a ha
 ·exact TriN.one hoj hgj b2 hj hp a ha
 ·exact TriN.one hok hgk b3 hk hp a ha
theorem TriN.less {ops:Array Oper}{s:Nat}{Hk Hs F:List Atom}{m:Nat}{ls:Array Bool}(ho:ops.toList[s]? =some o)(hg:o.guard=none)(hr:decide (Region.ready .any ops ls= [s])=true)
  (h:Tri w0 (OpG P o (MixK P w0 ops Q Hk m (ls.setIfInBounds s true)) (fun _ _ _=>False)) n L (Hs++F)):TriN P w0 ops Q s Hk Hs (m+1) ls n L F:=fun hp a ha=>by
 have hr':=of_decide_eq_true hr
 refine⟨fun h0=>(by rw [h0] at hr';cases hr'),fun j hj=>?_⟩
 have hj0:=hj
 rw [hr'] at hj
 have:j=s:=by simpa using hj
 subst this
 have hset:(ls.setIfInBounds j true).getD j false=true:=getD_set_self (mem_ready.1 hj0).1
 have hcl:D2 j (Dcl w0 Hs) (Dcl w0 Hk) (ls.setIfInBounds j true)=Dcl w0 Hk:=by
  funext D;unfold D2;rw [if_pos hset]
 rw [hcl]
 refine mOp_of2 (by rw [←Array.getElem?_toList];exact ho) (by simp [Region.wanted,hg]) ha (fun a' w' ha' hw'=>?_)
 rcases h a' w' ha' hw' with g | ⟨_,_,_,g⟩
 ·refine .inl (Oper.wp_mono ?_ g)
  rintro a'' w'' ⟨D',e1,e2,e3⟩
  exact⟨D',e1,e2,m2_of_m _ _ _ _ hset e3⟩
 ·exact g.elim
end
section
variable {P:Program} {w0:World} {n:NT} {L:Slots} {H R:List Atom} {Q:Exit→Act→World→Prop}
theorem Tri.wpMono {c:Code}{Q1 Q2:Exit→Act→World→Prop}(hQ: ∀e a w,Q1 e a w→Q2 e a w)(h:Tri w0 (c.wp P Q1) n L H):Tri w0 (c.wp P Q2) n L H:=fun a w ha hw=>by
 intro b kk cs
 obtain⟨e,a1,w1,hq,harr⟩:=h a w ha hw b kk cs
 exact⟨e,a1,w1,hQ _ _ _ hq,harr⟩
theorem Tri.seqMeet {α:Type}{c d:Code}(Lx:α→Slots)(Hx:α→List Atom)
  (h:Tri w0 (c.wp P (Exit.then (fun a w=> ∃y,Has a n (Lx y)∧St w0 w (Hx y)) Q)) n L H)
  (k: ∀y,Tri w0 (d.wp P Q) n (Lx y) (Hx y)):Tri w0 ((Code.seq c d).wp P Q) n L H:=
 Tri.seq (Tri.wpMono (fun e a w hq=>by
  cases e with
  | normal=>obtain⟨y,h1,h2⟩:=hq;exact k y a w h1 h2
  | _=>exact hq) h)
theorem Tri.reach {α:Type}{Lx:α→Slots}{Hx:α→List Atom}(y:α)(hL:SubL L (Lx y))(p:Pulls H (Hx y) R):Tri w0 (fun a w=> ∃y,Has a n (Lx y)∧St w0 w (Hx y)) n L H:=fun a w ha hw=>
 ⟨y,ha.sub hL,(hw.pulls p).1,Sat.left (hw.pulls p).2⟩
end
theorem zeroCells_one {z0:Value}{zc:Value}(hz:z0.cells.toList= [zc])(k:Nat):Builtin.zeroCells z0.cells k=(List.replicate k zc).toArray:=by
 have hz':z0.cells= #[zc] :=by rw [←Array.toArray_toList (xs:=z0.cells),hz]
 unfold Builtin.zeroCells
 rw [hz']
 apply Array.ext
 ·simp
 ·intro i h1 h2
  have:i%1=0:=Nat.mod_one i
  simp [this]
theorem appendZ_run {P:Program}{t tn e ty:TypeId}{kn kq:IntKind}{bytes:Nat}{zc:Value}[ht:TSlice P t e][htn:TInt P tn kn][he:TElem P e 1 bytes [zc]]{w:World}{v:Value}{m1 k:Nat}{xs:List Value}(ho:w.ownsRow 0 e 1 v m1 xs)(h1:zc.oneCell'=true)(hb:(m1+k)*bytes≤140737488355328):
  ∃v' w',(Builtin.append_ #[t,tn] ty #[v, .int kq k]).run P w= .ok v' w'∧w.grownBy w' v.ownBlock∧(v'.ownBlock=v.ownBlock∨ ∀b,v'.ownBlock=some b→w.heap.size≤b)∧w'.ownsRow 0 e 1 v' (m1+k) (xs++List.replicate k zc):=by
 obtain⟨i,z0,hi,hz,hsz,hby,hzz,hzs,p1,p2,p4⟩:=he.get
 have hmk:(m1+k)*1≤(m1+k)*bytes:=Nat.mul_le_mul_left _ (by omega)
 have hkb:k*bytes≤(m1+k)*bytes:=Nat.mul_le_mul_right _ (by omega)
 have h63:m1+k≤maxLen:=by unfold maxLen;omega
 have hlen:(xs++List.replicate k zc).length=(m1+k)*1:=by rw [lAp,ho.1,List.length_replicate];omega
 have same:w.grownBy w v.ownBlock:=⟨rfl,rfl,rfl,Nat.le_refl _,fun _ _ _=>rfl⟩
 have hw:IntKind.i64.wrap (k:Int)=k:=by rw [IntKind.wrap_i64];omega
 have h48i: ¬(281474976710656<(k:Int)*(i.bytes:Int)):=by rw [hby, ←Int.natCast_mul];omega
 have hneg: ¬((k:Int)<0):=by omega
 have hw0:IntKind.i64.wrap 0=0:=by rw [IntKind.wrap_i64];omega
 rcases ho.2 with ⟨rfl,rfl⟩ | ⟨gg,cap,cur,rfl,hb1,hb2,hb3,hb4,hb5,hb6⟩
 ·have hx:xs= [] :=List.eq_nil_of_length_eq_zero (by simpa using ho.1)
  subst hx
  by_cases hm0:k=0
  ·subst hm0
   refine⟨_,w, ?_,same, .inl rfl,by simpa using ho⟩
   simp [Builtin.append_,run_underlying ht.ok,run_underlying htn.ok,sizeOf,typeInfo,hi,asInt,asIntOf,hw0]
  ·have hrun:=Lib.run_append_nil_zeros (P:=P) w t tn ty e i z0 kq kn ht.ok htn.ok hi hz k (by omega) (by omega) (by unfold maxLen at h63;omega) (by rw [hby];omega)
   refine⟨_,_,hrun,⟨rfl,rfl,rfl,by simp,fun j hj _=>Below.heap_alloc w.drew _ j hj⟩, .inr (fun b hb=>by simp [Value.ownBlock] at hb;omega), ?_⟩
   simp only [Nat.zero_add,nAp]
   have:=ownsRow_new (w:=w) (e:=e) (bytes:=bytes) (m:=k) (old:=0) (xs:=List.replicate k zc) hzs (by simp) (by omega)
   simp only [zeroCells_one hzz] at this ⊢
   exact this
 ·by_cases hroom:m1+k≤cap
  ·have hfit:m1+k≤cur.size:=by rw [hb5];omega
   have hst:=run_storeCells_at P gg (m1*1) e (List.replicate k zc) 0 cur w hb2 (by simp;omega) (by intro u hu;rw [(List.mem_replicate.1 hu).2];exact h1)
   simp only [Nat.add_zero] at hst
   have hrun:(Builtin.append_ #[t,tn] ty #[.slice (some ⟨gg,0,none⟩) m1 cap, .int kq k]).run P w= .ok (.slice (some ⟨gg,0,none⟩) (m1+k) cap) (w.setRow gg (cur.toList.take (m1*1)++List.replicate k zc++cur.toList.drop (m1*1+(List.replicate k zc).length)).toArray):=by
    by_cases hm0:k=0
    ·subst hm0
     simp only [List.replicate_zero] at hst ⊢
     have hroom':m1≤cap:=hroom
     simp [Builtin.append_,run_underlying ht.ok,run_underlying htn.ok,sizeOf,typeInfo,hi,hsz,asInt,asIntOf,hw0,hroom',zeroValue,hz,Addr.add_lit]
     simp at hst
     rw [hst];simp
    ·have hns: ¬(k*i.size=0):=Nat.mul_ne_zero hm0 (by omega)
     rw [hsz] at hns
     simp [Builtin.append_,run_underlying ht.ok,run_underlying htn.ok,sizeOf,typeInfo,hi,hsz,asInt,asIntOf,hw,hroom,zeroValue,hz,Addr.add_lit,hm0,hneg,h48i,zeroCells_one hzz]
     simp at hst
     rw [hst];simp
   refine⟨_,_,hrun,⟨rfl,rfl,rfl,by simp,fun j _ hk=>setRow_other w gg j _ (fun e=>hk (by simp [Value.ownBlock,e]))⟩, .inl rfl,hlen, .inr ⟨gg,cap,_,rfl,Nat.zero_le _,setRow_heap w gg cur _ e _ hb2,hroom,hb4, ?_, ?_⟩⟩
   ·simp only [List.size_toArray,lAp,lTk,lDp,Array.length_toList,List.length_replicate]
    omega
   ·rw [hb6, ←hlen]
    exact List.take_left
  ·have holds: ∀j u,xs[j]? =some u→w.cell? ((⟨gg,0,none⟩:Addr).add j)=some u:=ho.cells (g:=gg) rfl
   have hfo:=run_firstCells_some (P:=P) w.drew i.size m1 ⟨gg,0,none⟩ m1 cap xs (by rw [hsz];exact ho.1) (by simpa using holds)
   have hrun:=Lib.run_append_grow_zeros (P:=P) w t tn ty e i z0 kq kn ht.ok htn.ok hi hz (some ⟨gg,0,none⟩) m1 cap xs hfo k (by omega) (by omega) (by omega) (by unfold maxLen at h63;omega) (by rw [hby];omega) (growslice_fits (by omega) (by rw [hby];exact hb))
   refine⟨_,_,hrun,⟨rfl,rfl,rfl,by simp,fun j hj _=>Below.heap_alloc w.drew _ j hj⟩, .inr (fun b hb=>by simp [Value.ownBlock] at hb;omega), ?_⟩
   have:=ownsRow_new (w:=w) (e:=e) (bytes:=bytes) (old:=cap) hzs hlen h63
   simp only [zeroCells_one hzz] at this ⊢
   have e:xs.toArray++(List.replicate k zc).toArray=(xs++List.replicate k zc).toArray:=by apply Array.ext';simp only [Array.toList_append]
   rw [e];exact this
section
variable {P:Program} {w0:World} {n:NT} {L:Slots} {H H':List Atom} {Q:Exit→Act→World→Prop} {K:Act→World→Prop} {d:Nat}
variable {ty:TypeId} {pos:String} {aft:Array Edge} {g:Option (Nat×Bool)}
theorem o_appendZ {t tn e:TypeId}{kn kq:IntKind}{bytes:Nat}{zc:Value}[TSlice P t e][TInt P tn kn][TElem P e 1 bytes [zc]]{s x:Operand}{v:Value}{m1 k:Nat}{i:Int}{xs:List Value}(hx:ev L s=some v)(hy:ev L x=some (.int kq i))(hi:i=(k:Int))(p:Pull H (own e 1 v m1 xs) H')(h1:zc.oneCell'=true)(hb:(m1+k)*bytes≤140737488355328)(hn:Nat.blt d n=true)
  (kk: ∀v',Tri w0 K n ((d,v')::L) (own e 1 v' (m1+k) (xs++List.replicate k zc)::H')):
  Tri w0 (OpG P ⟨some d, .call { callee:= .builtin .append,args:= #[s,x],argTypes:= #[t,tn] },ty,pos,aft,g⟩ K Q) n L H:=
 Tri.valW rfl hn (fun a w ha hw=>by
  obtain⟨s',hA⟩:=(hw.pull p).2.head
  subst hi
  obtain⟨v',w',q1,q2,q3,q4⟩:=appendZ_run (P:=P) (t:=t) (tn:=tn) (ty:=ty) (kq:=kq) (k:=k) (own_row hA) h1 hb
  refine⟨v',w', ?_,fun a' ha'=>kk v' a' w' ha' (St.grown (hw.pull p) q4 q3 q2)⟩
  simp [execOp,resolve,invoke,builtin,ha.eval hx,ha.eval hy,q1])
end
theorem own_cut {e:TypeId}{size n k:Nat}{v:Value}{xs:List Value}{h:PH}(ho:own e size v n xs h)(hk:k≤n):own e size (subv v size 0 k) k (xs.take (k*size)) h:=by
 refine⟨?_, ?_⟩
 ·have:=ho.1
  have h2:k*size≤n*size:=Nat.mul_le_mul_right size hk
  rw [lTk];omega
 ·rcases ho.2 with ⟨h1,h0⟩ | ⟨g,cap,cur,h1,h2,h3,h4,h5,h6⟩
  ·subst h1
   obtain rfl:k=0:=by omega
   exact .inl ⟨rfl,rfl⟩
  ·subst h1
   refine .inr ⟨g,cap,cur, ?_,h2,by omega,h4,h5, ?_⟩
   ·unfold subv
    simp only [Nat.zero_mul,Nat.sub_zero,Option.map_some,Addr.add_lit,Nat.add_zero,ite_self]
   ·have h7:k*size≤n*size:=Nat.mul_le_mul_right size hk
    rw [←h6,List.take_take,Nat.min_eq_left h7]
section
variable {P:Program} {w0:World} {n:NT} {L:Slots} {H H':List Atom}
theorem Tri.ownCut {G:Act→World→Prop}{e:TypeId}{size m:Nat}{v:Value}{xs:List Value}(j:Nat)(p:Pull H (own e size v m xs) H')(hj:j≤m)
  (k:Tri w0 G n L (own e size (subv v size 0 j) j (xs.take (j*size))::H')):Tri w0 G n L H:=fun a w ha hw=>by
 obtain⟨he,s,h1,h2,h3⟩:=hw.pull p
 exact k a w ha ⟨he,s,h1,own_cut h2 hj,h3⟩
end
theorem appendN_run {P:Program}{t tn e ty:TypeId}{kn kq:IntKind}{size bytes k:Nat}{z:List Value}[ht:TSlice P t e][htn:TInt P tn kn][he:TElem P e size bytes z]{w:World}(h0:0<k)(hb:k*bytes≤140737488355328):
  ∃v' w',(Builtin.append_ #[t,tn] ty #[.slice none 0 0, .int kq k]).run P w= .ok v' w'∧w.grownBy w' (Value.slice none 0 0).ownBlock∧(v'.ownBlock=(Value.slice none 0 0).ownBlock∨ ∀b,v'.ownBlock=some b→w.heap.size≤b)∧ ∃zs,w'.ownsRow 0 e size v' k zs:=by
 obtain⟨i,z0,hi,hz,hsz,hby,hzz,hzs,p1,p2,p4⟩:=he.get
 have hkb:k*1≤k*bytes:=Nat.mul_le_mul_left _ (by omega)
 have h63:k≤maxLen:=by unfold maxLen;omega
 have hrun:=Lib.run_append_nil_zeros (P:=P) w t tn ty e i z0 kq kn ht.ok htn.ok hi hz k h0 (by omega) (by unfold maxLen at h63;omega) (by rw [hby];omega)
 refine⟨_,_,hrun,⟨rfl,rfl,rfl,by simp,fun j hj _=>Below.heap_alloc w.drew _ j hj⟩, .inr (fun b hb=>by simp [Value.ownBlock] at hb;omega),(Builtin.zeroCells z0.cells k).toList, ?_⟩
 have:=ownsRow_new (w:=w) (e:=e) (bytes:=bytes) (m:=k) (old:=0) (xs:=(Builtin.zeroCells z0.cells k).toList) hzs (by simp [size_zeroCells,hzs]) h63
 simpa using this
section
variable {P:Program} {w0:World} {n:NT} {L:Slots} {H H':List Atom} {Q:Exit→Act→World→Prop} {K:Act→World→Prop} {d:Nat}
variable {ty:TypeId} {pos:String} {aft:Array Edge} {g:Option (Nat×Bool)}
theorem o_cap {T e:TypeId}{x:Operand}{A:Option Addr}{m c:Nat}[ht:TSlice P T e](hx:ev L x=some (.slice A m c))(hn:Nat.blt d n=true)(k:Tri w0 K n ((d, .int .i64 (c:Int))::L) H):
  Tri w0 (OpG P ⟨some d, .call { callee:= .builtin .cap,args:= #[x],argTypes:= #[T] },ty,pos,aft,g⟩ K Q) n L H:=
 Tri.val rfl hn _ (fun a w ha _=>by simp [execOp,resolve,invoke,builtin,ha.eval hx,Builtin.cap_,run_underlying ht.ok,goInt]) k
theorem o_appendN {t tn e:TypeId}{kn kq:IntKind}{size bytes:Nat}{z:List Value}[TSlice P t e][TInt P tn kn][TElem P e size bytes z]{s x:Operand}{k:Nat}{i:Int}(hx:ev L s=some (.slice none 0 0))(hy:ev L x=some (.int kq i))(hi:i=(k:Int))(p:Pull H (own e size (.slice none 0 0) 0 []) H')(h0:0<k)(hb:k*bytes≤140737488355328)(hn:Nat.blt d n=true)
  (kk: ∀v' zs,Tri w0 K n ((d,v')::L) (own e size v' k zs::H')):
  Tri w0 (OpG P ⟨some d, .call { callee:= .builtin .append,args:= #[s,x],argTypes:= #[t,tn] },ty,pos,aft,g⟩ K Q) n L H:=
 Tri.valW rfl hn (fun a w ha hw=>by
  subst hi
  obtain⟨v',w',q1,q2,q3,zs,q4⟩:=appendN_run (P:=P) (t:=t) (tn:=tn) (e:=e) (ty:=ty) (kq:=kq) (w:=w) h0 hb
  refine⟨v',w', ?_,fun a' ha'=>kk v' zs a' w' ha' (St.grown (hw.pull p) q4 q3 q2)⟩
  simp [execOp,resolve,invoke,builtin,ha.eval hx,ha.eval hy,q1])
end
section
variable {P:Program} {w0:World} {n:NT} {L:Slots} {H H':List Atom} {Q:Exit→Act→World→Prop} {K G:Act→World→Prop} {o:Oper} {d:Nat}
variable {ty:TypeId} {pos:String} {aft:Array Edge} {g:Option (Nat×Bool)}
theorem Tri.ownBlk {e:TypeId}{size m:Nat}{v:Value}{xs:List Value}(p:Pull H (own e size v m xs) H')(hm:0<m)
  (k: ∀(g cap:Nat) (rest:List Value),v= .slice (some ⟨g,0,none⟩) m cap→m≤cap∧cap≤maxLen→(xs++rest).length=cap*size→xs.length=m*size→Tri w0 G n L (blk g e (xs++rest)::H')):Tri w0 G n L H:=by
 refine Tri.open p (fun h0 ho=>?_)
 obtain⟨hl,ho⟩:=ho
 rcases ho with ⟨_,h0⟩ | ⟨g,cap,cur,h1,h2,h3,h4,h5,h6⟩
 ·omega
 ·have e1:xs++cur.toList.drop (m*size)=cur.toList:=by rw [←h6];exact List.take_append_drop _ _
  refine Tri.close .head (A:=blk g e (xs++cur.toList.drop (m*size))) ?_ (k g cap (cur.toList.drop (m*size)) h1 ⟨h3,h4⟩ (by rw [e1];simpa using h5) hl)
  show h0 g=_
  rw [e1,h2]
theorem Tri.blkOwn {e:TypeId}{size m g cap:Nat}{xs rest:List Value}(p:Pull H (blk g e (xs++rest)) H')(hc:m≤cap∧cap≤maxLen)(hl:(xs++rest).length=cap*size)(hx:xs.length=m*size)
  (k:Tri w0 G n L (own e size (.slice (some ⟨g,0,none⟩) m cap) m xs::H')):Tri w0 G n L H:=
 Tri.imp p (fun h hb=>⟨hx, .inr ⟨g,cap,_,rfl,hb,hc.1,hc.2,by simpa using hl,by rw [←hx];simp⟩⟩) k
theorem Tri.blkOwn2 {e:TypeId}{size m b cap:Nat}{xs cur:List Value}(p:Pull H (blk b e cur) H')(hc:m≤cap∧cap≤maxLen)(hl:cur.length=cap*size)(hx:xs.length=m*size)(ht:cur.take xs.length=xs)
  (k:Tri w0 G n L (own e size (.slice (some ⟨b,0,none⟩) m cap) m xs::H')):Tri w0 G n L H:=
 Tri.imp p (fun h hb=>⟨hx, .inr ⟨b,cap,_,rfl,hb,hc.1,hc.2,by simpa using hl,by rw [←hx];exact ht⟩⟩) k
end
theorem run_copyG {P:Program}(w:World)(dT sT ty elem:TypeId)(size g o dLen dCap:Nat)(a:Addr)(sLen sCap:Nat)(cur:Array Value)(t:TypeId)(cs:List Value)
  (hu:P.underlying dT=some (.slice elem)) (hs:(P.info? elem).map (·.size)=some size)
  (hg:w.heap[g]? =some (.cells cur t (0,0))) (hn:cs.length=Nat.min sLen dLen*size)
  (hsrc: ∀j v,cs[j]? =some v→w.cell? (a.add j)=some v) (hfit:o+cs.length≤cur.size) (h1: ∀v∈cs,v.oneCell'=true):
  (Builtin.copy_ #[dT,sT] ty #[.slice (some ⟨g,o,none⟩) dLen dCap, .slice (some a) sLen sCap]).run P w=
   .ok (goInt (Nat.min sLen dLen)) (w.setRow g (cur.toList.take o++cs++cur.toList.drop (o+cs.length)).toArray):=by
 have hl:=run_loadCells_list (P:=P) w a cs hsrc
 have hst:=run_storeCells_at P g o t cs 0 cur w hg (by simpa using hfit) h1
 cases hq:P.info? elem with
 | none=>simp [hq] at hs
 | some i=>
  have hi:i.size=size:=by simpa [hq] using hs
  simp [Builtin.copy_,run_underlying hu,Builtin.lenOf,Builtin.firstCells,sizeOf,typeInfo,hq,hi, ←hn,hl,hst]
theorem zeroCells_flat {z0:Value}{z:List Value}(hz:z0.cells.toList=z)(k:Nat):Builtin.zeroCells z0.cells k=((List.replicate k z).flatten).toArray:=by
 have hz':z0.cells=z.toArray:=by rw [←hz]
 unfold Builtin.zeroCells
 rw [hz']
 apply Array.ext'
 simp only [Array.toList_map,Array.toList_range,List.size_toArray]
 induction k with
 | zero=>simp
 | succ k ih=>
  rw [Nat.add_mul,Nat.one_mul,List.range_add,List.map_append,ih,List.replicate_succ',List.flatten_append]
  congr 1
  simp only [List.flatten_cons,List.flatten_nil,List.append_nil,List.map_map]
  apply List.ext_getElem
  ·simp
  ·intro i h1 h2
   simp at h1
   simp [Nat.mod_eq_of_lt h1,h1]
section
variable {P:Program} {w0:World} {n:NT} {L:Slots} {H H' H1 H2:List Atom} {Q:Exit→Act→World→Prop} {K G:Act→World→Prop} {o:Oper} {d:Nat}
variable {ty:TypeId} {pos:String} {aft:Array Edge} {g:Option (Nat×Bool)}
theorem St.newRow {w:World}{e:TypeId}{size m cap:Nat}{xs:List Value}{arr:Array Value}(hw:St w0 w H)(ho:(w.drew.alloc (.cells arr e)).ownsRow 0 e size (.slice (some ⟨w.heap.size,0,none⟩) m cap) m xs):St w0 (w.drew.alloc (.cells arr e)) (own e size (.slice (some ⟨w.heap.size,0,none⟩) m cap) m xs::H):=by
 obtain⟨hl,h | ⟨g',cap',cur,hv,_,h2,h3,h4,h5,h6⟩⟩:=ho
 ·cases h.1
 ·cases hv
  have hnew:(w.drew.alloc (.cells arr e)).heap[w.heap.size]? =some (.cells arr e (0,0)):=Go.heap_alloc_new w.drew _
  rw [hnew] at h2
  cases h2
  exact St.alloc hw.drew _ _ (fun h hb=>⟨hl, .inr ⟨_,cap,_,rfl,hb,h3,h4,h5,h6⟩⟩)
theorem o_copyG {t e T':TypeId}{size:Nat}{x y:Operand}{b o' dl dc:Nat}{u:Value}{m q:Nat}{cur news:List Value}[ht:TSlice P t e][hs:TSize P e size](hx:ev L x=some (.slice (some ⟨b,o',none⟩) dl dc))(hy:ev L y=some u)(p:Pull H (blk b T' cur) H')(hr: ∀w,St w0 w H→RdW w u m news)(hl:q*size≤news.length)(hq:q=min m dl)(hfit:o'+q*size≤cur.length)(h1: ∀y∈news,y.oneCell'=true)(hn:Nat.blt d n=true)
  (k:Tri w0 K n ((d, .int .i64 (q:Int))::L) (blk b T' (cur.take o'++news.take (q*size)++cur.drop (o'+q*size))::H')):
  Tri w0 (OpG P ⟨some d, .call { callee:= .builtin .copy,args:= #[x,y],argTypes:= #[t,t] },ty,pos,aft,g⟩ K Q) n L H:=
 Tri.valW rfl hn (fun a w ha hw=>by
  have hb:=St.blk hw p
  obtain⟨A,c,rfl,hc,_⟩:=id (hr w hw)
  cases A with
  | none=>
   have hnil:news= [] :=by
    obtain⟨A',c',hv',_,hcell⟩:=hr w hw
    cases hv'
    cases news with
    | nil=>rfl
    | cons y ys=>obtain⟨a,ha,_⟩:=hcell 0 y rfl;cases ha
   subst hnil
   have hmq:q*size=0:=Nat.le_zero.1 hl
   rw [hmq] at k
   refine⟨_,w, ?_,fun a' ha'=>k a' w ha' (by have q:=hw.pull p;simp only [Nat.add_zero,List.take_nil,List.append_nil,List.take_append_drop];exact q)⟩
   have hsz:=size_run (P:=P) hs.ok w
   have hqm:((Nat.min m dl:Nat):Int)=(q:Int):=by rw [hq]
   simp [execOp,resolve,invoke,builtin,ha.eval hx,ha.eval hy,Builtin.copy_,run_underlying ht.ok,Builtin.lenOf,Builtin.firstCells,hsz,storeCells,goInt,hqm]
  | some ad=>
   have hnews:=Rd.cellW (hr w hw)
   have hlen:(news.take (q*size)).length=q*size:=by rw [lTk];omega
   have hqm:Nat.min m dl=q:=hq.symm
   have hrun:=run_copyG (P:=P) w t t ty e size b o' dl dc ad m c cur.toArray T' (news.take (q*size)) ht.ok hs.ok hb (by rw [hlen,hqm])
    (fun j v hj=>hnews j v (by rw [List.getElem?_take] at hj;split at hj;exact hj;cases hj)) (by rw [hlen];simpa using hfit) (fun v hv=>h1 v (List.mem_of_mem_take hv))
   rw [hlen,hqm] at hrun
   refine⟨_,_, ?_,fun a' ha'=>k a' _ ha' (upd_row (hw.pull p) _)⟩
   simp [execOp,resolve,invoke,builtin,ha.eval hx,ha.eval hy,hrun,goInt])
theorem o_appendR {t e:TypeId}{size bytes:Nat}{z:List Value}[ht:TSlice P t e][he:TElem P e size bytes z]{s x:Operand}{b m1 cap m2:Nat}{u:Value}{cur news:List Value}(hx:ev L s=some (.slice (some ⟨b,0,none⟩) m1 cap))(hy:ev L x=some u)(p:Pull H (blk b e cur) H')(hr: ∀w,St w0 w H→RdW w u m2 news)(hl:news.length=m2*size)(hm:0<m2)(hroom:m1+m2≤cap)(hfit:m1*size+m2*size≤cur.length)(h1: ∀y∈news,y.oneCell'=true)(hn:Nat.blt d n=true)
  (k:Tri w0 K n ((d, .slice (some ⟨b,0,none⟩) (m1+m2) cap)::L) (blk b e (cur.take (m1*size)++news++cur.drop (m1*size+m2*size))::H')):
  Tri w0 (OpG P ⟨some d, .call { callee:= .builtin .append,args:= #[s,x],argTypes:= #[t,t] },ty,pos,aft,g⟩ K Q) n L H:=
 Tri.valW rfl hn (fun a w ha hw=>by
  obtain⟨i,z0,hi,hz,hsz,hby,hzz,hzs,p1,p2,p4⟩:=he.get
  have hb:=St.blk hw p
  obtain⟨A,c,rfl,hc,_⟩:=id (hr w hw)
  cases A with
  | none=>
   obtain⟨A',c',hv',_,hcell⟩:=hr w hw
   cases hv'
   cases news with
   | nil=>
    have:0<m2*size:=Nat.mul_pos hm p1
    simp at hl;omega
   | cons y ys=>obtain⟨a,ha,_⟩:=hcell 0 y rfl;cases ha
  | some ad=>
   have hnews:=Rd.cellW (hr w hw)
   have hrun:=run_append_room (P:=P) w t ty e i ht.ok hi b m1 cap cur.toArray hb ad m2 c news (by rw [hsz];exact hl) hnews h1 hroom (by rw [hsz,hl];simpa using hfit)
   rw [hsz,hl] at hrun
   refine⟨_,_, ?_,fun a' ha'=>k a' _ ha' (upd_row (hw.pull p) _)⟩
   simp [execOp,resolve,invoke,builtin,ha.eval hx,ha.eval hy,hrun])
theorem St.apart {w:World}{b1 b2:Nat}{T1 T2:TypeId}{c1 c2:List Value}(hw:St w0 w H)(pA:Pull H (Gv.blk b1 T1 c1) H1)(pB:Pull H1 (Gv.blk b2 T2 c2) H2):b1≠b2:=by
 obtain⟨he,s,h1,h2,h3⟩:=hw.pull pA
 obtain⟨s',g1,g2,_⟩:=Sat.pull pB h3
 intro e
 exact(g1 b2 (res_some g2).1).1.2 (e▸(res_some h2).1)
theorem o_overlaps {f : FuncId} {fn : Func} {t tr e TA TB : TypeId} {size va oa la ca vb ob lb cb : Nat} {x y : Operand} {ts : Array TypeId} {csA csB : List Value} (hf : P.funcs[f]? = some fn) (hname : (fn.name == "runtime.NumGoroutine") = false) (hbo : fn.body.isNone = true) (hfn : Extern.findNext fn = none) (hfi : Extern.find fn = some (Extern.SlicesOverlaps.overlaps #[t, t] #[tr])) [ht : TSlice P t e] [hs : TSize P e size]
  (hx:ev L x=some (.slice (some ⟨va,oa,none⟩) la ca)) (hy:ev L y=some (.slice (some ⟨vb,ob,none⟩) lb cb)) (pA:Pull H (blk va TA csA) H1) (pB:Pull H1 (blk vb TB csB) H2) (hB:0<csB.length) (hn:Nat.blt d n=true)
  (k:Tri w0 K n ((d, .bool false)::L) H):Tri w0 (OpG P ⟨some d, .call { callee:= .value (.func f),args:= #[x,y],argTypes:=ts },ty,pos,aft,g⟩ K Q) n L H:=
 Tri.val rfl hn _ (fun a w ha hw=>by
  have hne:=St.apart hw pA pB
  have hA:=St.blk hw pA
  have hBb:=St.blk (hw.pull pA).drop pB
  have hov:=Lib.run_overlaps_apart (P:=P) w t tr e ht.ok size (fun w=>size_run hs.ok w) ⟨va,oa,none⟩ ⟨vb,ob,none⟩ la ca lb cb hne TA TB csA.length csB.length (by simp [World.shape?,hA]) (by simp [World.shape?,hBb]) (by omega) (by simp [World.frozen?,hA]) (by simp [World.frozen?,hA])
  have hc:(callFunc f #[.slice (some ⟨va,oa,none⟩) la ca, .slice (some ⟨vb,ob,none⟩) lb cb]).run P w= .ok (.value (.bool false)) w:=by
   rw [run_callFunc_extern hf hname hbo hfn hfi,hov];rfl
  have e:Act.eval a (.func f)= .func (.func f) #[] #[] :=rfl
  simp [execOp,resolve,Deferred.ofValue,e,invoke,ha.eval hx,ha.eval hy,hc]) k
theorem o_clear {t e T':TypeId}{size bytes:Nat}{z:List Value}{x:Operand}{b o' m c:Nat}{cur:List Value}[ht:TSlice P t e][he:TElem P e size bytes z](hx:ev L x=some (.slice (some ⟨b,o',none⟩) m c))(p:Pull H (blk b T' cur) H')(hfit:o'+m*size≤cur.length)(h1: ∀y∈z,y.oneCell'=true)
  (k:Tri w0 K n L (blk b T' (cur.take o'++(List.replicate m z).flatten++cur.drop (o'+m*size))::H')):
  Tri w0 (OpG P ⟨none, .call { callee:= .builtin .clear,args:= #[x],argTypes:= #[t] },ty,pos,aft,g⟩ K Q) n L H:=fun a w ha hw=>by
 refine .inl ?_
 obtain⟨i,z0,hi,hz,hsz,hby,hzz,hzs,p1,p2,p4⟩:=he.get
 have hb:=St.blk hw p
 have hzl:z.length=size:=by rw [←hzz];simpa using hzs
 have hfl:((List.replicate m z).flatten).length=m*size:=by simp [hzl]
 have hst:=run_storeCells_at P b o' T' ((List.replicate m z).flatten) 0 cur.toArray w hb (by rw [hfl];simpa using hfit) (fun v hv=>by
  obtain⟨l,hl,hvl⟩:=List.mem_flatten.1 hv
  rw [(List.mem_replicate.1 hl).2] at hvl
  exact h1 v hvl)
 rw [hfl] at hst
 simp only [Nat.add_zero] at hst
 have hup:=upd_row (hw.pull p) (cur.take o'++(List.replicate m z).flatten++cur.drop (o'+m*size))
 have hrun:(Builtin.clear_ #[t] ty #[.slice (some ⟨b,o',none⟩) m c]).run P w= .ok (.tuple #[]) (w.setRow b (cur.take o'++(List.replicate m z).flatten++cur.drop (o'+m*size)).toArray):=by
  rcases Nat.eq_zero_or_pos m with h0 | h0
  ·subst h0
   simp [storeCells] at hst
   simp [Builtin.clear_,run_underlying ht.ok]
   exact hst
  ·obtain⟨m',rfl⟩: ∃m',m=m'+1:=⟨m-1,by omega⟩
   simp [Builtin.clear_,run_underlying ht.ok,zeroValue,typeInfo,hi,hz,zeroCells_flat hzz]
   simp at hst
   rw [hst]
   simp
 unfold Oper.wp
 have hex:(execOp a.eval ⟨none, .call { callee:= .builtin .clear,args:= #[x],argTypes:= #[t] },ty,pos,aft,g⟩).run P w= .ok (.value (.tuple #[])) (w.setRow b (cur.take o'++(List.replicate m z).flatten++cur.drop (o'+m*size)).toArray):=by
  simp [execOp,resolve,invoke,builtin,ha.eval hx,hrun]
 rw [hex,Oper.upon_value]
 exact k _ _ ha hup
theorem o_clear0 {t e:TypeId}{size bytes:Nat}{z:List Value}{x:Operand}{A:Option Addr}{c:Nat}[ht:TSlice P t e][he:TElem P e size bytes z](hx:ev L x=some (.slice A 0 c))
  (k:Tri w0 K n L H):
  Tri w0 (OpG P ⟨none, .call { callee:= .builtin .clear,args:= #[x],argTypes:= #[t] },ty,pos,aft,g⟩ K Q) n L H:=fun a w ha hw=>by
 refine .inl ?_
 have hrun:(Builtin.clear_ #[t] ty #[.slice A 0 c]).run P w= .ok (.tuple #[]) w:=by
  cases A<;>simp [Builtin.clear_,run_underlying ht.ok]
 unfold Oper.wp
 have hex:(execOp a.eval ⟨none, .call { callee:= .builtin .clear,args:= #[x],argTypes:= #[t] },ty,pos,aft,g⟩).run P w= .ok (.value (.tuple #[])) w:=by
  simp [execOp,resolve,invoke,builtin,ha.eval hx,hrun]
 rw [hex,Oper.upon_value]
 exact k _ _ ha hw
theorem o_appendZg {t tn e:TypeId}{kn kq:IntKind}{size bytes:Nat}{z:List Value}[ht:TSlice P t e][htn:TInt P tn kn][he:TElem P e size bytes z]{s x:Operand}{A:Option Addr}{m1 cap k:Nat}{i:Int}{xs:List Value}(hx:ev L s=some (.slice A m1 cap))(hy:ev L x=some (.int kq i))(hi:i=(k:Int))(hr: ∀w,St w0 w H→RdW w (.slice A m1 cap) m1 xs)(hl:xs.length=m1*size)(hcap:cap<m1+k)(hb:(m1+k)*bytes≤140737488355328)(hn:Nat.blt d n=true)
  (kk: ∀v',Tri w0 K n ((d,v')::L) (own e size v' (m1+k) (xs++(List.replicate k z).flatten)::H)):
  Tri w0 (OpG P ⟨some d, .call { callee:= .builtin .append,args:= #[s,x],argTypes:= #[t,tn] },ty,pos,aft,g⟩ K Q) n L H:=
 Tri.valW rfl hn (fun a w ha hw=>by
  subst hi
  obtain⟨i0,z0,hi0,hz,hsz,hby,hzz,hzs,p1,p2,p4⟩:=he.get
  obtain⟨A',c',hv',hc,hcell⟩:=hr w hw
  cases hv'
  have hmk:(m1+k)*1≤(m1+k)*bytes:=Nat.mul_le_mul_left _ (by omega)
  have hkb:k*bytes≤(m1+k)*bytes:=Nat.mul_le_mul_right _ (by omega)
  have h63:m1+k≤maxLen:=by unfold maxLen;omega
  have hk0:0<k:=by omega
  have hzl:z.length=size:=by rw [←hzz];simpa using hzs
  have hlen:(xs++(List.replicate k z).flatten).length=(m1+k)*size:=by
   rw [lAp,hl,Nat.add_mul];simp [hzl]
  have hfo:(Builtin.firstCells i0.size m1 (.slice A m1 cap)).run P w.drew= .ok xs.toArray w.drew:=by
   cases A with
   | none=>
    have hnil:xs= [] :=by
     cases xs with
     | nil=>rfl
     | cons y ys=>obtain⟨a,ha,_⟩:=hcell 0 y rfl;cases ha
    subst hnil
    exact run_firstCells_none _ _ _ _ _
   | some ad=>exact run_firstCells_some (P:=P) (w:=w.drew) i0.size m1 ad m1 cap xs (by rw [hsz];exact hl) (fun j v hj=>Rd.cellW (hr w hw) j v hj)
  have hrun:=Lib.run_append_grow_zeros (P:=P) w t tn ty e i0 z0 kq kn ht.ok htn.ok hi0 hz A m1 cap xs hfo k hk0 (by omega) hcap (by unfold maxLen at h63;omega) (by rw [hby];omega) (growslice_fits (by omega) (by rw [hby];exact hb))
  have hnew:=ownsRow_new (w:=w) (e:=e) (bytes:=bytes) (old:=cap) hzs hlen h63
  have e2:xs.toArray++((List.replicate k z).flatten).toArray=(xs++(List.replicate k z).flatten).toArray:=by apply Array.ext';simp only [Array.toList_append]
  rw [zeroCells_flat hzz k,e2] at hrun
  refine⟨_,_, ?_,fun a' ha'=>kk _ a' _ ha' (St.newRow hw hnew)⟩
  simp [execOp,resolve,invoke,builtin,ha.eval hx,ha.eval hy,hrun])
end
end Go.Gv
