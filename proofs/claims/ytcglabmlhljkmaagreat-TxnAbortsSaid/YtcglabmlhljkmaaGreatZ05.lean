/- Texts of this claim, put together: WkPlain3, WkPlain4, TvPlain11, TvPlain6, TvPlain12, TvPlain7, TvPlain8, TvPlain13, TvPlain14, TfPlain, TvPlain15, TvPlain16, TvPlain17, TvPlain18, TvPlain19, TxPlain2, SpPlain, SpPlain2, SpPlain3, BmPut, BmGet, BmBack, DkWalk6, DvWalk2, TxPlain3, TxPlain5, TxPlain6, TxPlain7, TxPlain8, TxPlain9, TxPlain19. -/
import Derived.Test.YtcglabmlhljkmaaGreatZ04
import Derived.Test.YtcglabmlhljkmaaGreatZ03
import Derived.Test.YtcglabmlhljkmaaGreatZ00
import Derived.Test.YtcglabmlhljkmaaGreatZ02
set_option maxHeartbeats 64000000
set_option linter.unusedVariables false
set_option linter.unusedSimpArgs false
namespace Go.Proofs.YtcglabmlhljkmaaGreat
open Go Go.RowKit Go.Gv
def gVL {α:Type}(n:α→Nat)(C:α→Nat)(V:α→Nat→Nat):List α→Nat→Nat
 | [],_=>0
 | x::xs,k=>if k<n x then V x k else C x+gVL n C V xs (k-n x)
theorem wkVL_g {E:Int→List ENT}{C:Int→Nat}{V:Int→Nat→Nat}: ∀(D:List Int) (k:Nat),wkVL E C V D k=gVL (fun d=>(E d).length) C V D k
 | [],_=>rfl
 | d::D,k=>by rw [wkVL,gVL,wkVL_g D]
theorem gVL_zip {α β:Type}{n:α→Nat}{C:α→Nat}{V:α→Nat→Nat}{n':β→Nat}{C':β→Nat}{V':β→Nat→Nat}: ∀(xs:List α) (ys:List β) (k:Nat),xs.length=ys.length→
  (∀(i:Nat) (x:α) (y:β),xs[i]? =some x→ys[i]? =some y→n x=n' y∧C x=C' y∧ ∀k,V x k=V' y k)→gVL n C V xs k=gVL n' C' V' ys k
 | [], [],_,_,_=>rfl
 | [],_::_,_,h,_=>by simp at h
 | _::_, [],_,h,_=>by simp at h
 | x::xs,y::ys,k,h,hp=>by
  obtain⟨h1,h2,h3⟩:=hp 0 x y rfl rfl
  rw [gVL,gVL,h1,h2,h3,gVL_zip xs ys (k-n' y) (by simpa using h) (fun i x y hx hy=>hp (i+1) x y (by simpa using hx) (by simpa using hy))]
theorem gVL_app {α:Type}{n:α→Nat}{C:α→Nat}{V:α→Nat→Nat}: ∀(xs ys:List α) (k:Nat),gVL n C V (xs++ys) k=if k<(xs.map n).sum then gVL n C V xs k else(xs.map C).sum+gVL n C V ys (k-(xs.map n).sum)
 | [],ys,k=>by simp [gVL]
 | x::xs,ys,k=>by
  rw [cAp,gVL,gVL,gVL_app xs ys (k-n x),List.map_cons,List.sum_cons,List.map_cons,List.sum_cons]
  by_cases h1:k<n x
  ·rw [if_pos h1,if_pos h1,if_pos (by omega)]
  ·rw [if_neg h1,if_neg h1]
   by_cases h2:k-n x<(xs.map n).sum
   ·rw [if_pos h2,if_pos (by omega)]
   ·rw [if_neg h2,if_neg (by omega),show k-n x-(xs.map n).sum=k-(n x+(xs.map n).sum) by omega];omega
def gIdx {α:Type}(n:α→Nat):List (List α)→Nat→Nat
 | [],_=>0
 | g::gs,k=>if k<(g.map n).sum then 0 else 1+gIdx n gs (k-(g.map n).sum)
theorem gVL_groups {α:Type}{n:α→Nat}{C:α→Nat}{V:α→Nat→Nat}: ∀(gs:List (List α)) (k:Nat),k<(gs.flatten.map n).sum→
  gVL (fun g:List α=>(g.map n).sum) (fun g=>1+(g.map C).sum) (fun g k=>1+gVL n C V g k) gs k=gVL n C V gs.flatten k+(gIdx n gs k+1)
 | [],k,h=>by simp at h
 | g::gs,k,h=>by
  rw [List.flatten_cons,List.map_append,List.sum_append] at h
  rw [gVL,List.flatten_cons,gVL_app,gIdx]
  by_cases h1:k<(g.map n).sum
  ·rw [if_pos h1,if_pos h1,if_pos h1];omega
  ·rw [if_neg h1,if_neg h1,if_neg h1,gVL_groups gs _ (by omega)];omega
theorem gIdx_div {α:Type}{n:α→Nat}{M m:Nat}(hM:0<M): ∀(gs:List (List α)) (off K:Nat),(∀(J:Nat) (g:List α),gs[J]? =some g→(g.map n).sum=min M (m-(off+J)*M))→off*M≤K→K<m→m≤(off+gs.length)*M→gIdx n gs (K-off*M)=K/M-off
 | [],off,K,_,h1,h2,h3=>by
  rw [List.length_nil,Nat.add_zero] at h3;omega
 | g::gs,off,K,hg,h1,h2,h3=>by
  have h0:=hg 0 g rfl
  rw [Nat.add_zero] at h0
  have e1:(off+1)*M=off*M+M:=by rw [Nat.add_mul,Nat.one_mul]
  rw [gIdx,h0]
  by_cases hk:K-off*M<min M (m-off*M)
  ·rw [if_pos hk]
   have hlt:K<(off+1)*M:=by omega
   have hd:K/M=off:=by
    refine Nat.div_eq_of_lt_le ?_ ?_
    ·exact h1
    ·exact hlt
   rw [hd,Nat.sub_self]
  ·rw [if_neg hk]
   have hge:(off+1)*M≤K:=by omega
   have hmin:min M (m-off*M)=M:=by omega
   rw [hmin,show K-off*M-M=K-(off+1)*M by omega,gIdx_div hM gs (off+1) K (fun J g' hJ=>by rw [hg (J+1) g' (by simpa using hJ),show off+(J+1)=off+1+J by omega]) hge h2 (by rw [lCn,show off+(gs.length+1)=off+1+gs.length by omega] at h3;exact h3)]
   have:off+1≤K/M:=(Nat.le_div_iff_mul_le hM).2 hge
   omega
theorem flat_congr {α β:Type}{f g:α→List β}: ∀{D:List α},(∀d∈D,f d=g d)→D.flatMap f=D.flatMap g
 | [],_=>rfl
 | d::D,h=>by rw [List.flatMap_cons,List.flatMap_cons,h d (List.mem_cons_self ..),flat_congr (fun x hx=>h x (mCm _ hx))]
def wkGc (S:DS)(c:Nat):Nat→Int→Prop
 | 0,_=>False
 | h+1,a=>(∃j:Nat,j<c∧a=(j:Int))∧(rdN S a (decide (h=0))).e=0∧(rdN S a (decide (h=0))).E.length≤1000∧(rdN S a (decide (h=0))).D.length≤1000∧ ∀k∈(rdN S a (decide (h=0))).D,wkGc S c h k
theorem wkGc_G {S:DS}{c:Nat}(hc:c≤1000): ∀(h:Nat) (a:Int),wkGc S c h a→wkG S h a
 | 0,_,hg=>hg.elim
 | h+1,a,⟨⟨j,h1,h2⟩,h3,h4,h5,h6⟩=>⟨by omega,h3,h4,h5,fun k hk=>wkGc_G hc h k (h6 k hk)⟩
def agree (S S':DS)(c:Nat):Prop:= ∀(j:Nat) (lf:Bool),j<c→rdN S' (j:Int) lf=rdN S (j:Int) lf
theorem wkGc_same {S S':DS}{c c':Nat}(hag:agree S S' c)(hc:c≤c'): ∀(h:Nat) (a:Int),wkGc S c h a→wkGc S' c' h a∧wkE S' h a=wkE S h a∧wkC S' h a=wkC S h a∧ ∀k,wkV S' h a k=wkV S h a k
 | 0,_,hg=>hg.elim
 | h+1,a,⟨⟨j,h1,h2⟩,h3,h4,h5,h6⟩=>by
  have e:rdN S' a (decide (h=0))=rdN S a (decide (h=0)):=by rw [h2];exact hag j _ h1
  have ih:=fun k hk=>wkGc_same hag hc h k (h6 k hk)
  refine⟨⟨⟨j,by omega,h2⟩,by rw [e];exact h3,by rw [e];exact h4,by rw [e];exact h5,fun k hk=>?_⟩, ?_, ?_,fun k=>?_⟩
  ·rw [e] at hk;exact(ih k hk).1
  ·rw [wkE,wkE,e,flat_congr (fun k hk=>(ih k hk).2.1)]
  ·rw [wkC,wkC,e,List.map_congr_left (fun k hk=>(ih k hk).2.2.1)]
  ·rw [wkV,wkV,e,wkVL_g,wkVL_g]
   congr 2
   refine gVL_zip _ _ _ rfl (fun i x y hx hy=>?_)
   rw [hx] at hy
   cases hy
   have:=ih x (List.mem_of_getElem? hx)
   exact⟨by rw [this.2.1],this.2.2.1,this.2.2.2⟩
def entX (S:DS)(h:Nat)(x:ND3):List ENT:=x.E++x.D.flatMap (wkE S h)
def nX (S:DS)(h:Nat)(x:ND3):Nat:=(entX S h x).length
def cX (S:DS)(h:Nat)(x:ND3):Nat:=1+(x.D.map (wkC S h)).sum
def vX (S:DS)(h:Nat)(x:ND3)(k:Nat):Nat:=1+if k<x.E.length then 0 else wkVL (wkE S h) (wkC S h) (wkV S h) x.D (k-x.E.length)
def capN (h:Nat):Nat:=7*16 ^ h
theorem capN_pos (h:Nat):0<capN h:=Nat.mul_pos (by decide) (Nat.pow_pos (by decide))
theorem capN_succ (h:Nat):capN (h+1)=capN h*16:=by rw [capN,capN,Nat.pow_succ,Nat.mul_assoc]
def visF:Nat→Nat→Nat
 | 0,k=>k/7+1
 | h+1,k=>visF h k+(k/capN (h+1)+1)
def rise (l:List ENT):Prop:= ∀i j,i<j→j<l.length→lessK (l.getD i ent0).key (l.getD j ent0).key=true
theorem lessK_trans {a b c:KEY}(h1:lessK a b=true)(h2:lessK b c=true):lessK a c=true:=by
 have d: ∀{a b:KEY},lessK a b=true→a.1<b.1∨(a.1=b.1∧a.2<b.2):=by
  intro a b h
  simpa [lessK] using h
 refine less_of ?_
 rcases d h1 with h | ⟨h,h'⟩<;>rcases d h2 with g | ⟨g,g'⟩
 ·exact .inl (by omega)
 ·exact .inl (by omega)
 ·exact .inl (by omega)
 ·exact .inr ⟨by omega,by omega⟩
theorem rise_of {l:List ENT}(h:loadOk l):rise l:=by
 intro i j hij
 induction j with
 | zero=>omega
 | succ j ih=>
  intro hj
  have h1:=(h.2.1 (j+1) (by omega) hj).1
  rw [Nat.add_sub_cancel] at h1
  by_cases e:i=j
  ·rw [e];exact h1
  ·exact lessK_trans (ih (by omega) (by omega)) h1
structure Lev (l:List ENT)(h c:Nat)(v:VS)(xs:List ND3):Prop where
 vc:VC c v
 c2:2≤c
 n1:1≤xs.length
 cnt:xs.length=(l.length+capN h-1)/capN h
 ok: ∀x∈xs,rightN (decide (h=0)) x.E x.K x.D=true∧(∀e∈x.E,entR e)∧(∀k∈x.K,keyR k)∧ ∀d∈x.D,wkGc v.S c h d
 sz: ∀(i:Nat) (x:ND3),xs[i]? =some x→nX v.S h x=min (capN h) (l.length-i*capN h)∧least3 (decide (h=0)) x=(l.getD (i*capN h) ent0).key
 ents:xs.flatMap (entX v.S h)=l
 vis: ∀k,k<l.length→gVL (nX v.S h) (cX v.S h) (vX v.S h) xs k=visF h k
 tot:(xs.map (cX v.S h)).sum=visF h (l.length-1)
theorem right_len {leaf:Bool}{x:ND3}(hr:rightN leaf x.E x.K x.D=true):x.E.length≤1000∧x.D.length≤1000:=by
 cases leaf
 ·rw [rightN,if_neg (by simp),Bool.and_eq_true,decide_eq_true_eq] at hr
  have:=innerB_spec hr.2
  omega
 ·rw [rightN,if_pos rfl,Bool.and_eq_true,Bool.and_eq_true,decide_eq_true_eq,decide_eq_true_eq] at hr
  have:=leaf_spec hr.2.2
  omega
theorem keysTo_of {ks:List KEY}: ∀n,(∀i,i<n→keyAt ks i=true)→keysTo ks n=true
 | 0,_=>rfl
 | n+1,h=>by rw [keysTo,keysTo_of n (fun i hi=>h i (by omega)),h n (by omega)];rfl
theorem kidsTo_of {ks:List Int}: ∀n,(∀i,i<n→kidAt ks i=true)→kidsTo ks n=true
 | 0,_=>rfl
 | n+1,h=>by rw [kidsTo,kidsTo_of n (fun i hi=>h i (by omega)),h n (by omega)];rfl
theorem cutL_get {α:Type}(l:List α)(lo hi i:Nat)(h:lo+i<hi):(cutL l lo hi)[i]? =l[lo+i]? :=by
 rw [cutL,List.getElem?_take,if_pos (by omega),List.getElem?_drop]
theorem chunks_flat {α:Type}(D:List α): ∀(q:Nat),q≤(D.length+15)/16→((List.range q).map fun j=>cutL D (j*16) (min (j*16+16) D.length)).flatten=D.take (min (q*16) D.length)
 | 0,_=>by simp
 | q+1,h=>by
  rw [List.range_succ,List.map_append,List.flatten_append,chunks_flat D q (by omega)]
  simp only [List.map_cons,List.map_nil,List.flatten_cons,List.flatten_nil,List.append_nil]
  have h1:min (q*16) D.length=q*16:=by omega
  have h2:min ((q+1)*16) D.length=min (q*16+16) D.length:=by omega
  rw [h1,h2,cutL]
  have h3:q*16≤min (q*16+16) D.length:=by omega
  generalize min (q*16+16) D.length=b at*
  have:D.take b=D.take (q*16)++(D.drop (q*16)).take (b-q*16):=by
   rw [←List.take_append_drop (q*16) (D.take b),List.take_take,Nat.min_eq_left h3,List.drop_take]
  rw [this]
theorem sum_flat {α β:Type}{f:α→List β}: ∀D:List α,(D.flatMap f).length=(D.map fun d=>(f d).length).sum
 | [] =>rfl
 | d::D=>by rw [List.flatMap_cons,lAp,sum_flat D,List.map_cons,List.sum_cons]
theorem ceil_ceil (m N:Nat)(hN:0<N):((m+N-1)/N+15)/16=(m+N*16-1)/(N*16):=by
 have e:m+N*16-1=(m+N-1)+N*15:=by omega
 rw [←Nat.div_div_eq_div_mul,e,Nat.add_mul_div_left _ _ hN]
theorem pre_len {f:Int→List ENT}{D:List Int}{N m:Nat}(hs: ∀(i:Nat) (d:Int),D[i]? =some d→(f d).length=min N (m-i*N)): ∀i,i≤D.length→((D.take i).flatMap f).length=min (i*N) m
 | 0,_=>by simp
 | i+1,hi=>by
  obtain⟨d,hd⟩: ∃d,D[i]? =some d:=⟨_,gEe (by omega)⟩
  rw [wk_take hd,pre_len hs i (by omega),hs i d hd,Nat.add_mul,Nat.one_mul]
  generalize i*N=A
  omega
def headK (S:DS)(h:Nat)(d:Int):KEY:=((wkE S h d).headD ent0).key
def pgN (S:DS):Nat→Int→List Nat
 | 0,_=> []
 | h+1,a=>a.toNat::(rdN S a (decide (h=0))).D.flatMap (pgN S h)
def ndG (g:GOT):ND3:=⟨g.E,g.K,g.D⟩
def tkG (S:DS)(k:Nat)(mu:Nat→Nat):Nat→Nat→Int→Prop
 | 0,_,_=>False
 | h+1,m,a=>(∃p:Nat,a=(p:Int)∧2≤p∧p<k)∧(rdN S a (decide (h=0))).e=0∧(rdN S a (decide (h=0))).leaf=decide (h=0)∧
  okN (decide (h=0)) (ndG (rdN S a (decide (h=0))))∧(1≤szN (decide (h=0)) (ndG (rdN S a (decide (h=0))))∧m≤szN (decide (h=0)) (ndG (rdN S a (decide (h=0))))∧szN (decide (h=0)) (ndG (rdN S a (decide (h=0))))≤mostN (decide (h=0)))∧
  (∀d∈(rdN S a (decide (h=0))).D,tkG S k mu h (mu h) d)∧(rdN S a (decide (h=0))).K=(rdN S a (decide (h=0))).D.map (headK S h)
def okX (S:DS)(k:Nat)(mu:Nat→Nat)(h:Nat)(y:ND3):Prop:=
 okN (decide (h=0)) y∧1≤szN (decide (h=0)) y∧(∀d∈y.D,tkG S k mu h (mu h) d)∧y.K=y.D.map (headK S h)
def pagX (S:DS)(h:Nat)(y:ND3):List Nat:=y.D.flatMap (pgN S h)
theorem tkG_okX {S:DS}{k:Nat}{mu:Nat→Nat}{h m:Nat}{a:Int}(g:tkG S k mu (h+1) m a):okX S k mu h (ndG (rdN S a (decide (h=0)))):=⟨g.2.2.2.1,g.2.2.2.2.1.1,g.2.2.2.2.2.1,g.2.2.2.2.2.2⟩
theorem wkE_succ (S:DS)(h:Nat)(a:Int):wkE S (h+1) a=entX S h (ndG (rdN S a (decide (h=0)))):=rfl
theorem pgN_succ (S:DS)(h:Nat)(a:Int):pgN S (h+1) a=a.toNat::pagX S h (ndG (rdN S a (decide (h=0)))):=rfl
def same (S S':DS)(P:List Nat):Prop:= ∀p,(p∈P∨p<2)→pgAt S'.V p=pgAt S.V p∧ ∀lf,rdN S' (p:Int) lf=rdN S (p:Int) lf
theorem same.rfl {S:DS}{P:List Nat}:same S S P:=fun _ _=>⟨Eq.refl _,fun _=>Eq.refl _⟩
theorem same.sub {S S':DS}{P Q:List Nat}(h:same S S' P)(hs: ∀p∈Q,p∈P):same S S' Q:=fun p hp=>h p (hp.imp (hs p) id)
theorem same.trans {S S' S'':DS}{P:List Nat}(h:same S S' P)(h':same S' S'' P):same S S'' P:=fun p hp=>⟨by rw [(h' p hp).1,(h p hp).1],fun lf=>by rw [(h' p hp).2 lf,(h p hp).2 lf]⟩
theorem same.rd {S S':DS}{P:List Nat}(h:same S S' P){p:Nat}(hp:p∈P)(lf:Bool):rdN S' (p:Int) lf=rdN S (p:Int) lf:=(h p (.inl hp)).2 lf
theorem tk_same {S S':DS}{k:Nat}{mu:Nat→Nat}: ∀(h m:Nat) (a:Int),tkG S k mu h m a→same S S' (pgN S h a)→tkG S' k mu h m a∧wkE S' h a=wkE S h a∧pgN S' h a=pgN S h a
 | 0,_,_,g,_=>g.elim
 | h+1,m,a,g,sm=>by
  obtain⟨⟨p,hp,hp2⟩,g1,g2,g3,g4,g5,g6⟩:=g
  have hr:rdN S' a (decide (h=0))=rdN S a (decide (h=0)):=by
   have:=sm.rd (p:=p) (by rw [pgN,hp];exact List.mem_cons_self ..) (decide (h=0))
   rw [hp];exact this
  have ih:=fun d (hd:d∈(rdN S a (decide (h=0))).D)=>tk_same h (mu h) d (g5 d hd) (sm.sub (fun q hq=>by
   rw [pgN]
   exact mCm _ (List.mem_flatMap.2 ⟨d,hd,hq⟩)))
  refine⟨⟨⟨p,hp,hp2⟩,by rw [hr];exact g1,by rw [hr];exact g2,by rw [hr];exact g3,by rw [hr];exact g4,fun d hd=>by rw [hr] at hd;exact(ih d hd).1, ?_⟩, ?_, ?_⟩
  ·rw [hr,g6]
   exact List.map_congr_left (fun d hd=>by rw [headK,headK,(ih d hd).2.1])
  ·rw [wkE,wkE,hr,flat_congr (fun d hd=>(ih d hd).2.1)]
  ·rw [pgN,pgN,hr,flat_congr (fun d hd=>(ih d hd).2.2)]
theorem ok_same {S S':DS}{k:Nat}{mu:Nat→Nat}{h:Nat}{y:ND3}(g:okX S k mu h y)(sm:same S S' (pagX S h y)):okX S' k mu h y∧entX S' h y=entX S h y∧pagX S' h y=pagX S h y:=by
 obtain⟨g3,g4,g5,g6⟩:=g
 have ih:=fun d (hd:d∈y.D)=>tk_same h (mu h) d (g5 d hd) (sm.sub (fun q hq=>List.mem_flatMap.2 ⟨d,hd,hq⟩))
 refine⟨⟨g3,g4,fun d hd=>(ih d hd).1, ?_⟩, ?_, ?_⟩
 ·rw [g6]
  exact List.map_congr_left (fun d hd=>by rw [headK,headK,(ih d hd).2.1])
 ·rw [entX,entX,flat_congr (fun d hd=>(ih d hd).2.1)]
 ·rw [pagX,pagX,flat_congr (fun d hd=>(ih d hd).2.2)]
theorem tk_ne {S:DS}{k:Nat}{mu:Nat→Nat}: ∀(h m:Nat) (a:Int),tkG S k mu h m a→wkE S h a≠ []
 | 0,_,_,g=>g.elim
 | h+1,m,a,g=>by
  obtain⟨_,_,_,g3,g4,g5,_⟩:=g
  rw [wkE]
  by_cases h0:h=0
  ·subst h0
   have:1≤(rdN S a (decide (0=0))).E.length:=g4.1
   intro c
   rw [List.append_eq_nil_iff] at c
   rw [c.1] at this
   exact absurd this (by decide)
  ·rw [dFf h0] at g3 g4 g5 ⊢
   have:1≤(rdN S a false).D.length:=g4.1
   obtain⟨d,D,hD⟩: ∃d D,(rdN S a false).D=d::D:=by
    cases hh:(rdN S a false).D with
    | nil=>rw [hh] at this;exact absurd this (by decide)
    | cons d D=>exact⟨d,D,rfl⟩
   intro c
   rw [List.append_eq_nil_iff] at c
   have c2:=c.2
   rw [hD,List.flatMap_cons,List.append_eq_nil_iff] at c2
   exact tk_ne h (mu h) d (g5 d (by rw [hD];exact List.mem_cons_self ..)) c2.1
theorem tk_page {S:DS}{k:Nat}{mu:Nat→Nat}{h m:Nat}{a:Int}(g:tkG S k mu h m a): ∃p:Nat,a=(p:Int)∧(2≤p∧p<k)∧ ∃l,pgN S h a=p::l:=by
 cases h with
 | zero=>exact g.elim
 | succ h=>
  obtain⟨⟨p,hp,hp2⟩,_⟩:=g
  subst hp
  exact⟨p,rfl,hp2,(rdN S (p:Int) (decide (h=0))).D.flatMap (pgN S h),rfl⟩
theorem head_app {l m:List ENT}(h:l≠ []):(l++m).headD ent0=l.headD ent0:=by
 cases l with
 | nil=>exact absurd rfl h
 | cons x l=>rfl
theorem least_head {S:DS}{k:Nat}{mu:Nat→Nat}{h:Nat}{y:ND3}(g:okX S k mu h y):least3 (decide (h=0)) y=((entX S h y).headD ent0).key:=by
 obtain⟨g3,g4,g5,g6⟩:=g
 by_cases h0:h=0
 ·subst h0
  obtain⟨hK,hD⟩:=g3
  rw [entX,hD,List.flatMap_nil,List.append_nil]
  show leastN true y.E y.K=_
  have:1≤y.E.length:=g4
  cases hE:y.E with
  | nil=>rw [hE] at this;exact absurd this (by decide)
  | cons e E=>rfl
 ·rw [dFf h0] at g3 g4 ⊢
  obtain⟨hE,hK⟩:=g3
  have:1≤y.D.length:=g4
  obtain⟨d,D,hD⟩: ∃d D,y.D=d::D:=by
   cases hh:y.D with
   | nil=>rw [hh] at this;exact absurd this (by decide)
   | cons d D=>exact⟨d,D,rfl⟩
  rw [entX,hE,nAp,hD,List.flatMap_cons,head_app (tk_ne h (mu h) d (g5 d (by rw [hD];exact List.mem_cons_self ..)))]
  show leastN false y.E y.K=_
  rw [g6,hD,hE];rfl
theorem tk_written {S S':DS}{k:Nat}{mu:Nat→Nat}{h m t:Nat}{y:ND3}(g:okX S k mu h y)(sm:same S S' (pagX S h y))(hr:rdN S' (t:Int) (decide (h=0))=⟨decide (h=0),y.E,y.K,y.D,0⟩)(ht:2≤t∧t<k)(hm:m≤szN (decide (h=0)) y)(hM:szN (decide (h=0)) y≤mostN (decide (h=0))):
  tkG S' k mu (h+1) m (t:Int)∧wkE S' (h+1) (t:Int)=entX S h y∧pgN S' (h+1) (t:Int)=t::pagX S h y:=by
 obtain⟨⟨g3,g4,g5,g6⟩,e1,e2⟩:=ok_same g sm
 have hn:ndG (rdN S' (t:Int) (decide (h=0)))=y:=by rw [hr];rfl
 refine⟨⟨⟨t,rfl,ht⟩,by rw [hr],by rw [hr],by rw [hn];exact g3,by rw [hn];exact⟨g4,hm,hM⟩,fun d hd=>by rw [hr] at hd;exact g5 d hd,by rw [hr];exact g6⟩, ?_, ?_⟩
 ·rw [wkE_succ,hn,e1]
 ·rw [pgN_succ,hn,e2];rfl
def ordE (l:List ENT):Prop:=l.Pairwise (fun a b=>afterE a b=true)∧ ∀e∈l,entOk e=true∧entR e
theorem ordE.sub {l l':List ENT}(h:ordE l)(s:l'.Sublist l):ordE l':=⟨h.1.sublist s,fun e he=>h.2 e (s.subset he)⟩
theorem entsTo_of {E:List ENT}: ∀n,(∀i,i<n→entAt E i=true)→entsTo E n=true
 | 0,_=>rfl
 | n+1,h=>by rw [entsTo,entsTo_of n (fun i hi=>h i (by omega)),h n (by omega)];rfl
theorem getD_at {α:Type}{l:List α}{d:α}{i:Nat}(h:i<l.length):l.getD i d=l[i] :=by
 rw [gDe,gEe h];rfl
theorem after_less {a b:ENT}(h:afterE a b=true):lessK a.key b.key=true:=by
 rw [afterE,Bool.and_eq_true] at h
 exact h.1
theorem ent_keyOk {e:ENT}(h:entOk e=true):keyOk e.key=true:=by
 simp only [entOk,Bool.and_eq_true] at h
 exact h.1.1.1.1.1.1
theorem betw_i {n low high:Int}(h1:low≤n)(h2:n≤high):betw n low high=true:=by
 rw [betw,dTt h1,dTt h2];rfl
theorem heads_sub {S:DS}{h:Nat}: ∀(D:List Int),(∀d∈D,wkE S h d≠ [])→(D.map (fun d=>(wkE S h d).headD ent0)).Sublist (D.flatMap (wkE S h))
 | [],_=>List.Sublist.slnil
 | d::D,hn=>by
  rw [List.map_cons,List.flatMap_cons]
  have ih:=heads_sub D (fun d hd=>hn d (mCm _ hd))
  cases hw:wkE S h d with
  | nil=>exact absurd hw (hn d (List.mem_cons_self ..))
  | cons e l=>exact List.Sublist.cons_cons _ (ih.trans (List.sublist_append_right _ _))
theorem pages_sub {S:DS}{k:Nat}{mu:Nat→Nat}{h:Nat}: ∀(D:List Int),(∀d∈D,tkG S k mu h (mu h) d)→(D.map Int.toNat).Sublist (D.flatMap (pgN S h))
 | [],_=>List.Sublist.slnil
 | d::D,hn=>by
  rw [List.map_cons,List.flatMap_cons]
  have ih:=pages_sub D (fun d hd=>hn d (mCm _ hd))
  obtain⟨p,hp,_,l,hl⟩:=tk_page (hn d (List.mem_cons_self ..))
  rw [hl,hp]
  exact List.Sublist.cons_cons _ (ih.trans (List.sublist_append_right _ _))
theorem nodeRight_of {S:DS}{k:Nat}{mu:Nat→Nat}{h:Nat}{y:ND3}(g:okX S k mu h y)(hk:k≤512)(hM:szN (decide (h=0)) y≤mostN (decide (h=0)))(ho:ordE (entX S h y))(hp:(pagX S h y).Nodup):
  rightN (decide (h=0)) y.E y.K y.D=true∧(∀e∈y.E,entR e)∧ ∀q∈y.K,keyR q:=by
 obtain⟨g3,g4,g5,g6⟩:=g
 have hER: ∀e∈y.E,entR e:=fun e he=>(ho.2 e (by rw [entX];exact mAl _ he)).2
 by_cases h0:h=0
 ·subst h0
  obtain⟨hK,hD⟩:=g3
  have hoE:ordE y.E:=by
   rw [entX,hD,List.flatMap_nil,List.append_nil] at ho
   exact ho
  have hl1:1≤y.E.length:=g4
  have hl2:y.E.length≤7:=hM
  refine⟨?_,hER,fun q hq=>by rw [hK] at hq;cases hq⟩
  have he:entsTo y.E y.E.length=true:=entsTo_of _ (fun i hi=>by
   have hok:=(hoE.2 (y.E.getD i ent0) (by rw [getD_at hi];exact List.getElem_mem hi)).1
   rw [entAt,hok,Bool.true_and]
   rcases Nat.eq_zero_or_pos i with q | q
   ·rw [dTt q];rfl
   ·have:=List.pairwise_iff_getElem.1 hoE.1 (i-1) i (by omega) hi (by omega)
    rw [getD_at hi,getD_at (show i-1<y.E.length by omega),this,Bool.or_true])
  show (decide (y.K.length=0) && (decide (y.D.length=0) && (entsTo y.E y.E.length && betw (y.E.length:Int) 1 7)))=true
  rw [hK,hD,he,betw_i (show (1:Int)≤(y.E.length:Int) by omega) (show (y.E.length:Int)≤7 by omega)];rfl
 ·rw [dFf h0] at g3 g4 hM ⊢
  obtain⟨hE,hK⟩:=g3
  have hl1:1≤y.D.length:=g4
  have hl2:y.D.length≤16:=hM
  rw [entX,hE,nAp] at ho
  have hne: ∀d∈y.D,wkE S h d≠ [] :=fun d hd=>tk_ne h (mu h) d (g5 d hd)
  obtain⟨T,hT⟩: ∃T,T=y.D.map (fun d=>(wkE S h d).headD ent0):=⟨_,rfl⟩
  have hoT:ordE T:=by rw [hT];exact ho.sub (heads_sub y.D hne)
  have hTl:T.length=y.D.length:=by rw [hT,List.length_map]
  have hKT:y.K=T.map (fun e=>e.key):=by rw [g6,hT,List.map_map];rfl
  have hKl:y.K.length=y.D.length:=hK
  have hKi: ∀i,i<y.D.length→y.K.getD i (0,0)=(T.getD i ent0).key:=fun i hi=>by
   rw [hKT,getD_at (show i<(T.map (fun e:ENT=>e.key)).length by rw [List.length_map];omega),getD_at (show i<T.length by omega),List.getElem_map]
  have hks:keysTo y.K y.K.length=true:=keysTo_of _ (fun i hi=>by
   have hi':i<T.length:=by omega
   have hok:=(hoT.2 (T.getD i ent0) (by rw [getD_at hi'];exact List.getElem_mem hi')).1
   rw [keyAt,hKi i (by omega),ent_keyOk hok,Bool.true_and]
   rcases Nat.eq_zero_or_pos i with q | q
   ·rw [dTt q];rfl
   ·have:=List.pairwise_iff_getElem.1 hoT.1 (i-1) i (by omega) hi' (by omega)
    rw [hKi (i-1) (by omega),getD_at hi',getD_at (show i-1<T.length by omega),after_less this,Bool.or_true])
  have hnd:y.D.Nodup:=by
   have:=hp.sublist (pages_sub y.D g5)
   exact List.Pairwise.of_map Int.toNat (fun a b hab c=>hab (by rw [c])) this
  have hds:kidsTo y.D y.D.length=true:=kidsTo_of _ (fun i hi=>by
   obtain⟨p,hp1,hp2,_⟩:=tk_page (g5 (y.D.getD i 0) (by rw [getD_at hi];exact List.getElem_mem hi))
   rw [kidAt,betw_i (show (2:Int)≤y.D.getD i 0 by omega) (show y.D.getD i 0≤511 by omega),Bool.true_and]
   rw [Bool.not_eq_true',decide_eq_false_iff_not]
   intro c
   rw [getD_at hi] at c
   obtain⟨j,hj,hje⟩:=List.getElem_of_mem c
   rw [lTk] at hj
   rw [List.getElem_take] at hje
   exact(List.pairwise_iff_getElem.1 hnd j i (by omega) hi (by omega)) hje)
  refine⟨?_,hER,fun q hq=>?_⟩
  ·show (decide (y.E.length=0) && (keysTo y.K y.K.length && kidsTo y.D y.D.length && decide (y.K.length=y.D.length) && betw (y.D.length:Int) 1 16))=true
   rw [hE,hks,hds,dTt hKl,betw_i (show (1:Int)≤(y.D.length:Int) by omega) (show (y.D.length:Int)≤16 by omega)];rfl
  ·rw [hKT] at hq
   obtain⟨e,he,rfl⟩:=List.mem_map.1 hq
   exact(hoT.2 e he).2.1
def nd0:ND3:=⟨[], [], []⟩
def lwN:Nat→VS→Int→VS×(Int×Nat)×Nat
 | 0,v,a=>(v,(a,0),0)
 | 1,v,a=>(v,(a,1),0)
 | h+2,v,a=>if 1<(rdN v.S a false).D.length then(v,(a,h+2),0) else lwN (h+1) (giN v a).1 ((rdN v.S a false).D.getD 0 0)
def lwG:Nat→VS→Int→Prop
 | 0,_,_=>True
 | 1,_,_=>True
 | h+2,v,a=>(-1000000≤a∧a≤1000000)∧(rdN v.S a false).e=0∧1≤(rdN v.S a false).D.length∧(rdN v.S a false).D.length≤1000∧(giN v a).2=0∧lwG (h+1) (giN v a).1 ((rdN v.S a false).D.getD 0 0)
theorem lwN_one {h:Nat}(v:VS)(a:Int)(hh:h≤1):lwN h v a=(v,(a,h),0):=by
 rcases h with _ | _ | h
 ·rfl
 ·rfl
 ·omega
def sgN (leaf:Bool)(v:VS)(xs:List ND3)(h:Nat):VS×(Int×Nat)×Nat:=
 if xs.length=0∨szN leaf (xs.getD 0 nd0)=0 then(v,(0,0),0)
 else if leaf=false∧szN leaf (xs.getD 0 nd0)=1 then lwN (h-1) v ((xs.getD 0 nd0).D.getD 0 0)
 else((wrN v leaf (xs.getD 0 nd0)).1,((wrN v leaf (xs.getD 0 nd0)).2.1,h),(wrN v leaf (xs.getD 0 nd0)).2.2)
def sgG (leaf:Bool)(v:VS)(xs:List ND3)(h:Nat):Prop:=
 xs.length≤1∧(leaf=false→szN leaf (xs.getD 0 nd0)=1→1≤h∧lwG (h-1) v ((xs.getD 0 nd0).D.getD 0 0))
def roN:Nat→Bool→VS→List ND3→Nat→VS×(Int×Nat)×Nat
 | 0,leaf,v,xs,h=>if 5<h then(v,(0,0),5) else sgN leaf v xs h
 | f+1,leaf,v,xs,h=>
  if 1<xs.length then
   if(unN leaf v xs).2.2=0 then roN f false (unN leaf v xs).1 (splitN false (unN leaf v xs).2.1) (h+1) else((unN leaf v xs).1,(0,0),(unN leaf v xs).2.2)
  else if 5<h then(v,(0,0),5) else sgN leaf v xs h
def roG:Nat→Bool→VS→List ND3→Nat→Prop
 | 0,leaf,v,xs,h=>xs.length≤1∧(h≤5→sgG leaf v xs h)
 | f+1,leaf,v,xs,h=>(1<xs.length→(unN leaf v xs).2.2=0→roG f false (unN leaf v xs).1 (splitN false (unN leaf v xs).2.1) (h+1))∧(xs.length≤1→h≤5→sgG leaf v xs h)
theorem roN_fin {f:Nat}{leaf:Bool}{v:VS}{xs:List ND3}{h:Nat}(hx:xs.length≤1):roN f leaf v xs h=if 5<h then(v,(0,0),5) else sgN leaf v xs h:=by
 cases f with
 | zero=>rfl
 | succ f=>rw [roN,if_neg (by omega)]
theorem roG_fin {f:Nat}{leaf:Bool}{v:VS}{xs:List ND3}{h:Nat}(hx:xs.length≤1)(g:roG f leaf v xs h)(hh:h≤5):sgG leaf v xs h:=by
 cases f with
 | zero=>exact g.2 hh
 | succ f=>exact g.2 hx hh
theorem splitN_E {x:ND3}(hx:okN false x): ∀y∈splitN false x, ∀e∈y.E,entR e:=fun y hy e he=>by
 have h:=(splN_sz _ x hx y hy).1
 rw [show y.E= [] from h.1] at he
 cases he
def entsX (S:DS)(h:Nat)(xs:List ND3):List ENT:=xs.flatMap (entX S h)
def pagsX (S:DS)(h:Nat)(xs:List ND3):List Nat:=xs.flatMap (pagX S h)
theorem cutL_sub {α:Type}(l:List α)(lo hi:Nat):(cutL l lo hi).Sublist l:=(List.take_sublist _ _).trans (List.drop_sublist _ _)
theorem cutL_map {α β:Type}(f:α→β)(l:List α)(lo hi:Nat):cutL (l.map f) lo hi=(cutL l lo hi).map f:=by
 rw [cutL,cutL,List.map_take,List.map_drop]
theorem part_ok {S:DS}{k:Nat}{mu:Nat→Nat}{h:Nat}{y:ND3}(g:okX S k mu h y){lo hi:Nat}(h1:lo<hi)(h2:hi≤szN (decide (h=0)) y):okX S k mu h (partN (decide (h=0)) y lo hi):=by
 obtain⟨g3,g4,g5,g6⟩:=g
 refine⟨partN_ok g3 h2,by rw [partN_sz h2];omega,fun d hd=>?_, ?_⟩
 ·by_cases h0:h=0
  ·rw [dTt h0] at hd
   cases hd
  ·rw [dFf h0] at hd
   exact g5 d ((cutL_sub _ _ _).subset hd)
 ·by_cases h0:h=0
  ·rw [dTt h0];rfl
  ·rw [dFf h0]
   show cutL y.K lo hi=(cutL y.D lo hi).map (headK S h)
   rw [g6,cutL_map]
theorem part_ents {S:DS}{h:Nat}{y:ND3}(g:okN (decide (h=0)) y){a:Nat}(ha:a≤szN (decide (h=0)) y):
  entX S h (partN (decide (h=0)) y 0 a)++entX S h (partN (decide (h=0)) y a (szN (decide (h=0)) y))=entX S h y∧
  pagX S h (partN (decide (h=0)) y 0 a)++pagX S h (partN (decide (h=0)) y a (szN (decide (h=0)) y))=pagX S h y:=by
 by_cases h0:h=0
 ·subst h0
  obtain⟨hK,hD⟩:=g
  have ha':a≤y.E.length:=ha
  refine⟨?_, ?_⟩
  ·show (cutL y.E 0 a++ [])++(cutL y.E a y.E.length++ [])=y.E++y.D.flatMap _
   rw [hD,List.flatMap_nil,List.append_nil,List.append_nil,List.append_nil,cutL_app _ _ ha']
  ·show [] ++ [] =y.D.flatMap _
   rw [hD];rfl
 ·rw [dFf h0] at g ha ⊢
  obtain⟨hE,hK⟩:=g
  have ha':a≤y.D.length:=ha
  refine⟨?_, ?_⟩
  ·show ([] ++(cutL y.D 0 a).flatMap (wkE S h))++([] ++(cutL y.D a y.D.length).flatMap (wkE S h))=y.E++y.D.flatMap (wkE S h)
   rw [hE,nAp,nAp,nAp, ←List.flatMap_append,cutL_app _ _ ha']
  ·show (cutL y.D 0 a).flatMap (pgN S h)++(cutL y.D a y.D.length).flatMap (pgN S h)=y.D.flatMap (pgN S h)
   rw [←List.flatMap_append,cutL_app _ _ ha']
theorem spl_spec {S:DS}{k:Nat}{mu:Nat→Nat}{h:Nat}: ∀(f:Nat) (y:ND3),okX S k mu h y→szN (decide (h=0)) y≤f→
  (∀z∈splN (decide (h=0)) f y,okX S k mu h z)∧entsX S h (splN (decide (h=0)) f y)=entX S h y∧pagsX S h (splN (decide (h=0)) f y)=pagX S h y
 | 0,y,g,hf=>by have:=g.2.1;omega
 | f+1,y,g,hf=>by
  have hm:=most_pos (decide (h=0))
  have h1:=g.2.1
  rw [splN,if_neg (by omega)]
  split
  ·rw [partN_all g.1]
   refine⟨fun z hz=>by rw [List.mem_singleton.1 hz];exact g,by simp [entsX],by simp [pagsX]⟩
  ·rename_i h2
   have a1:(szN (decide (h=0)) y+1)/2≤szN (decide (h=0)) y:=by omega
   have s1:=partN_sz (leaf:=decide (h=0)) (x:=y) (lo:=0) a1
   have s2:=partN_sz (leaf:=decide (h=0)) (x:=y) (lo:=(szN (decide (h=0)) y+1)/2) (Nat.le_refl _)
   obtain⟨p1,p2,p3⟩:=spl_spec f _ (part_ok g (lo:=0) (hi:=(szN (decide (h=0)) y+1)/2) (by omega) a1) (by omega)
   obtain⟨q1,q2,q3⟩:=spl_spec f _ (part_ok g (lo:=(szN (decide (h=0)) y+1)/2) (by omega) (Nat.le_refl _)) (by omega)
   obtain⟨r1,r2⟩:=part_ents (S:=S) g.1 a1
   refine⟨fun z hz=>(List.mem_append.1 hz).elim (p1 z) (q1 z), ?_, ?_⟩
   ·rw [entsX,List.flatMap_append]
    rw [entsX] at p2 q2
    rw [p2,q2];exact r1
   ·rw [pagsX,List.flatMap_append]
    rw [pagsX] at p3 q3
    rw [p3,q3];exact r2
theorem spl_one {leaf:Bool}{y:ND3}(f:Nat)(h:okN leaf y)(h1:1≤szN leaf y)(h2:szN leaf y≤mostN leaf):splN leaf (f+1) y= [y] :=by
 rw [splN,if_neg (by omega),if_pos h2,partN_all h]
theorem split_two {leaf:Bool}{y:ND3}(h:okN leaf y)(h1:1≤szN leaf y)(h2:szN leaf y≤2*mostN leaf):
  (szN leaf y≤mostN leaf∧splitN leaf y= [y])∨(mostN leaf<szN leaf y∧ ∃a b,splitN leaf y= [a,b] ∧szN leaf a=(szN leaf y+1)/2∧szN leaf b=szN leaf y-(szN leaf y+1)/2):=by
 have hm:=most_pos leaf
 by_cases hc:szN leaf y≤mostN leaf
 ·exact .inl ⟨hc,spl_one _ h h1 hc⟩
 ·refine .inr ⟨by omega, ?_⟩
  have a1:(szN leaf y+1)/2≤szN leaf y:=by omega
  have s1:=partN_sz (leaf:=leaf) (x:=y) (lo:=0) a1
  have s2:=partN_sz (leaf:=leaf) (x:=y) (lo:=(szN leaf y+1)/2) (Nat.le_refl _)
  have b1:=partN_ok (lo:=0) h a1
  have b2:=partN_ok (lo:=(szN leaf y+1)/2) h (Nat.le_refl _)
  have key: ∀n,n=szN leaf y→splN leaf (n+1) y= [partN leaf y 0 ((szN leaf y+1)/2),partN leaf y ((szN leaf y+1)/2) (szN leaf y)] :=fun n hn=>by
   obtain⟨f,rfl⟩: ∃f,n=f+1:=⟨n-1,by omega⟩
   rw [splN,if_neg (by omega),if_neg hc,spl_one f b1 (by omega) (by omega),spl_one f b2 (by omega) (by omega)]
   rfl
  rw [Nat.sub_zero] at s1
  exact⟨_,_,key _ rfl,s1,s2⟩
theorem VG.same_of {k:Nat}{U O:List Nat}{v v1:VS}{t:Nat}(hv:VG k U O v)(ht:2≤t∧t<k)(htU:t∉U)(htO:t∉O)(hag: ∀(j:Nat),j<k→j≠t→pgAt v1.S.V j=pgAt v.S.V j∧ ∀lf,rdN v1.S (j:Int) lf=rdN v.S (j:Int) lf):same v.S v1.S (U++O):=fun p hp=>by
 have hk:=hv.k8
 rcases hp with hp | hp
 ·refine hag p (by
   rcases List.mem_append.1 hp with q | q
   ·exact(hv.m.rng p q).2
   ·exact(hv.o.rng p q).2) (fun c=>by
   subst c
   rcases List.mem_append.1 hp with q | q
   ·exact htU q
   ·exact htO q)
 ·exact hag p (by omega) (by omega)
theorem un_spec {k:Nat}{mu:Nat→Nat}{O:List Nat}{h:Nat}: ∀(xs:List ND3) (v:VS) (U R:List Nat),VG k U O v→U.Perm (pagsX v.S h xs++R)→
  (∀y∈xs,okX v.S k mu h y∧mu (h+1)≤szN (decide (h=0)) y∧szN (decide (h=0)) y≤mostN (decide (h=0)))→ordE (entsX v.S h xs)→
  (∃(v':VS) (D:List Int) (U':List Nat),unGo (decide (h=0)) v xs=(v',D,0)∧VG k U' O v'∧U'.Perm (D.flatMap (pgN v'.S (h+1))++R)∧same v.S v'.S (U++O)∧D.length=xs.length∧
   (∀d∈D,tkG v'.S k mu (h+1) (mu (h+1)) d)∧D.flatMap (wkE v'.S (h+1))=entsX v.S h xs∧D.map (headK v'.S (h+1))=xs.map (least3 (decide (h=0)))∧v'.S.W.length≤v.S.W.length+4*xs.length∧ ∀n,Fre k U O (n+xs.length)→Fre k U' O n)
  ∨((unGo (decide (h=0)) v xs).2.2=5∧ ¬Fre k U O xs.length)
 | [],v,U,R,hv,hU,hx,ho=> .inl ⟨v, [],U,rfl,hv,hU,same.rfl,rfl,(fun d hd=>by cases hd),rfl,rfl,Nat.le_refl _,fun n hn=>hn⟩
 | y::xs,v,U,R,hv,hU,hx,ho=>by
  obtain⟨hy1,hy2,hy3⟩:=hx y (List.mem_cons_self ..)
  have hUy:U.Perm (pagX v.S h y++(pagsX v.S h xs++R)):=by
   refine hU.trans ?_
   rw [pagsX,List.flatMap_cons,aAs]
   exact List.Perm.refl _
  have hnd:(pagX v.S h y).Nodup:=(List.nodup_append.1 (hUy.nodup_iff.1 hv.m.nodup)).1
  have hoy:ordE (entX v.S h y):=ho.sub (by rw [entsX,List.flatMap_cons];exact List.sublist_append_left _ _)
  have hoxs:ordE (entsX v.S h xs):=ho.sub (by show (xs.flatMap _).Sublist ((y::xs).flatMap _);rw [List.flatMap_cons];exact List.sublist_append_right _ _)
  obtain⟨hr,hrE,hrK⟩:=nodeRight_of hy1 hv.k8.2 hy3 hoy hnd
  rcases hv.wr hr hrE hrK with ⟨t,v1,e1,hv1,ht,htU,htO,hrd,hW1,hag⟩ | ⟨e5,_,hn⟩
  ·have hsm:same v.S v1.S (U++O):=hv.same_of ht htU htO hag
   have hsub: ∀p∈pagX v.S h y,p∈U++O:=fun p hp=>mAl _ (hUy.mem_iff.2 (mAl _ hp))
   have hsubx: ∀z∈xs, ∀p∈pagX v.S h z,p∈U++O:=fun z hz p hp=>mAl _ (hUy.mem_iff.2 (mAr _ (mAl _ (List.mem_flatMap.2 ⟨z,hz,hp⟩))))
   obtain⟨w1,w2,w3⟩:=tk_written (m:=mu (h+1)) hy1 (hsm.sub hsub) hrd ht hy2 hy3
   have hxs:=fun z (hz:z∈xs)=>ok_same (hx z (mCm _ hz)).1 (hsm.sub (hsubx z hz))
   have hpx:pagsX v1.S h xs=pagsX v.S h xs:=flat_congr (fun z hz=>(hxs z hz).2.2)
   have hex:entsX v1.S h xs=entsX v.S h xs:=flat_congr (fun z hz=>(hxs z hz).2.1)
   have hU1:(t::U).Perm (pagsX v1.S h xs++(t::(pagX v.S h y++R))):=by
    rw [hpx]
    refine(List.Perm.cons t hUy).trans ?_
    refine List.Perm.trans ?_ List.perm_middle.symm
    refine List.Perm.cons t ?_
    rw [←aAs, ←aAs]
    exact List.Perm.append_right R List.perm_append_comm
   rcases un_spec xs v1 (t::U) (t::(pagX v.S h y++R)) hv1 hU1 (fun z hz=>⟨(hxs z hz).1,(hx z (mCm _ hz)).2⟩) (by rw [hex];exact hoxs) with ⟨v',D,U',e2,hv',hU',hsm',hDl,hDg,hDe,hDk,hW',hfr⟩ | ⟨e5,hn⟩
   ·have htk:=tk_same (h+1) (mu (h+1)) (t:Int) w1 (hsm'.sub (fun p hp=>by
     rw [w3] at hp
     rcases List.mem_cons.1 hp with rfl | q
     ·exact mAl _ (List.mem_cons_self ..)
     ·exact mAl _ (mCm _ (hUy.mem_iff.2 (mAl _ q)))))
    have hk0:headK v'.S (h+1) (t:Int)=least3 (decide (h=0)) y:=by rw [headK,htk.2.1,w2,least_head hy1]
    refine .inl ⟨v',(t:Int)::D,U', ?_,hv', ?_, ?_, ?_, ?_, ?_, ?_, ?_, ?_⟩
    ·rw [unGo,e1,if_neg (by simp)]
     simp only [e2]
    ·refine hU'.trans ?_
     rw [List.flatMap_cons,htk.2.2,w3]
     refine List.Perm.trans List.perm_middle ?_
     rw [cAp,cAp]
     refine List.Perm.cons t ?_
     rw [←aAs]
     exact List.Perm.append_right R List.perm_append_comm
    ·exact hsm.trans (hsm'.sub (fun p hp=>by
      rcases List.mem_append.1 hp with q | q
      ·exact mAl _ (mCm _ q)
      ·exact mAr _ q))
    ·rw [lCn,lCn,hDl]
    ·intro d hd
     rcases List.mem_cons.1 hd with rfl | hd
     ·exact htk.1
     ·exact hDg d hd
    ·rw [List.flatMap_cons,htk.2.1,w2,hDe,hex,entsX,entsX,List.flatMap_cons]
    ·rw [List.map_cons,List.map_cons,hk0,hDk]
    ·rw [lCn];omega
    ·intro n hn
     rw [lCn] at hn
     exact hfr n (Fre.cons (n:=n+xs.length) hn)
   ·refine .inr ⟨?_, ?_⟩
    ·rw [unGo,e1,if_neg (by simp)]
     exact e5
    ·intro c
     rw [lCn] at c
     exact hn (Fre.cons c)
  ·refine .inr ⟨?_,fun c=>hn (c.le (by rw [lCn];omega))⟩
   rw [unGo,if_pos (by rw [e5];decide)]
   exact e5
def inG:Nat→VS→Int→ENT→Prop
 | 0,_,_,_=>False
 | h+1,v,a,x=>
  ((-1000000≤a∧a≤1000000)∧v.S.W.length≤800000∧(rdN v.S a (decide (h=0))).e=0∧(rdN v.S a (decide (h=0))).leaf=decide (h=0)∧
    okN (decide (h=0)) ⟨(rdN v.S a (decide (h=0))).E,(rdN v.S a (decide (h=0))).K,(rdN v.S a (decide (h=0))).D⟩∧
    (rdN v.S a (decide (h=0))).E.length≤1000∧(rdN v.S a (decide (h=0))).D.length≤1000∧(giN v a).2=0)∧
  (h≠0→childN (rdN v.S a false).K x.key<(rdN v.S a false).D.length∧inG h (giN v a).1 ((rdN v.S a false).D.getD (childN (rdN v.S a false).K x.key) 0) x∧
   (inN h (giN v a).1 ((rdN v.S a false).D.getD (childN (rdN v.S a false).K x.key) 0) x).1.ok∧
   ((inN h (giN v a).1 ((rdN v.S a false).D.getD (childN (rdN v.S a false).K x.key) 0) x).2.2=0→
     0<(inN h (giN v a).1 ((rdN v.S a false).D.getD (childN (rdN v.S a false).K x.key) 0) x).2.1.length∧
     (inN h (giN v a).1 ((rdN v.S a false).D.getD (childN (rdN v.S a false).K x.key) 0) x).2.1.length≤1000∧
     (inN h (giN v a).1 ((rdN v.S a false).D.getD (childN (rdN v.S a false).K x.key) 0) x).1.S.W.length+4*(inN h (giN v a).1 ((rdN v.S a false).D.getD (childN (rdN v.S a false).K x.key) 0) x).2.1.length≤800000∧
     ∀y∈(inN h (giN v a).1 ((rdN v.S a false).D.getD (childN (rdN v.S a false).K x.key) 0) x).2.1, ∀e∈y.E,entR e))
theorem inN_leaf {v:VS}{a:Int}{x:ENT}(he:(rdN v.S a true).e=0)(hg:(giN v a).2=0):inN 1 v a x=((giN v a).1,splitN true ⟨(rdN v.S a true).E.take (idxE (rdN v.S a true).E x.key)++x::(rdN v.S a true).E.drop (idxE (rdN v.S a true).E x.key),(rdN v.S a true).K,(rdN v.S a true).D⟩,0):=by
 rw [inN,if_neg (by show ¬(rdN v.S a true).e≠0;omega),if_neg (by omega),if_pos rfl]
theorem inN_inner {v:VS}{a:Int}{x:ENT}{h:Nat}(he:(rdN v.S a false).e=0)(hg:(giN v a).2=0):inN (h+2) v a x=
  if(inN (h+1) (giN v a).1 ((rdN v.S a false).D.getD (childN (rdN v.S a false).K x.key) 0) x).2.2=0 then
   rpN (decide (h+1=1)) (inN (h+1) (giN v a).1 ((rdN v.S a false).D.getD (childN (rdN v.S a false).K x.key) 0) x).1 ⟨(rdN v.S a false).E,(rdN v.S a false).K,(rdN v.S a false).D⟩ (childN (rdN v.S a false).K x.key) 1 (inN (h+1) (giN v a).1 ((rdN v.S a false).D.getD (childN (rdN v.S a false).K x.key) 0) x).2.1
  else((inN (h+1) (giN v a).1 ((rdN v.S a false).D.getD (childN (rdN v.S a false).K x.key) 0) x).1, [],(inN (h+1) (giN v a).1 ((rdN v.S a false).D.getD (childN (rdN v.S a false).K x.key) 0) x).2.2):=by
 have hd:decide (h+1=0)=false:=rfl
 rw [inN,hd,if_neg (by omega),if_neg (by omega),if_neg (by omega)]
def chkE (E:List ENT)(x:ENT):Nat:=if E.any (fun y=>decide (y.key=x.key))=true then 11 else if E.any (fun y=>meetsE x y)=true then 9 else 0
def iN (v:VS)(a:Int)(h:Nat)(x:ENT):VS×(Int×Nat)×Nat:=
 if chkE (wkE v.S h a) x≠0 then(v,(0,0),chkE (wkE v.S h a) x)
 else if h=0 then roN 1 true v [⟨[x], [], []⟩] 1
 else if(inN h v a x).2.2=0 then roN 1 (decide (h=1)) (inN h v a x).1 (inN h v a x).2.1 h
 else((inN h v a x).1,(0,0),(inN h v a x).2.2)
def iG (v:VS)(a:Int)(h:Nat)(x:ENT):Prop:=
 (h≤5∧(h=0∨wkG v.S h a)∧(wkE v.S h a).length≤100000∧v.S.W.length≤700000∧entOk x=true∧entR x)∧
 (chkE (wkE v.S h a) x=0→(h=0→roG 1 true v [⟨[x], [], []⟩] 1)∧(h≠0→inG h v a x∧(inN h v a x).1.ok∧
  ((inN h v a x).2.2=0→(inN h v a x).1.S.W.length≤780000∧(inN h v a x).2.1.length≤1000∧(∀y∈(inN h v a x).2.1, ∀e∈y.E,entR e)∧roG 1 (decide (h=1)) (inN h v a x).1 (inN h v a x).2.1 h)))
theorem any_take {α:Type}(p:α→Bool)(l:List α)(d:α)(i:Nat)(h:i<l.length):(l.take (i+1)).any p=((l.take i).any p || p (l.getD i d)):=by
 rw [List.take_add_one,List.any_append,gDe,gEe h]
 simp
theorem any_of {α:Type}{p:α→Bool}{l:List α}(d:α){i:Nat}(h:i<l.length)(hp:p (l.getD i d)=true):l.any p=true:=by
 rw [List.any_eq_true]
 refine⟨l.getD i d, ?_,hp⟩
 rw [gDe,gEe h]
 exact List.getElem_mem h
def insE (E:List ENT)(x:ENT):List ENT:=E.takeWhile (fun y=> !lessK x.key y.key)++x::E.dropWhile (fun y=> !lessK x.key y.key)
theorem tw_left {α:Type}{p:α→Bool}: ∀{A B:List α},(∀a∈A,p a=true)→(A++B).takeWhile p=A++B.takeWhile p∧(A++B).dropWhile p=B.dropWhile p
 | [],B,_=>⟨rfl,rfl⟩
 | a::A,B,h=>by
  have ha:=h a (List.mem_cons_self ..)
  obtain⟨i1,i2⟩:=tw_left (B:=B) (fun b hb=>h b (mCm _ hb))
  rw [cAp,List.takeWhile_cons,List.dropWhile_cons,if_pos ha,if_pos ha,i1,i2]
  exact⟨rfl,rfl⟩
theorem tw_right {α:Type}{p:α→Bool}: ∀{B C:List α},(∀c∈C,p c=false)→(B++C).takeWhile p=B.takeWhile p∧(B++C).dropWhile p=B.dropWhile p++C
 | [],C,h=>by
  cases C with
  | nil=>exact⟨rfl,rfl⟩
  | cons c C=>
   have hc:=h c (List.mem_cons_self ..)
   rw [nAp,List.takeWhile_cons,List.dropWhile_cons,if_neg (by rw [hc];simp),if_neg (by rw [hc];simp)]
   exact⟨rfl,rfl⟩
 | b::B,C,h=>by
  obtain⟨i1,i2⟩:=tw_right (B:=B) h
  rw [cAp,List.takeWhile_cons,List.dropWhile_cons,List.takeWhile_cons,List.dropWhile_cons,i1,i2]
  split<;>exact⟨rfl,rfl⟩
theorem insE_app {A B C:List ENT}{x:ENT}(hA: ∀a∈A,lessK x.key a.key=false)(hC: ∀c∈C,lessK x.key c.key=true):insE (A++(B++C)) x=A++(insE B x++C):=by
 obtain⟨a1,a2⟩:=tw_left (p:=fun y:ENT=> !lessK x.key y.key) (A:=A) (B:=B++C) (fun a ha=>by rw [hA a ha];rfl)
 obtain⟨c1,c2⟩:=tw_right (p:=fun y:ENT=> !lessK x.key y.key) (B:=B) (C:=C) (fun c hc=>by rw [hC c hc];rfl)
 rw [insE,a1,a2,c1,c2,insE]
 simp only [aAs,cAp]
theorem insE_len (E:List ENT)(x:ENT):(insE E x).length=E.length+1:=by
 have:=congrArg List.length (List.takeWhile_append_dropWhile (p:=fun y:ENT=> !lessK x.key y.key) (l:=E))
 rw [lAp] at this
 rw [insE,lAp,lCn];omega
theorem idxGo_eq (E:List ENT)(x:ENT): ∀(f i:Nat),f+i=E.length+1→i≤E.length→idxGo E x.key f i=i+((E.drop i).takeWhile (fun y=> !lessK x.key y.key)).length
 | 0,i,h1,h2=>by omega
 | f+1,i,h1,h2=>by
  rw [idxGo]
  by_cases hi:i<E.length
  ·rw [if_pos hi]
   have hd:E.drop i=E.getD i ent0::E.drop (i+1):=by rw [getD_at hi];exact List.drop_eq_getElem_cons hi
   rw [hd,List.takeWhile_cons]
   cases hl:lessK x.key (E.getD i ent0).key with
   | true=>rw [if_pos rfl,if_neg (by simp)];rfl
   | false=>
    rw [if_neg (by simp),if_pos (by simp),idxGo_eq E x f (i+1) (by omega) (by omega),lCn];omega
  ·rw [if_neg hi,List.drop_eq_nil_of_le (by omega)]
   show E.length=i+0
   omega
theorem idx_ins (E:List ENT)(x:ENT):E.take (idxE E x.key)++x::E.drop (idxE E x.key)=insE E x:=by
 have h:=idxGo_eq E x (E.length+1) 0 rfl (Nat.zero_le _)
 rw [List.drop_zero,Nat.zero_add] at h
 have e:E.takeWhile (fun y=> !lessK x.key y.key)++E.dropWhile (fun y=> !lessK x.key y.key)=E:=List.takeWhile_append_dropWhile
 have e1:E.take (idxE E x.key)=E.takeWhile (fun y=> !lessK x.key y.key):=by
  rw [idxE,h]
  have:=List.take_left' (l₁:=E.takeWhile (fun y=> !lessK x.key y.key)) (l₂:=E.dropWhile (fun y=> !lessK x.key y.key)) rfl
  rw [e] at this
  exact this
 have e2:E.drop (idxE E x.key)=E.dropWhile (fun y=> !lessK x.key y.key):=by
  rw [idxE,h]
  have:=List.drop_left' (l₁:=E.takeWhile (fun y=> !lessK x.key y.key)) (l₂:=E.dropWhile (fun y=> !lessK x.key y.key)) rfl
  rw [e] at this
  exact this
 rw [insE,e1,e2]
theorem childGo_spec (K:List KEY)(k:KEY): ∀(f i:Nat),K.length≤f+i→i<K.length→(i≤childGo K k f i∧childGo K k f i<K.length)∧(∀j,i<j→j≤childGo K k f i→lessK k (K.getD j (0,0))=false)∧(childGo K k f i+1<K.length→lessK k (K.getD (childGo K k f i+1) (0,0))=true)
 | 0,i,h1,h2=>by omega
 | f+1,i,h1,h2=>by
  rw [childGo]
  split
  ·rename_i hc
   obtain⟨⟨a1,a2⟩,a3,a4⟩:=childGo_spec K k f (i+1) (by omega) hc.1
   refine⟨⟨by omega,a2⟩,fun j hj hj2=>?_,a4⟩
   by_cases e:j=i+1
   ·rw [e];exact hc.2
   ·exact a3 j (by omega) hj2
  ·rename_i hc
   refine⟨⟨Nat.le_refl _,h2⟩,fun j hj hj2=>by omega,fun h=>?_⟩
   cases hl:lessK k (K.getD (i+1) (0,0)) with
   | true=>rfl
   | false=>exact absurd ⟨h,hl⟩ hc
theorem child_spec {K:List KEY}(k:KEY)(h:0<K.length):childN K k<K.length∧(∀j,0<j→j≤childN K k→lessK k (K.getD j (0,0))=false)∧(childN K k+1<K.length→lessK k (K.getD (childN K k+1) (0,0))=true):=by
 obtain⟨⟨_,a2⟩,a3,a4⟩:=childGo_spec K k K.length 0 (by omega) h
 exact⟨a2,a3,a4⟩
theorem child_sides {S:DS}{k:Nat}{mu:Nat→Nat}{h:Nat}{D:List Int}{K:List KEY}{x:ENT}(hD: ∀d∈D,tkG S k mu h (mu h) d)(hK:K=D.map (headK S h))(h0:0<D.length)(ho:ordE (D.flatMap (wkE S h))):
  ∃d,D=D.take (childN K x.key)++d::D.drop (childN K x.key+1)∧D.getD (childN K x.key) 0=d∧childN K x.key<D.length∧
   (∀y∈(D.take (childN K x.key)).flatMap (wkE S h),lessK x.key y.key=false)∧(∀y∈(D.drop (childN K x.key+1)).flatMap (wkE S h),lessK x.key y.key=true):=by
 have hKl:K.length=D.length:=by rw [hK,List.length_map]
 obtain⟨c1,c2,c3⟩:=child_spec (K:=K) x.key (by omega)
 obtain⟨q,hq⟩: ∃q,q=childN K x.key:=⟨_,rfl⟩
 rw [←hq] at c1 c2 c3 ⊢
 have hql:q<D.length:=by omega
 have hKi: ∀i,i<D.length→K.getD i (0,0)=headK S h (D.getD i 0):=fun i hi=>by
  rw [hK,getD_at (show i<(D.map (headK S h)).length by rw [List.length_map];exact hi),List.getElem_map,getD_at hi]
 have hsplit: ∀i,i<D.length→D=D.take i++D.getD i 0::D.drop (i+1):=fun i hi=>by
  rw [getD_at hi,List.getElem_cons_drop,List.take_append_drop]
 have hhead: ∀i,i<D.length→ ∃e l,wkE S h (D.getD i 0)=e::l∧K.getD i (0,0)=e.key:=fun i hi=>by
  have hne:=tk_ne h (mu h) (D.getD i 0) (hD _ (by rw [getD_at hi];exact List.getElem_mem hi))
  cases hw:wkE S h (D.getD i 0) with
  | nil=>exact absurd hw hne
  | cons e l=>exact⟨e,l,rfl,by rw [hKi i hi,headK,hw];rfl⟩
 refine⟨D.getD q 0,hsplit q hql,rfl,hql, ?_, ?_⟩
 ·intro y hy
  rcases Nat.eq_zero_or_pos q with h00 | hpos
  ·rw [h00,List.take_zero] at hy;cases hy
  ·obtain⟨e,l,he,hek⟩:=hhead q hql
   have hp:=ho.1
   rw [hsplit q hql,List.flatMap_append,List.flatMap_cons,he,List.pairwise_append] at hp
   have h1:=after_less (hp.2.2 y hy e (mAl _ (List.mem_cons_self ..)))
   have h2:=c2 q hpos (Nat.le_refl _)
   rw [hek] at h2
   cases hl:lessK x.key y.key with
   | false=>rfl
   | true=>rw [lessK_trans hl h1] at h2;cases h2
 ·intro y hy
  by_cases hl:q+1<D.length
  ·obtain⟨e,l,he,hek⟩:=hhead (q+1) hl
   have h2:=c3 (by omega)
   rw [hek] at h2
   have hp:=ho.1
   rw [hsplit (q+1) hl,List.flatMap_append,List.flatMap_cons,he,List.pairwise_append] at hp
   have hd:D.drop (q+1)=D.getD (q+1) 0::D.drop (q+1+1):=by rw [getD_at hl];exact List.drop_eq_getElem_cons hl
   rw [hd,List.flatMap_cons,he,cAp] at hy
   rcases List.mem_cons.1 hy with rfl | hy
   ·exact h2
   ·have hp2:=hp.2.1
    rw [cAp,List.pairwise_cons] at hp2
    exact lessK_trans h2 (after_less (hp2.1 y hy))
  ·rw [List.drop_eq_nil_of_le (by omega)] at hy;cases hy
theorem rpN_ok {v:VS}(h:v.ok)(leaf:Bool)(x:ND3)(i c:Nat)(xs:List ND3):(rpN leaf v x i c xs).1.ok:=by
 have hu:(unN leaf v xs).1.ok:=unGo_ok leaf xs h
 rw [rpN];split<;>exact hu
theorem inN_ok: ∀(h:Nat) {v:VS} (a:Int) (x:ENT),v.ok→(inN h v a x).1.ok
 | 0,v,a,x,hv=>hv
 | h+1,v,a,x,hv=>by
  rw [inN]
  split
  ·exact hv
  ·split
   ·exact giN_ok hv a
   ·split
    ·exact giN_ok hv a
    ·have ih:=inN_ok h ((rdN v.S a false).D.getD (childN (rdN v.S a false).K x.key) 0) x (giN_ok hv a)
     split
     ·exact rpN_ok ih _ _ _ _ _
     ·exact ih
def limN (h:Nat):Nat:=if h=0 then 4 else 8
structure InR (k:Nat)(mu:Nat→Nat)(O:List Nat)(h m:Nat)(S0:DS)(U R:List Nat)(E':List ENT)(r:VS×List ND3×Nat):Prop where
 e:r.2.2=0
 vg: ∃U',VG k U' O r.1∧U'.Perm (pagsX r.1.S h r.2.1++R)∧ ∀n,Fre k U O (n+2*h)→Fre k U' O n
 sm:same S0 r.1.S (R++O)
 ok: ∀z∈r.2.1,okX r.1.S k mu h z∧m≤szN (decide (h=0)) z∧szN (decide (h=0)) z≤mostN (decide (h=0))
 ents:entsX r.1.S h r.2.1=E'
 len:1≤r.2.1.length∧r.2.1.length≤2
 W:r.1.S.W.length≤S0.W.length+8*h
 two:r.2.1.length=2→ ∀z∈r.2.1,limN h≤szN (decide (h=0)) z
theorem szN_false (x:ND3):szN false x=x.D.length:=rfl
theorem InR.split {k:Nat}{mu:Nat→Nat}{O:List Nat}{h m:Nat}{S0:DS}{U R U':List Nat}{v:VS}{y:ND3}(hv:VG k U' O v)(hp:U'.Perm (pagX v.S h y++R))(hf: ∀n,Fre k U O (n+2*h)→Fre k U' O n)(sm:same S0 v.S (R++O))(g:okX v.S k mu h y)
  (hs:szN (decide (h=0)) y≤2*mostN (decide (h=0))) (hm:m≤szN (decide (h=0)) y) (hl:m≤limN h) (hW:v.S.W.length≤S0.W.length+8*h):InR k mu O h m S0 U R (entX v.S h y) (v,splitN (decide (h=0)) y,0):=by
 have hsp:=spl_spec (szN (decide (h=0)) y+1) y g (Nat.le_succ _)
 have heq:splN (decide (h=0)) (szN (decide (h=0)) y+1) y=splitN (decide (h=0)) y:=rfl
 rw [heq] at hsp
 obtain⟨s1,s2,s3⟩:=hsp
 have hmost:(mostN (decide (h=0))+1+1)/2=limN h∧mostN (decide (h=0))+1-(mostN (decide (h=0))+1+1)/2=limN h∨(mostN (decide (h=0))+1+1)/2=limN h+1∧mostN (decide (h=0))+1-(mostN (decide (h=0))+1+1)/2=limN h:=by
  by_cases h0:h=0
  ·rw [dTt h0,limN,if_pos h0];left;decide
  ·rw [dFf h0,limN,if_neg h0];right;decide
 refine⟨rfl,⟨U',hv,by show U'.Perm (pagsX v.S h (splitN (decide (h=0)) y)++R);rw [s3];exact hp,hf⟩,sm,fun z hz=>?_,s2, ?_,hW,fun h2 z hz=>?_⟩
 ·rcases split_two g.1 g.2.1 hs with ⟨c1,c2⟩ | ⟨c1,a,b,c2,c3,c4⟩
  ·have hz':z∈splitN (decide (h=0)) y:=hz
   rw [c2] at hz'
   rw [List.mem_singleton.1 hz']
   exact⟨g,hm,c1⟩
  ·have hz':z∈splitN (decide (h=0)) y:=hz
   refine⟨s1 z hz', ?_⟩
   rw [c2] at hz'
   rcases List.mem_cons.1 hz' with rfl | hz'
   ·rw [c3];omega
   ·rw [List.mem_singleton.1 hz',c4];omega
 ·show 1≤(splitN (decide (h=0)) y).length∧(splitN (decide (h=0)) y).length≤2
  rcases split_two g.1 g.2.1 hs with ⟨c1,c2⟩ | ⟨c1,a,b,c2,c3,c4⟩
  ·rw [c2];exact⟨Nat.le_refl 1,by show 1≤2;decide⟩
  ·rw [c2];exact⟨by show 1≤2;decide,Nat.le_refl 2⟩
 ·rcases split_two g.1 g.2.1 hs with ⟨c1,c2⟩ | ⟨c1,a,b,c2,c3,c4⟩
  ·have h2':(splitN (decide (h=0)) y).length=2:=h2
   rw [c2] at h2'
   cases h2'
  ·have hz':z∈splitN (decide (h=0)) y:=hz
   rw [c2] at hz'
   rcases List.mem_cons.1 hz' with rfl | hz'
   ·rw [c3];omega
   ·rw [List.mem_singleton.1 hz',c4];omega
theorem insE_ord_sub {A B C:List ENT}{x:ENT}(h:ordE (A++(insE B x++C))):ordE (insE B x):=h.sub ((List.sublist_append_left _ _).trans (List.sublist_append_right _ _))
theorem insE_sub (E:List ENT)(x:ENT):E.Sublist (insE E x):=by
 have e:E.takeWhile (fun y=> !lessK x.key y.key)++E.dropWhile (fun y=> !lessK x.key y.key)=E:=List.takeWhile_append_dropWhile
 conv=>lhs;rw [←e]
 exact List.Sublist.append (List.Sublist.refl _) (List.sublist_cons_self _ _)
theorem perm3 (A B C:List Nat):(A++(B++C)).Perm (B++(A++C)):=by
 rw [←aAs, ←aAs]
 exact List.Perm.append_right C List.perm_append_comm
theorem in_spec {k:Nat}{mu:Nat→Nat}{O:List Nat}{x:ENT}(hmu: ∀h,mu (h+1)≤limN h): ∀(h m:Nat) (v:VS) (a:Int) (U R:List Nat),m≤limN h→VG k U O v→tkG v.S k mu (h+1) m a→U.Perm (pgN v.S (h+1) a++R)→ordE (insE (wkE v.S (h+1) a) x)→
  InR k mu O h m v.S U R (insE (wkE v.S (h+1) a) x) (inN (h+1) v a x)∨((inN (h+1) v a x).2.2=5∧ ¬Fre k U O (2*h))
 | 0,m,v,a,U,R,hml,hv,g,hU,ho=>by
  have gx:=tkG_okX g
  obtain⟨⟨p,hp,hp2⟩,g1,g2,g3,⟨g4,g5,g6⟩,g7,g8⟩:=g
  obtain⟨hK,hD⟩:=g3
  have hd1:decide ((0:Nat)=0)=true:=rfl
  rw [hd1] at g1 g4 g5 g6 hK hD
  have hK':(rdN v.S a true).K= [] :=hK
  have hD':(rdN v.S a true).D= [] :=hD
  have hEl:(rdN v.S a true).E.length≤7:=g6
  have hEm:m≤(rdN v.S a true).E.length:=g5
  have hpg:pgN v.S (0+1) a= [p] :=by
   show a.toNat::(rdN v.S a true).D.flatMap _= [p]
   rw [hD',hp];rfl
  have hwk:wkE v.S (0+1) a=(rdN v.S a true).E:=by
   show (rdN v.S a true).E++(rdN v.S a true).D.flatMap _=_
   rw [hD',List.flatMap_nil,List.append_nil]
  rw [hpg] at hU
  have hU:U.Perm (p::R):=hU
  obtain⟨v',e1,e2,hv'⟩:=(hv.perm hU).give
  rw [←hp] at e1
  have hin:=inN_leaf (x:=x) g1 (by rw [e1])
  rw [idx_ins,e1,hK',hD'] at hin
  rw [hwk] at ho ⊢
  rw [hin]
  refine .inl ?_
  have hg:okX v'.S k mu 0 ⟨insE (rdN v.S a true).E x, [], []⟩:=⟨⟨rfl,rfl⟩,by show 1≤(insE (rdN v.S a true).E x).length;rw [insE_len];omega,(fun d hd=>by cases hd),rfl⟩
  have hsz:szN true ⟨insE (rdN v.S a true).E x, [], []⟩=(rdN v.S a true).E.length+1:=insE_len _ _
  have hr:=InR.split (m:=m) (S0:=v.S) (U:=U) hv' (List.Perm.refl _) (fun n hn=>(hn.le (Nat.le_add_right _ _)).sub (fun i hi=>hU.mem_iff.2 (mCm _ hi))) (by rw [e2];exact same.rfl) hg (by rw [hd1,hsz];show _≤2*7;omega) (by rw [hd1,hsz];omega) hml (by rw [e2];exact Nat.le_refl _)
  have he:entX v'.S 0 ⟨insE (rdN v.S a true).E x, [], []⟩=insE (rdN v.S a true).E x:=by
   show _++ [] =_
   rw [List.append_nil]
  rw [he] at hr
  exact hr
 | h+1,m,v,a,U,R,hml,hv,g,hU,ho=>by
  have gx:=tkG_okX g
  obtain⟨⟨p,hp,hp2⟩,g1,g2,g3,⟨g4,g5,g6⟩,g7,g8⟩:=g
  have hd1:decide (h+1=0)=false:=rfl
  have hdd:decide (h+1=1)=decide (h=0):=decide_eq_decide.2 (by omega)
  rw [hd1] at g1 g3 g4 g5 g6 g7 g8
  obtain⟨hE,hKD⟩:=g3
  obtain⟨N,hN⟩: ∃N,N=rdN v.S a false:=⟨_,rfl⟩
  have hpg:pgN v.S (h+1+1) a=p::N.D.flatMap (pgN v.S (h+1)):=by
   show a.toNat::(rdN v.S a false).D.flatMap _=_
   rw [hN,hp];rfl
  have hE':(rdN v.S a false).E= [] :=hE
  have hwk:wkE v.S (h+1+1) a=N.D.flatMap (wkE v.S (h+1)):=by
   show (rdN v.S a false).E++(rdN v.S a false).D.flatMap _=_
   rw [hE',hN,nAp]
  rw [hpg] at hU
  have hU:U.Perm (p::(N.D.flatMap (pgN v.S (h+1))++R)):=hU
  obtain⟨v1,e1,e2,hv1⟩:=(hv.perm hU).give
  rw [←hp] at e1
  have hin:=inN_inner (h:=h) (x:=x) g1 (by rw [e1])
  rw [e1] at hin
  rw [←hN] at hin g4 g5 g6 g7 g8 hE hKD hE'
  rw [hwk] at ho ⊢
  have hDl:0<N.D.length:=g4
  have hDm:m≤N.D.length:=g5
  have hD16:N.D.length≤16:=g6
  obtain⟨d,hsp,hdq,hql,hA,hC⟩:=child_sides (x:=x) g7 g8 hDl (ho.sub (insE_sub _ _))
  obtain⟨q,hq⟩: ∃q,q=childN N.K x.key:=⟨_,rfl⟩
  rw [←hq] at hsp hdq hql hA hC hin
  rw [hdq,hdd] at hin
  obtain⟨D1,hD1⟩: ∃D1,D1=N.D.take q:=⟨_,rfl⟩
  obtain⟨D2,hD2⟩: ∃D2,D2=N.D.drop (q+1):=⟨_,rfl⟩
  have hD1l:D1.length=q:=by rw [hD1,lTk];omega
  have hD2l:D2.length=N.D.length-(q+1):=by rw [hD2,lDp]
  rw [←hD1, ←hD2] at hsp
  rw [←hD1] at hA
  rw [←hD2] at hC
  have hdm:d∈N.D:=by rw [hsp];exact mAr _ (List.mem_cons_self ..)
  have hm1: ∀z∈D1,z∈N.D:=fun z hz=>by rw [hsp];exact mAl _ hz
  have hm2: ∀z∈D2,z∈N.D:=fun z hz=>by rw [hsp];exact mAr _ (mCm _ hz)
  have hEs:N.D.flatMap (wkE v.S (h+1))=D1.flatMap (wkE v.S (h+1))++(wkE v.S (h+1) d++D2.flatMap (wkE v.S (h+1))):=by
   conv=>lhs;rw [hsp]
   rw [List.flatMap_append,List.flatMap_cons]
  have hPs:N.D.flatMap (pgN v.S (h+1))=D1.flatMap (pgN v.S (h+1))++(pgN v.S (h+1) d++D2.flatMap (pgN v.S (h+1))):=by
   conv=>lhs;rw [hsp]
   rw [List.flatMap_append,List.flatMap_cons]
  have hins:insE (N.D.flatMap (wkE v.S (h+1))) x=D1.flatMap (wkE v.S (h+1))++(insE (wkE v.S (h+1) d) x++D2.flatMap (wkE v.S (h+1))):=by
   rw [hEs];exact insE_app hA hC
  rw [hins] at ho ⊢
  obtain⟨Rd,hRd⟩: ∃Rd,Rd=D1.flatMap (pgN v.S (h+1))++(D2.flatMap (pgN v.S (h+1))++R):=⟨_,rfl⟩
  have hU1:(N.D.flatMap (pgN v.S (h+1))++R).Perm (pgN v.S (h+1) d++Rd):=by
   rw [hPs,hRd,aAs,aAs]
   exact perm3 _ _ _
  have hfr1: ∀n,Fre k U O n→Fre k (N.D.flatMap (pgN v.S (h+1))++R) O n:=fun n hn=>hn.sub (fun i hi=>hU.mem_iff.2 (mCm _ hi))
  have ih:=in_spec (x:=x) hmu h (mu (h+1)) v1 d _ Rd (hmu h) hv1 (by rw [e2];exact g7 d hdm) (by rw [e2];exact hU1) (by rw [e2];exact insE_ord_sub ho)
  rw [e2] at ih
  rcases ih with ih | ⟨h5,hn⟩
  ·obtain⟨V,hV⟩: ∃V,V=inN (h+1) v1 d x:=⟨_,rfl⟩
   rw [←hV] at ih hin
   rw [if_pos ih.e] at hin
   obtain⟨U2,hv2,hU2,hfr2⟩:=ih.vg
   have hov:ordE (entsX V.1.S h V.2.1):=by rw [ih.ents];exact insE_ord_sub ho
   rcases un_spec V.2.1 V.1 U2 Rd hv2 hU2 (fun y hy=>ih.ok y hy) hov with ⟨v3,D',U3,e3,hv3,hU3,hsm3,hl3,hg3,he3,hk3,hW3,hfr3⟩ | ⟨h5,hn⟩
   ·have hun:unN (decide (h=0)) V.1 V.2.1=(v3,⟨[],V.2.1.map (least3 (decide (h=0))),D'⟩,0):=by
     rw [unN,e3];simp only [if_true]
    rw [rpN,hun,if_pos rfl] at hin
    simp only at hin
    have hsR:same v.S v3.S (Rd++O):=ih.sm.trans (hsm3.sub (fun b hb=>by
     rcases List.mem_append.1 hb with c | c
     ·exact mAl _ (hU2.mem_iff.2 (mAr _ c))
     ·exact mAr _ c))
    have hts: ∀z,(z∈D1∨z∈D2)→tkG v3.S k mu (h+1) (mu (h+1)) z∧wkE v3.S (h+1) z=wkE v.S (h+1) z∧pgN v3.S (h+1) z=pgN v.S (h+1) z:=by
     intro z hz
     refine tk_same (h+1) (mu (h+1)) z (g7 z (hz.elim (hm1 z) (hm2 z))) (hsR.sub (fun b hb=>?_))
     rw [hRd]
     rcases hz with hz | hz
     ·exact mAl _ (mAl _ (List.mem_flatMap.2 ⟨z,hz,hb⟩))
     ·exact mAl _ (mAr _ (mAl _ (List.mem_flatMap.2 ⟨z,hz,hb⟩)))
    have hf1:D1.flatMap (wkE v3.S (h+1))=D1.flatMap (wkE v.S (h+1)):=flat_congr (fun z hz=>(hts z (.inl hz)).2.1)
    have hf2:D2.flatMap (wkE v3.S (h+1))=D2.flatMap (wkE v.S (h+1)):=flat_congr (fun z hz=>(hts z (.inr hz)).2.1)
    have hp1:D1.flatMap (pgN v3.S (h+1))=D1.flatMap (pgN v.S (h+1)):=flat_congr (fun z hz=>(hts z (.inl hz)).2.2)
    have hp3:D2.flatMap (pgN v3.S (h+1))=D2.flatMap (pgN v.S (h+1)):=flat_congr (fun z hz=>(hts z (.inr hz)).2.2)
    have hh1:D1.map (headK v3.S (h+1))=D1.map (headK v.S (h+1)):=List.map_congr_left (fun z hz=>by rw [headK,headK,(hts z (.inl hz)).2.1])
    have hh2:D2.map (headK v3.S (h+1))=D2.map (headK v.S (h+1)):=List.map_congr_left (fun z hz=>by rw [headK,headK,(hts z (.inr hz)).2.1])
    rw [←hD1, ←hD2,hE'] at hin
    have hKt:N.K.take q=D1.map (headK v3.S (h+1)):=by rw [hh1,g8,hD1,List.map_take]
    have hKd:N.K.drop (q+1)=D2.map (headK v3.S (h+1)):=by rw [hh2,g8,hD2,List.map_drop]
    rw [hKt,hKd, ←hk3] at hin
    obtain⟨Z,hZ⟩: ∃Z:ND3,Z=⟨[],D1.map (headK v3.S (h+1))++D'.map (headK v3.S (h+1))++D2.map (headK v3.S (h+1)),D1++D'++D2⟩:=⟨_,rfl⟩
    rw [←hZ] at hin
    have hZD:Z.D=D1++D'++D2:=by rw [hZ]
    have hZl:Z.D.length=N.D.length-1+V.2.1.length:=by
     rw [hZD,lAp,lAp,hl3,hD1l,hD2l];omega
    have hlen:=ih.len
    have hgZ:okX v3.S k mu (h+1) Z:=by
     refine⟨?_, ?_, ?_, ?_⟩
     ·rw [hd1]
      refine⟨by rw [hZ], ?_⟩
      rw [hZ]
      simp only [lAp,List.length_map]
     ·rw [hd1,szN_false,hZl];omega
     ·intro z hz
      rw [hZD] at hz
      rcases List.mem_append.1 hz with hz | hz
      ·rcases List.mem_append.1 hz with hz | hz
       ·exact(hts z (.inl hz)).1
       ·exact hg3 z hz
      ·exact(hts z (.inr hz)).1
     ·rw [hZ]
      simp only [List.map_append]
    have hpZ:pagX v3.S (h+1) Z=D1.flatMap (pgN v.S (h+1))++(D'.flatMap (pgN v3.S (h+1))++D2.flatMap (pgN v.S (h+1))):=by
     rw [pagX,hZD,List.flatMap_append,List.flatMap_append,hp1,hp3,aAs]
    have heZ:entX v3.S (h+1) Z=D1.flatMap (wkE v.S (h+1))++(insE (wkE v.S (h+1) d) x++D2.flatMap (wkE v.S (h+1))):=by
     have hZE:Z.E= [] :=by rw [hZ]
     rw [entX,hZE,nAp,hZD,List.flatMap_append,List.flatMap_append,hf1,hf2,he3,ih.ents,aAs]
    have hUZ:U3.Perm (pagX v3.S (h+1) Z++R):=by
     refine hU3.trans ?_
     rw [hpZ,hRd,aAs,aAs]
     exact perm3 _ _ _
    have hWi:=ih.W
    have hr:=InR.split (m:=m) (S0:=v.S) (U:=U) (R:=R) hv3 hUZ (fun n hn=>hfr3 n (hfr2 _ (hfr1 _ (hn.le (by omega))))) (hsR.sub (fun b hb=>by
     rcases List.mem_append.1 hb with c | c
     ·rw [hRd];exact mAl _ (mAr _ (mAr _ c))
     ·exact mAr _ c)) hgZ (by rw [hd1,szN_false,hZl];show _≤2*16;omega) (by rw [hd1,szN_false,hZl];omega) hml (by omega)
    rw [heZ] at hr
    rw [hin]
    exact .inl hr
   ·refine .inr ⟨?_,fun c=>hn ((hfr2 2 (hfr1 _ (c.le (by omega)))).le ih.len.2)⟩
    have hu5:(unN (decide (h=0)) V.1 V.2.1).2.2=5:=h5
    rw [hin,rpN,if_neg (by rw [hu5];decide)]
    exact hu5
  ·refine .inr ⟨?_,fun c=>hn (hfr1 _ (c.le (by omega)))⟩
   rw [hin,if_neg (by rw [h5];decide)]
   exact h5
def v0 (k:Nat):VS:=⟨DS.new k,1,newM k,newM k⟩
def rmin (h:Nat):Nat:=if h=1 then 1 else 2
structure TI (k:Nat)(mu:Nat→Nat)(O R:List Nat)(v:VS)(a:Int)(h:Nat)(E:List ENT):Prop where
 vg:VG k (pgN v.S h a++R) O v
 g:h=0∨tkG v.S k mu h (rmin h) a
 ents:wkE v.S h a=E
 ord:ordE E
 h5:h≤5
theorem sg_spec {k:Nat}{mu:Nat→Nat}{O U R:List Nat}{h:Nat}{v:VS}{y:ND3}(hv:VG k U O v)(hU:U.Perm (pagX v.S h y++R))(g:okX v.S k mu h y)(hm:rmin (h+1)≤szN (decide (h=0)) y)(hM:szN (decide (h=0)) y≤mostN (decide (h=0)))(ho:ordE (entX v.S h y))(h5:h+1≤5):
  sgG (decide (h=0)) v [y] (h+1)∧((∃v' t,sgN (decide (h=0)) v [y] (h+1)=(v',(((t:Nat):Int),h+1),0)∧TI k mu O R v' (t:Int) (h+1) (entX v.S h y)∧v'.S.W.length≤v.S.W.length+4∧same v.S v'.S (R++O))
   ∨((sgN (decide (h=0)) v [y] (h+1)).2.2=5∧ ¬Fre k U O 1)):=by
 have hy0:([y] :List ND3).getD 0 nd0=y:=rfl
 have hno: ¬(decide (h=0)=false∧szN (decide (h=0)) y=1):=fun c=>by
  have h0:h≠0:=of_decide_eq_false c.1
  rw [rmin,if_neg (by omega)] at hm
  omega
 have hs1:=g.2.1
 refine⟨⟨Nat.le_refl _,fun c1 c2=>by rw [hy0] at c2;exact absurd ⟨c1,c2⟩ hno⟩, ?_⟩
 have e:sgN (decide (h=0)) v [y] (h+1)=((wrN v (decide (h=0)) y).1,((wrN v (decide (h=0)) y).2.1,h+1),(wrN v (decide (h=0)) y).2.2):=by
  rw [sgN,hy0,if_neg (fun c=>c.elim (fun q=>by cases q) (by omega)),if_neg hno]
 rw [e]
 have hnd:=(List.nodup_append.1 (hU.nodup_iff.1 hv.m.nodup)).1
 obtain⟨hr,hrE,hrK⟩:=nodeRight_of g hv.k8.2 hM ho hnd
 rcases hv.wr hr hrE hrK with ⟨t,v1,e1,hv1,ht,htU,htO,hrd,hW1,hag⟩ | ⟨e5,_,hn⟩
 ·rw [e1]
  have hsm:same v.S v1.S (U++O):=hv.same_of ht htU htO hag
  obtain⟨w1,w2,w3⟩:=tk_written (m:=rmin (h+1)) g (hsm.sub (fun p hp=>mAl _ (hU.mem_iff.2 (mAl _ hp)))) hrd ht hm hM
  refine .inl ⟨v1,t,rfl,⟨?_, .inr w1,w2,ho,h5⟩,hW1,hsm.sub (fun p hp=>?_)⟩
  ·rw [w3]
   exact hv1.perm (List.Perm.cons t hU)
  ·rcases List.mem_append.1 hp with q | q
   ·exact mAl _ (hU.mem_iff.2 (mAr _ q))
   ·exact mAr _ q
 ·exact .inr ⟨e5,hn⟩
theorem ro_one (leaf:Bool)(v:VS)(xs:List ND3)(h:Nat):roN 1 leaf v xs h=if 1<xs.length then(if(unN leaf v xs).2.2=0 then roN 0 false (unN leaf v xs).1 (splitN false (unN leaf v xs).2.1) (h+1) else((unN leaf v xs).1,(0,0),(unN leaf v xs).2.2)) else if 5<h then(v,(0,0),5) else sgN leaf v xs h:=rfl
theorem ro_spec {k:Nat}{mu:Nat→Nat}{O U R:List Nat}{h:Nat}{v:VS}{xs:List ND3}(hmu:mu (h+1)≤limN h)(hv:VG k U O v)(hU:U.Perm (pagsX v.S h xs++R))(hok: ∀z∈xs,okX v.S k mu h z∧rmin (h+1)≤szN (decide (h=0)) z∧szN (decide (h=0)) z≤mostN (decide (h=0)))
  (ho:ordE (entsX v.S h xs)) (hl:1≤xs.length∧xs.length≤2) (h2:xs.length=2→ ∀z∈xs,limN h≤szN (decide (h=0)) z) (h5:h+1≤5):
  roG 1 (decide (h=0)) v xs (h+1)∧((∃v' t H,roN 1 (decide (h=0)) v xs (h+1)=(v',(((t:Nat):Int),H),0)∧TI k mu O R v' (t:Int) H (entsX v.S h xs)∧v'.S.W.length≤v.S.W.length+12∧same v.S v'.S (R++O)∧1≤H)
   ∨((roN 1 (decide (h=0)) v xs (h+1)).2.2=5∧(¬Fre k U O 3∨h=4))):=by
 have hsmR: ∀{S S':DS},same S S' (U++O)→same S S' (R++O):=fun s=>s.sub (fun p hp=>by
  rcases List.mem_append.1 hp with q | q
  ·exact mAl _ (hU.mem_iff.2 (mAr _ q))
  ·exact mAr _ q)
 by_cases hl1:xs.length=1
 ·obtain⟨y,rfl⟩: ∃y,xs= [y] :=⟨xs[0]'(by omega),List.ext_getElem (by simp [hl1]) (fun i p q=>by simp at q;subst q;rfl)⟩
  obtain⟨g1,g2,g3⟩:=hok y (List.mem_singleton.2 rfl)
  have hp1:pagsX v.S h [y] =pagX v.S h y:=by simp [pagsX]
  have he1:entsX v.S h [y] =entX v.S h y:=by simp [entsX]
  rw [hp1] at hU
  rw [he1] at ho ⊢
  obtain⟨sG,hsg⟩:=sg_spec hv hU g1 g2 g3 ho h5
  refine⟨⟨fun c=>absurd c (by show ¬1<1;decide),fun _ _=>sG⟩, ?_⟩
  rw [roN_fin (by show 1≤1;decide),if_neg (by omega)]
  rcases hsg with ⟨v',t,e,ti,hW,hsm⟩ | ⟨e5,hn⟩
  ·exact .inl ⟨v',t,h+1,e,ti,by omega,hsm,by omega⟩
  ·exact .inr ⟨e5, .inl (fun c=>hn (c.le (by decide)))⟩
 ·have hl2:xs.length=2:=by omega
  have hxm: ∀z∈xs,okX v.S k mu h z∧mu (h+1)≤szN (decide (h=0)) z∧szN (decide (h=0)) z≤mostN (decide (h=0)):=fun z hz=>⟨(hok z hz).1,Nat.le_trans hmu (h2 hl2 z hz),(hok z hz).2.2⟩
  rcases un_spec xs v U R hv hU hxm ho with ⟨v1,D,U',e1,hv1,hU1,hsm1,hDl,hDg,hDe,hDk,hW1,hfr1⟩ | ⟨e5,hn⟩
  ·have hun:unN (decide (h=0)) v xs=(v1,⟨[],xs.map (least3 (decide (h=0))),D⟩,0):=by
    rw [unN,e1];simp only [if_true]
   obtain⟨X,hX⟩: ∃X:ND3,X=⟨[],xs.map (least3 (decide (h=0))),D⟩:=⟨_,rfl⟩
   rw [←hX] at hun
   have hXD:X.D=D:=by rw [hX]
   have hd1:decide (h+1=0)=false:=rfl
   have hXs:szN false X=2:=by rw [szN_false,hXD,hDl,hl2]
   have hgX:okX v1.S k mu (h+1) X:=by
    refine⟨?_, ?_, ?_, ?_⟩
    ·rw [hd1]
     refine⟨by rw [hX], ?_⟩
     rw [hX]
     simp only [List.length_map]
     exact hDl.symm
    ·rw [hd1,hXs];decide
    ·intro z hz
     rw [hXD] at hz
     exact hDg z hz
    ·rw [hX]
     exact hDk.symm
   have hsp:splitN false X= [X] :=by
    rcases split_two (leaf:=false) (y:=X) hgX.1 (by rw [hXs];decide) (by rw [hXs];decide) with ⟨_,c⟩ | ⟨c,_⟩
    ·exact c
    ·rw [hXs] at c;exact absurd c (by decide)
   have hpX:pagX v1.S (h+1) X=D.flatMap (pgN v1.S (h+1)):=by rw [pagX,hXD]
   have heX:entX v1.S (h+1) X=entsX v.S h xs:=by
    have hXE:X.E= [] :=by rw [hX]
    rw [entX,hXE,nAp,hXD,hDe]
   have hro:roN 1 (decide (h=0)) v xs (h+1)=roN 0 false v1 [X] (h+2):=by
    rw [ro_one,if_pos (by omega),hun,if_pos rfl]
    simp only [hsp]
   have hsg:h+2≤5→_:=fun q=>sg_spec (R:=R) (h:=h+1) hv1 (by rw [hpX];exact hU1) hgX (by rw [hd1,hXs];show rmin (h+2)≤2;rw [rmin,if_neg (by omega)];exact Nat.le_refl _) (by rw [hd1,hXs];decide) (by rw [heX];exact ho) q
   have hG0:roG 0 false v1 [X] (h+2):=⟨by show 1≤1;decide,fun q=>(hsg q).1⟩
   refine⟨⟨fun _ _=>by rw [hun];simp only [hsp];exact hG0,fun c=>by omega⟩, ?_⟩
   rw [hro,roN]
   by_cases hb:5<h+2
   ·rw [if_pos hb]
    exact .inr ⟨rfl, .inr (by omega)⟩
   ·rw [if_neg hb]
    rcases(hsg (by omega)).2 with ⟨v',t,e,ti,hW,hsm⟩ | ⟨e5,hn⟩
    ·rw [heX] at ti
     refine .inl ⟨v',t,h+2,e,ti,by rw [hl2] at hW1;omega,(hsmR hsm1).trans hsm,by omega⟩
    ·exact .inr ⟨e5, .inl (fun c=>hn (hfr1 1 (by rw [hl2];exact c)))⟩
  ·have hu5:(unN (decide (h=0)) v xs).2.2=5:=e5
   refine⟨⟨fun _ c=>by rw [hu5] at c;exact absurd c (by decide),fun c=>by omega⟩, .inr ⟨?_, .inl (fun c=>hn (by rw [hl2];exact c.le (by decide)))⟩⟩
   rw [ro_one,if_pos (by omega),if_neg (by rw [hu5];decide)]
   exact hu5
theorem lessK_tot {a b:KEY}(h:lessK a b=false)(hn:a≠b):lessK b a=true:=by
 unfold lessK at h ⊢
 have: ¬(a.1=b.1∧a.2=b.2):=fun c=>hn (Prod.ext c.1 c.2)
 rw [Bool.or_eq_false_iff,decide_eq_false_iff_not] at h
 obtain⟨h1,h2⟩:=h
 rw [Bool.and_eq_false_iff,decide_eq_false_iff_not,decide_eq_false_iff_not] at h2
 by_cases e:a.1=b.1
 ·have e2: ¬a.2=b.2:=fun c=>this ⟨e,c⟩
  have h3: ¬a.2<b.2:=h2.elim (fun q=>absurd e q) id
  rw [dTt e.symm,dTt (show b.2<a.2 by omega)];simp
 ·rw [dTt (show b.1<a.1 by omega)];simp
theorem ent_span {e:ENT}(h:entOk e=true):e.key.2≤e.fin:=by
 simp only [entOk,Bool.and_eq_true,decide_eq_true_eq] at h
 exact h.1.1.1.1.1.2
theorem after_of {a x:ENT}(hl:lessK a.key x.key=true)(ha:entOk a=true)(hx:entOk x=true)(hm:meetsE x a=false):afterE a x=true:=by
 have s1:=ent_span ha
 have s2:=ent_span hx
 rw [afterE,hl,Bool.true_and,Bool.not_eq_true',Bool.and_eq_false_iff,decide_eq_false_iff_not,decide_eq_false_iff_not]
 by_cases e:a.key.1=x.key.1
 ·right
  intro c
  unfold lessK at hl
  rw [Bool.or_eq_true,decide_eq_true_eq,Bool.and_eq_true,decide_eq_true_eq,decide_eq_true_eq] at hl
  have h2:a.key.2<x.key.2:=hl.elim (fun q=>by omega) (fun q=>q.2)
  have:meetsE x a=true:=by
   rw [meetsE,dTt e.symm,dTt c,dTt (show a.key.2≤x.fin by omega)];rfl
  rw [this] at hm;cases hm
 ·exact .inl e
theorem after_of' {a x:ENT}(hl:lessK x.key a.key=true)(ha:entOk a=true)(hx:entOk x=true)(hm:meetsE x a=false):afterE x a=true:=by
 have s1:=ent_span ha
 have s2:=ent_span hx
 rw [afterE,hl,Bool.true_and,Bool.not_eq_true',Bool.and_eq_false_iff,decide_eq_false_iff_not,decide_eq_false_iff_not]
 by_cases e:x.key.1=a.key.1
 ·right
  intro c
  unfold lessK at hl
  rw [Bool.or_eq_true,decide_eq_true_eq,Bool.and_eq_true,decide_eq_true_eq,decide_eq_true_eq] at hl
  have h2:x.key.2<a.key.2:=hl.elim (fun q=>by omega) (fun q=>q.2)
  have:meetsE x a=true:=by
   rw [meetsE,dTt e,dTt (show x.key.2≤a.fin by omega),dTt c];rfl
  rw [this] at hm;cases hm
 ·exact .inl e
theorem chk_spec {E:List ENT}{x:ENT}(h:chkE E x=0):(∀y∈E,y.key≠x.key)∧ ∀y∈E,meetsE x y=false:=by
 rw [chkE] at h
 split at h
 ·cases h
 ·rename_i h1
  split at h
  ·cases h
  ·rename_i h2
   rw [Bool.not_eq_true,List.any_eq_false] at h1 h2
   exact⟨fun y hy c=>h1 y hy (dTt c),fun y hy=>by
    have:=h2 y hy
    cases hm:meetsE x y with
    | true=>exact absurd hm this
    | false=>rfl⟩
theorem ins_ord {E:List ENT}{x:ENT}(h:ordE E)(hx:entOk x=true)(hR:entR x)(hc:chkE E x=0):ordE (insE E x):=by
 obtain⟨hk,hm⟩:=chk_spec hc
 have e:E.takeWhile (fun y=> !lessK x.key y.key)++E.dropWhile (fun y=> !lessK x.key y.key)=E:=List.takeWhile_append_dropWhile
 obtain⟨A,hA⟩: ∃A,A=E.takeWhile (fun y=> !lessK x.key y.key):=⟨_,rfl⟩
 obtain⟨B,hB⟩: ∃B,B=E.dropWhile (fun y=> !lessK x.key y.key):=⟨_,rfl⟩
 rw [insE, ←hA, ←hB]
 rw [←hA, ←hB] at e
 have hAl: ∀a∈A,lessK x.key a.key=false:=fun a ha=>by
  rw [hA] at ha
  have: ∀(l:List ENT),a∈l.takeWhile (fun y=> !lessK x.key y.key)→(!lessK x.key a.key)=true:=by
   intro l
   induction l with
   | nil=>intro q;cases q
   | cons b l ih=>
    intro q
    rw [List.takeWhile_cons] at q
    split at q
    ·rename_i hb
     rcases List.mem_cons.1 q with rfl | q
     ·exact hb
     ·exact ih q
    ·cases q
  have:=this E ha
  cases hl:lessK x.key a.key with
  | false=>rfl
  | true=>rw [hl] at this;cases this
 have hBl: ∀b∈B,lessK x.key b.key=true:=by
  have hp:=h.1
  rw [←e,List.pairwise_append] at hp
  have hp2:=hp.2.1
  cases hBc:B with
  | nil=>intro b hb;cases hb
  | cons b0 B'=>
   have h0:lessK x.key b0.key=true:=by
    have hd: ∀(l:List ENT),l.dropWhile (fun y=> !lessK x.key y.key)=b0::B'→(!lessK x.key b0.key)=false:=by
     intro l
     induction l with
     | nil=>intro q;cases q
     | cons b l ih=>
      intro q
      rw [List.dropWhile_cons] at q
      split at q
      ·exact ih q
      ·rename_i hb
       injection q with q1 q2
       rw [←q1]
       exact Bool.eq_false_iff.2 hb
    have:=hd E (hB.symm.trans hBc)
    cases hl:lessK x.key b0.key with
    | true=>rfl
    | false=>rw [hl] at this;cases this
   rw [hBc,List.pairwise_cons] at hp2
   intro b hb
   rcases List.mem_cons.1 hb with rfl | hb
   ·exact h0
   ·exact lessK_trans h0 (after_less (hp2.1 b hb))
 have hAE: ∀a∈A,a∈E:=fun a ha=>by rw [←e];exact mAl _ ha
 have hBE: ∀b∈B,b∈E:=fun b hb=>by rw [←e];exact mAr _ hb
 have hp:=h.1
 rw [←e,List.pairwise_append] at hp
 refine⟨?_,fun z hz=>?_⟩
 ·rw [List.pairwise_append]
  refine⟨hp.1,List.pairwise_cons.2 ⟨fun b hb=>after_of' (hBl b hb) (h.2 b (hBE b hb)).1 hx (hm b (hBE b hb)),hp.2.1⟩,fun a ha b hb=>?_⟩
  rcases List.mem_cons.1 hb with rfl | hb
  ·exact after_of (lessK_tot (hAl a ha) (fun c=>hk a (hAE a ha) c.symm)) (h.2 a (hAE a ha)).1 hx (hm a (hAE a ha))
  ·exact hp.2.2 a ha b hb
 ·rcases List.mem_append.1 hz with hz | hz
  ·exact h.2 z (hAE z hz)
  ·rcases List.mem_cons.1 hz with rfl | hz
   ·exact⟨hx,hR⟩
   ·exact h.2 z (hBE z hz)
theorem tk_wkG {S:DS}{k:Nat}{mu:Nat→Nat}(hk:k≤512): ∀(h m:Nat) (a:Int),tkG S k mu h m a→wkG S h a
 | 0,_,_,g=>g.elim
 | h+1,m,a,g=>by
  obtain⟨⟨p,hp,hp2⟩,g1,g2,g3,⟨g4,g5,g6⟩,g7,g8⟩:=g
  refine⟨by omega,g1, ?_, ?_,fun d hd=>tk_wkG hk h (mu h) d (g7 d hd)⟩
  ·by_cases h0:h=0
   ·rw [dTt h0] at g6 ⊢
    have:(rdN S a true).E.length≤7:=g6
    omega
   ·rw [dFf h0] at g3 ⊢
    have:(rdN S a false).E= [] :=g3.1
    rw [this];exact Nat.zero_le _
  ·by_cases h0:h=0
   ·rw [dTt h0] at g3 ⊢
    have:(rdN S a true).D= [] :=g3.2
    rw [this];exact Nat.zero_le _
   ·rw [dFf h0] at g6 ⊢
    have:(rdN S a false).D.length≤16:=g6
    omega
theorem tk_len {S:DS}{k:Nat}{mu:Nat→Nat}: ∀(h m:Nat) (a:Int),tkG S k mu h m a→(wkE S h a).length≤7*(pgN S h a).length
 | 0,_,_,g=>g.elim
 | h+1,m,a,g=>by
  obtain⟨_,g1,g2,g3,⟨g4,g5,g6⟩,g7,g8⟩:=g
  have hs: ∀D:List Int,(∀d∈D,tkG S k mu h (mu h) d)→(D.flatMap (wkE S h)).length≤7*(D.flatMap (pgN S h)).length:=by
   intro D
   induction D with
   | nil=>intro _;exact Nat.zero_le _
   | cons d D ih=>
    intro hd
    have h1:=tk_len h (mu h) d (hd d (List.mem_cons_self ..))
    have h2:=ih (fun z hz=>hd z (mCm _ hz))
    rw [List.flatMap_cons,List.flatMap_cons,lAp,lAp];omega
  have h1:=hs _ g7
  have h2:(rdN S a (decide (h=0))).E.length≤7:=by
   by_cases h0:h=0
   ·rw [dTt h0] at g6 ⊢;exact g6
   ·rw [dFf h0] at g3 ⊢
    have:(rdN S a false).E= [] :=g3.1
    rw [this];exact Nat.zero_le _
  rw [wkE,pgN,lAp,lCn];omega
theorem ents_entR {S:DS}{h:Nat}{xs:List ND3}(ho:ordE (entsX S h xs)): ∀y∈xs, ∀e∈y.E,entR e:=fun y hy e he=>
 (ho.2 e (List.mem_flatMap.2 ⟨y,hy,by rw [entX];exact mAl _ he⟩)).2
theorem in_G {k:Nat}{mu:Nat→Nat}{O:List Nat}{x:ENT}(hmu: ∀h,mu (h+1)≤limN h): ∀(h m:Nat) (v:VS) (a:Int) (U R:List Nat),VG k U O v→tkG v.S k mu (h+1) m a→U.Perm (pgN v.S (h+1) a++R)→ordE (insE (wkE v.S (h+1) a) x)→
  v.S.W.length+8*h≤700000→inG (h+1) v a x
 | 0,m,v,a,U,R,hv,g,hU,ho,hW=>by
  have hk512:=hv.k8.2
  have hwg:=tk_wkG hv.k8.2 (0+1) m a g
  obtain⟨⟨p,hp,hp2⟩,g1,g2,g3,⟨g4,g5,g6⟩,g7,g8⟩:=g
  have hd1:decide ((0:Nat)=0)=true:=rfl
  obtain⟨hK,hD⟩:=id g3
  rw [hd1] at g1
  have hD':(rdN v.S a true).D= [] :=hD
  have hwk:wkE v.S (0+1) a=(rdN v.S a true).E:=by
   show (rdN v.S a true).E++(rdN v.S a true).D.flatMap _=_
   rw [hD',List.flatMap_nil,List.append_nil]
  have hpg:pgN v.S (0+1) a= [p] :=by
   show a.toNat::(rdN v.S a true).D.flatMap _= [p]
   rw [hD',hp];rfl
  rw [hpg] at hU
  have hU:U.Perm (p::R):=hU
  obtain⟨v',e1,e2,hv'⟩:=(hv.perm hU).give
  rw [←hp] at e1
  refine⟨⟨by omega,by omega,g1,g2,g3,hwg.2.2.1,hwg.2.2.2.1,by rw [e1]⟩,fun c=>absurd rfl c⟩
 | h+1,m,v,a,U,R,hv,g,hU,ho,hW=>by
  have hk512:=hv.k8.2
  have hwg:=tk_wkG hv.k8.2 (h+1+1) m a g
  obtain⟨⟨p,hp,hp2⟩,g1,g2,g3,⟨g4,g5,g6⟩,g7,g8⟩:=g
  have g3':=g3
  have g2':=g2
  have hd1:decide (h+1=0)=false:=rfl
  rw [hd1] at g1 g3 g4 g5 g6 g7 g8
  obtain⟨hE,hKD⟩:=g3
  obtain⟨N,hN⟩: ∃N,N=rdN v.S a false:=⟨_,rfl⟩
  have hpg:pgN v.S (h+1+1) a=p::N.D.flatMap (pgN v.S (h+1)):=by
   show a.toNat::(rdN v.S a false).D.flatMap _=_
   rw [hN,hp];rfl
  have hE':(rdN v.S a false).E= [] :=hE
  have hwk:wkE v.S (h+1+1) a=N.D.flatMap (wkE v.S (h+1)):=by
   show (rdN v.S a false).E++(rdN v.S a false).D.flatMap _=_
   rw [hE',hN,nAp]
  rw [hpg] at hU
  have hU:U.Perm (p::(N.D.flatMap (pgN v.S (h+1))++R)):=hU
  obtain⟨v1,e1,e2,hv1⟩:=(hv.perm hU).give
  rw [←hp] at e1
  rw [hwk] at ho
  have g7':=g7
  have g8':=g8
  have g4':=g4
  rw [←hN] at g7' g8' g4'
  have hDl:0<N.D.length:=g4'
  obtain⟨d,hsp,hdq,hql,hA,hC⟩:=child_sides (x:=x) g7' g8' hDl (ho.sub (insE_sub _ _))
  obtain⟨q,hq⟩: ∃q,q=childN N.K x.key:=⟨_,rfl⟩
  rw [←hq] at hsp hdq hql hA hC
  obtain⟨D1,hD1⟩: ∃D1,D1=N.D.take q:=⟨_,rfl⟩
  obtain⟨D2,hD2⟩: ∃D2,D2=N.D.drop (q+1):=⟨_,rfl⟩
  rw [←hD1, ←hD2] at hsp
  rw [←hD1] at hA
  rw [←hD2] at hC
  have hdm:d∈N.D:=by rw [hsp];exact mAr _ (List.mem_cons_self ..)
  have hm2: ∀z∈D2,z∈N.D:=fun z hz=>by rw [hsp];exact mAr _ (mCm _ hz)
  have hEs:N.D.flatMap (wkE v.S (h+1))=D1.flatMap (wkE v.S (h+1))++(wkE v.S (h+1) d++D2.flatMap (wkE v.S (h+1))):=by
   conv=>lhs;rw [hsp]
   rw [List.flatMap_append,List.flatMap_cons]
  have hPs:N.D.flatMap (pgN v.S (h+1))=D1.flatMap (pgN v.S (h+1))++(pgN v.S (h+1) d++D2.flatMap (pgN v.S (h+1))):=by
   conv=>lhs;rw [hsp]
   rw [List.flatMap_append,List.flatMap_cons]
  rw [hEs,insE_app hA hC] at ho
  obtain⟨Rd,hRd⟩: ∃Rd,Rd=D1.flatMap (pgN v.S (h+1))++(D2.flatMap (pgN v.S (h+1))++R):=⟨_,rfl⟩
  have hU1:(N.D.flatMap (pgN v.S (h+1))++R).Perm (pgN v.S (h+1) d++Rd):=by
   rw [hPs,hRd,aAs,aAs]
   exact perm3 _ _ _
  have ih:=in_G (x:=x) hmu h (mu (h+1)) v1 d _ Rd hv1 (by rw [e2];exact g7' d hdm) (by rw [e2];exact hU1) (by rw [e2];exact insE_ord_sub ho) (by rw [e2];omega)
  have isp:=in_spec (x:=x) hmu h (mu (h+1)) v1 d _ Rd (hmu h) hv1 (by rw [e2];exact g7' d hdm) (by rw [e2];exact hU1) (by rw [e2];exact insE_ord_sub ho)
  have iok:=inN_ok (h+1) d x hv1.ok
  refine⟨⟨by omega,by omega,g1,g2',g3',hwg.2.2.1,hwg.2.2.2.1,by rw [e1]⟩,fun _=>?_⟩
  rw [←hN, ←hq,hdq,e1]
  dsimp only
  refine⟨hql,ih,iok,fun hz=>?_⟩
  rcases isp with i | ⟨h5,_⟩
  ·have hw:=i.W
   rw [e2] at hw
   refine⟨by have:=i.len;omega,by have:=i.len;omega,by have:=i.len;omega,ents_entR (S:=(inN (h+1) v1 d x).1.S) (h:=h) (by rw [i.ents,e2];exact insE_ord_sub ho)⟩
  ·have hz':(inN (h+1) v1 d x).2.2=0:=hz
   rw [h5] at hz';cases hz'
theorem rmin_lim (g:Nat):rmin (g+1)≤limN g:=by
 rw [rmin,limN]
 by_cases h:g=0
 ·rw [if_pos (by omega),if_pos h];decide
 ·rw [if_neg (by omega),if_neg h];decide
theorem one_okX (S:DS)(k:Nat)(mu:Nat→Nat)(x:ENT):okX S k mu 0 ⟨[x], [], []⟩:=⟨⟨rfl,rfl⟩,Nat.le_refl 1,(fun d hd=>by cases hd),rfl⟩
theorem first_spec {k:Nat}{mu:Nat→Nat}{O R:List Nat}{v:VS}{x:ENT}(hmu: ∀h,mu (h+1)≤limN h)(hv:VG k R O v)(ho:ordE [x]):
  roG 1 true v [⟨[x], [], []⟩] 1∧((∃v' t H,roN 1 true v [⟨[x], [], []⟩] 1=(v',(((t:Nat):Int),H),0)∧TI k mu O R v' (t:Int) H [x] ∧v'.S.W.length≤v.S.W.length+12∧same v.S v'.S (R++O)∧1≤H)
   ∨((roN 1 true v [⟨[x], [], []⟩] 1).2.2=5∧ ¬Fre k R O 3)):=by
 have hd:decide ((0:Nat)=0)=true:=rfl
 have hp:pagsX v.S 0 [⟨[x], [], []⟩] = [] :=rfl
 have he:entsX v.S 0 [⟨[x], [], []⟩] = [x] :=rfl
 have h:=ro_spec (k:=k) (mu:=mu) (O:=O) (U:=R) (R:=R) (h:=0) (v:=v) (xs:= [⟨[x], [], []⟩]) (hmu 0) hv (by rw [hp];exact List.Perm.refl _) (fun z hz=>by
  rw [List.mem_singleton.1 hz]
  exact⟨one_okX v.S k mu x,by show rmin 1≤1;decide,by show 1≤7;decide⟩) (by rw [he];exact ho) ⟨Nat.le_refl 1,by show 1≤2;decide⟩ (fun c=>by cases c) (by decide)
 rw [hd,he] at h
 refine⟨h.1, ?_⟩
 rcases h.2 with c | ⟨c1,c2⟩
 ·exact .inl c
 ·exact .inr ⟨c1,c2.elim id (fun q=>by cases q)⟩
theorem i_spec {k:Nat}{mu:Nat→Nat}{O R:List Nat}{v:VS}{a:Int}{h:Nat}{E:List ENT}{x:ENT}(hmu: ∀h,mu (h+1)≤limN h)(ti:TI k mu O R v a h E)(hx:entOk x=true)(hR:entR x)(hc:chkE E x=0):
  (∃v' t H,iN v a h x=(v',(((t:Nat):Int),H),0)∧TI k mu O R v' (t:Int) H (insE E x)∧v'.S.W.length≤v.S.W.length+60∧same v.S v'.S (R++O)∧1≤H)
  ∨((iN v a h x).2.2=5∧(¬Fre k (pgN v.S h a++R) O (2*h+3)∨h=5)):=by
 have hio:=ins_ord ti.ord hx hR hc
 have hv:=ti.vg
 rw [iN,ti.ents,hc,if_neg (by decide)]
 cases h with
 | zero=>
  have hE:E= [] :=ti.ents.symm
  subst hE
  have hins:insE [] x= [x] :=rfl
  rw [hins] at hio ⊢
  rw [if_pos rfl]
  rcases(first_spec (mu:=mu) hmu (O:=O) (R:=R) hv hio).2 with ⟨v',t,H,e,ti',hW,hsm,hH⟩ | ⟨e5,hn⟩
  ·exact .inl ⟨v',t,H,e,ti',by omega,hsm,hH⟩
  ·exact .inr ⟨e5, .inl hn⟩
 | succ g=>
  rw [if_neg (Nat.succ_ne_zero g)]
  have hdd:decide (g+1=1)=decide (g=0):=decide_eq_decide.2 (by omega)
  rw [hdd]
  have tg:=ti.g.resolve_left (Nat.succ_ne_zero g)
  rcases in_spec (x:=x) hmu g (rmin (g+1)) v a _ R (rmin_lim g) hv tg (List.Perm.refl _) (by rw [ti.ents];exact hio) with i | ⟨h5,hn⟩
  ·obtain⟨V,hV⟩: ∃V,V=inN (g+1) v a x:=⟨_,rfl⟩
   rw [←hV] at i ⊢
   rw [if_pos i.e]
   obtain⟨U',hv',hU',hfr⟩:=i.vg
   have hr:=ro_spec (hmu g) hv' hU' i.ok (by rw [i.ents,ti.ents];exact hio) i.len i.two ti.h5
   rw [i.ents,ti.ents] at hr
   have hWi:=i.W
   have h5:=ti.h5
   rcases hr.2 with ⟨v',t,H,e,ti',hW,hsm,hH⟩ | ⟨e5,hn⟩
   ·exact .inl ⟨v',t,H,e,ti',by omega,i.sm.trans hsm,hH⟩
   ·refine .inr ⟨e5, ?_⟩
    rcases hn with hn | hn
    ·exact .inl (fun c=>hn (hfr 3 (c.le (by omega))))
    ·exact .inr (by omega)
  ·rw [if_neg (by rw [h5];decide)]
   exact .inr ⟨h5, .inl (fun c=>hn (c.le (by omega)))⟩
theorem iG_of {k:Nat}{mu:Nat→Nat}{O R:List Nat}{v:VS}{a:Int}{h:Nat}{E:List ENT}{x:ENT}(hmu: ∀h,mu (h+1)≤limN h)(ti:TI k mu O R v a h E)(hx:entOk x=true)(hR:entR x)(hW:v.S.W.length≤600000):iG v a h x:=by
 have hv:=ti.vg
 have h5:=ti.h5
 have hlen:(wkE v.S h a).length≤100000:=by
  rcases ti.g with h0 | tg
  ·subst h0;exact Nat.zero_le _
  ·have h1:=tk_len h (rmin h) a tg
   have h2:=hv.m.free
   have h3:=hv.k8.2
   rw [lAp] at h2
   omega
 refine⟨⟨h5,ti.g.imp id (fun tg=>tk_wkG hv.k8.2 h (rmin h) a tg),hlen,by omega,hx,hR⟩,fun hc=>?_⟩
 rw [ti.ents] at hc
 have hio:=ins_ord ti.ord hx hR hc
 cases h with
 | zero=>
  have hE:E= [] :=ti.ents.symm
  subst hE
  exact⟨fun _=>(first_spec (mu:=mu) hmu (O:=O) (R:=R) hv hio).1,fun c=>absurd rfl c⟩
 | succ g=>
  refine⟨fun c=>absurd c (Nat.succ_ne_zero g),fun _=>?_⟩
  have hdd:decide (g+1=1)=decide (g=0):=decide_eq_decide.2 (by omega)
  rw [hdd]
  have tg:=ti.g.resolve_left (Nat.succ_ne_zero g)
  refine⟨in_G (x:=x) hmu g (rmin (g+1)) v a _ R hv tg (List.Perm.refl _) (by rw [ti.ents];exact hio) (by omega),inN_ok (g+1) a x hv.ok,fun hz=>?_⟩
  rcases in_spec (x:=x) hmu g (rmin (g+1)) v a _ R (rmin_lim g) hv tg (List.Perm.refl _) (by rw [ti.ents];exact hio) with i | ⟨h5,hn⟩
  ·obtain⟨U',hv',hU',hfr⟩:=i.vg
   have hoi:ordE (entsX (inN (g+1) v a x).1.S g (inN (g+1) v a x).2.1):=by rw [i.ents,ti.ents];exact hio
   have hr:=ro_spec (hmu g) hv' hU' i.ok hoi i.len i.two ti.h5
   have hWi:=i.W
   have hl:=i.len
   exact⟨by omega,by omega,ents_entR hoi,hr.1⟩
  ·rw [h5] at hz;cases hz
def keepV (v v':VS):Prop:=v'.gen=v.gen∧v'.old=v.old∧v'.S.A=v.S.A
theorem keepV.rfl {v:VS}:keepV v v:=⟨Eq.refl _,Eq.refl _,Eq.refl _⟩
theorem keepV.trans {v v' v'':VS}(h:keepV v v')(h':keepV v' v''):keepV v v'':=⟨h'.1.trans h.1,h'.2.1.trans h.2.1,h'.2.2.trans h.2.2⟩
theorem wrPg_A (S:DS)(q:PG):(wrPg S q).1.A=S.A:=by
 rw [wrPg];split
 ·exact(DS.wrs_len _ _ _).2
 ·rfl
theorem wrN_keep (v:VS)(leaf:Bool)(x:ND3):keepV v (wrN v leaf x).1:=by
 rw [wrN];split
 ·exact keepV.rfl
 ·split
  ·exact keepV.rfl
  ·exact⟨rfl,rfl,wrPg_A _ _⟩
theorem giN_keep (v:VS)(a:Int):keepV v (giN v a).1:=by
 rw [giN];split<;>exact⟨rfl,rfl,rfl⟩
theorem unGo_keep (leaf:Bool): ∀(xs:List ND3) (v:VS),keepV v (unGo leaf v xs).1
 | [],v=>keepV.rfl
 | x::xs,v=>by
  rw [unGo];split
  ·exact wrN_keep v leaf x
  ·exact(wrN_keep v leaf x).trans (unGo_keep leaf xs _)
theorem unN_keep (leaf:Bool)(xs:List ND3)(v:VS):keepV v (unN leaf v xs).1:=unGo_keep leaf xs v
theorem rpN_keep (v:VS)(leaf:Bool)(x:ND3)(i c:Nat)(xs:List ND3):keepV v (rpN leaf v x i c xs).1:=by
 rw [rpN];split<;>exact unN_keep leaf xs v
theorem inN_keep: ∀(h:Nat) (v:VS) (a:Int) (x:ENT),keepV v (inN h v a x).1
 | 0,v,a,x=>keepV.rfl
 | h+1,v,a,x=>by
  rw [inN]
  split
  ·exact keepV.rfl
  ·split
   ·exact giN_keep v a
   ·split
    ·exact giN_keep v a
    ·have ih:=(giN_keep v a).trans (inN_keep h (giN v a).1 ((rdN v.S a false).D.getD (childN (rdN v.S a false).K x.key) 0) x)
     split
     ·exact ih.trans (rpN_keep _ _ _ _ _ _)
     ·exact ih
theorem lwN_keep: ∀(h:Nat) (v:VS) (a:Int),keepV v (lwN h v a).1
 | 0,v,a=>keepV.rfl
 | 1,v,a=>keepV.rfl
 | h+2,v,a=>by
  rw [lwN];split
  ·exact keepV.rfl
  ·exact(giN_keep v a).trans (lwN_keep (h+1) _ _)
theorem sgN_keep (leaf:Bool)(v:VS)(xs:List ND3)(h:Nat):keepV v (sgN leaf v xs h).1:=by
 rw [sgN];split
 ·exact keepV.rfl
 ·split
  ·exact lwN_keep _ _ _
  ·exact wrN_keep _ _ _
theorem roN_keep: ∀(f:Nat) (leaf:Bool) (v:VS) (xs:List ND3) (h:Nat),keepV v (roN f leaf v xs h).1
 | 0,leaf,v,xs,h=>by
  rw [roN];split
  ·exact keepV.rfl
  ·exact sgN_keep _ _ _ _
 | f+1,leaf,v,xs,h=>by
  rw [roN];split
  ·split
   ·exact(unN_keep leaf xs v).trans (roN_keep f _ _ _ _)
   ·exact unN_keep leaf xs v
  ·split
   ·exact keepV.rfl
   ·exact sgN_keep _ _ _ _
theorem iN_keep (v:VS)(a:Int)(h:Nat)(x:ENT):keepV v (iN v a h x).1:=by
 rw [iN];split
 ·exact keepV.rfl
 ·split
  ·exact roN_keep _ _ _ _ _
  ·split
   ·exact(inN_keep h v a x).trans (roN_keep _ _ _ _ _)
   ·exact inN_keep h v a x
def textAt (V:List UInt8)(t n:Nat):List UInt8:=(V.drop (t*256)).take (n*256)
theorem textAt_succ (V:List UInt8)(t n:Nat):textAt V t (n+1)=textAt V t n++pgAt V (t+n):=by
 rw [textAt,textAt,Nat.add_mul,List.take_add,List.drop_drop,pgAt,Nat.add_mul,Nat.one_mul]
theorem textAt_same {V V':List UInt8}{t:Nat}: ∀n,(∀p∈runL t n,pgAt V' p=pgAt V p)→textAt V' t n=textAt V t n
 | 0,_=>by rw [textAt,textAt,Nat.zero_mul,List.take_zero,List.take_zero]
 | n+1,h=>by
  rw [textAt_succ,textAt_succ,textAt_same n (fun p hp=>h p (by
   obtain⟨q1,q2⟩:=runL_mem.1 hp
   exact runL_mem.2 ⟨q1,by omega⟩)),h (t+n) (runL_mem.2 ⟨by omega,by omega⟩)]
theorem put_there (A b:List UInt8)(s:Nat)(h:s≤A.length):((putAt A s b).drop s).take b.length=b:=by
 have hl:(A.take s).length=s:=by rw [lTk];omega
 unfold putAt
 rw [aAs,List.drop_append_of_le_length (by omega),List.drop_of_length_le (by omega),nAp,List.take_left' rfl]
theorem put_else (A b:List UInt8)(s i:Nat)(h:s+b.length≤A.length)(hi:i<s∨s+b.length≤i):(putAt A s b)[i]? =A[i]? :=by
 have hl:(A.take s).length=s:=by rw [lTk];omega
 unfold putAt
 rcases hi with hi | hi
 ·rw [aAs,List.getElem?_append_left (by omega),List.getElem?_take,if_pos hi]
 ·rw [List.getElem?_append_right (by rw [lAp];omega),List.getElem?_drop,lAp,hl]
  congr 1;omega
theorem textAt_put (V:List UInt8)(t n:Nat)(b:List UInt8)(hb:b.length=n*256)(hV:t*256+n*256≤V.length):textAt (putAt V (t*256) b) t n=b:=by
 rw [textAt, ←hb]
 exact put_there V b _ (Nat.le_trans (Nat.le_add_right _ _) hV)
theorem pgAt_put (V:List UInt8)(t n p:Nat)(b:List UInt8)(hb:b.length=n*256)(hV:t*256+n*256≤V.length)(hp:p<t∨t+n≤p):pgAt (putAt V (t*256) b) p=pgAt V p:=by
 apply List.ext_getElem?
 intro j
 rw [pgAt,pgAt,List.getElem?_take,List.getElem?_take]
 split
 ·rename_i hj
  rw [List.getElem?_drop,List.getElem?_drop,put_else V b _ _ (by rw [hb];exact hV)]
  rw [hb]
  rcases hp with hp | hp
  ·left
   have:=Nat.mul_le_mul_right 256 (show p+1≤t from hp)
   rw [Nat.add_mul] at this
   omega
  ·right
   have:=Nat.mul_le_mul_right 256 hp
   rw [Nat.add_mul] at this
   exact Nat.le_trans this (Nat.le_add_right _ _)
 ·rfl
end Go.Proofs.YtcglabmlhljkmaaGreat
namespace Go.Gv
structure SP where
 gen:Nat
 addr:Int
 height:Int
 bitmap:Int
 pages:Int
def zeroS:SP:=⟨0,0,0,0,0⟩
def okS (s:SP):Bool:=
 decide (s.gen≠0) && (decide (8≤s.pages) && (decide (s.pages≤512) && ((decide (2≤s.bitmap) && decide (s.bitmap<s.pages)) &&
  (if s.height=0 then decide (s.addr=0) else decide (0<s.height) && (decide (s.height≤5) && ((decide (2≤s.addr) && decide (s.addr<s.pages)) && decide (s.addr≠s.bitmap)))))))
theorem okS_spec {s:SP}(h:okS s=true):s.gen≠0∧8≤s.pages∧s.pages≤512∧2≤s.bitmap∧s.bitmap<s.pages∧0≤s.height∧s.height≤5∧0≤s.addr∧s.addr<s.pages:=by
 simp only [okS,Bool.and_eq_true,decide_eq_true_eq] at h
 obtain⟨h1,h2,h3,⟨h4,h5⟩,h6⟩:=h
 split at h6
 ·have:=of_decide_eq_true h6
  exact⟨h1,h2,h3,h4,h5,by omega,by omega,by omega,by omega⟩
 ·simp only [Bool.and_eq_true,decide_eq_true_eq] at h6
  exact⟨h1,h2,h3,h4,h5,by omega,h6.2.1,by omega,h6.2.2.1.2⟩
def putS (s:SP):List UInt8:=bigB s.gen 8++bigB s.addr.toNat 2++ [UInt8.ofNat s.height.toNat] ++bigB s.bitmap.toNat 2++bigB s.pages.toNat 2
theorem putS_length (s:SP):(putS s).length=15:=by simp [putS,bigB_length]
def gotS (l:List UInt8):SP:=⟨numB (l.take 8),numB ((l.drop 8).take 2),(l.getD 10 0).toNat,numB ((l.drop 11).take 2),numB ((l.drop 13).take 2)⟩
def getS (l:List UInt8):SP×Nat:=if l.length≠15 then(zeroS,3) else if okS (gotS l)=true then(gotS l,0) else(zeroS,3)
theorem got_putS {s:SP}(h:okS s=true)(hg:s.gen<18446744073709551616):gotS (putS s)=s:=by
 obtain⟨h1,h2,h3,h4,h5,h6,h7,h8,h9⟩:=okS_spec h
 have a1:(putS s).take 8=bigB s.gen 8:=by
  rw [putS,aAs,aAs,aAs,List.take_left' (bigB_length _ _)]
 have a2:((putS s).drop 8).take 2=bigB s.addr.toNat 2:=by
  have e:putS s=bigB s.gen 8++bigB s.addr.toNat 2++([UInt8.ofNat s.height.toNat] ++bigB s.bitmap.toNat 2++bigB s.pages.toNat 2):=by simp [putS]
  rw [e,seg _ _ _ 8 2 (bigB_length _ _) (bigB_length _ _)]
 have a3:(putS s).getD 10 0=UInt8.ofNat s.height.toNat:=by
  have e:putS s=(bigB s.gen 8++bigB s.addr.toNat 2)++(UInt8.ofNat s.height.toNat::(bigB s.bitmap.toNat 2++bigB s.pages.toNat 2)):=by simp [putS]
  rw [e,gDe,List.getElem?_append_right (by simp [bigB_length])]
  simp [bigB_length]
 have a4:((putS s).drop 11).take 2=bigB s.bitmap.toNat 2:=by
  have e:putS s=(bigB s.gen 8++bigB s.addr.toNat 2++ [UInt8.ofNat s.height.toNat])++bigB s.bitmap.toNat 2++bigB s.pages.toNat 2:=by simp [putS]
  rw [e,seg _ _ _ 11 2 (by simp [bigB_length]) (bigB_length _ _)]
 have a5:((putS s).drop 13).take 2=bigB s.pages.toNat 2:=by
  have e:putS s=(bigB s.gen 8++bigB s.addr.toNat 2++ [UInt8.ofNat s.height.toNat] ++bigB s.bitmap.toNat 2)++bigB s.pages.toNat 2++ [] :=by simp [putS]
  rw [e,seg _ _ _ 13 2 (by simp [bigB_length]) (bigB_length _ _)]
 unfold gotS
 rw [a1,a2,a3,a4,a5,num_big,num_big,num_big,num_big]
 have e3:(UInt8.ofNat s.height.toNat).toNat=s.height.toNat:=by rw [UInt8.toNat_ofNat'];omega
 rw [e3]
 cases s
 simp only [SP.mk.injEq]
 simp only at h1 h2 h3 h4 h5 h6 h7 h8 h9 hg
 refine⟨by omega,by omega,by omega,by omega,by omega⟩
theorem bigB_snoc (n:Nat)(c:UInt8): ∀k,bigB (n*256+c.toNat) (k+1)=bigB n k++ [c]
 | 0=>by
  have hc:=c.toNat_lt
  show [UInt8.ofNat ((n*256+c.toNat)/2 ^ (8*0))] = [c]
  congr 1
  apply UInt8.toNat_inj.1
  rw [UInt8.toNat_ofNat']
  omega
 | k+1=>by
  have hc:=c.toNat_lt
  have ih:=bigB_snoc n c k
  rw [bigB,ih]
  rw [show bigB n (k+1)=UInt8.ofNat (n/2 ^ (8*k))::bigB n k from rfl,cAp]
  congr 2
  have e:(2:Nat) ^ (8*(k+1))=256*2 ^ (8*k):=by rw [show 8*(k+1)=8*k+8 by omega,Nat.pow_add,Nat.mul_comm]
  rw [e, ←Nat.div_div_eq_div_mul]
  congr 1
  omega
theorem big_num (l:List UInt8):bigB (numB l) l.length=l:=by
 have: ∀r:List UInt8,bigB (numB r.reverse) r.length=r.reverse:=by
  intro r
  induction r with
  | nil=>rfl
  | cons c r ih=>rw [List.reverse_cons,numB_snoc,lCn,bigB_snoc,ih]
 have h:=this l.reverse
 rwa [List.reverse_reverse,List.length_reverse] at h
theorem cut15 {l:List UInt8}(h:l.length=15):l=l.take 8++(l.drop 8).take 2++ [l.getD 10 0] ++(l.drop 11).take 2++(l.drop 13).take 2:=by
 match l,h with
 | [a,b,c,d,e,f,g,i,j,k,m,n,o,p,q],_=>rfl
theorem put_gotS {l:List UInt8}(h:l.length=15):putS (gotS l)=l:=by
 have b1:=big_num (l.take 8)
 have b2:=big_num ((l.drop 8).take 2)
 have b3:=big_num ((l.drop 11).take 2)
 have b4:=big_num ((l.drop 13).take 2)
 rw [show (l.take 8).length=8 by rw [lTk];omega] at b1
 rw [show ((l.drop 8).take 2).length=2 by rw [lTk,lDp];omega] at b2
 rw [show ((l.drop 11).take 2).length=2 by rw [lTk,lDp];omega] at b3
 rw [show ((l.drop 13).take 2).length=2 by rw [lTk,lDp];omega] at b4
 unfold putS gotS
 simp only [Int.toNat_natCast,UInt8.ofNat_toNat]
 rw [b1,b2,b3,b4]
 exact(cut15 h).symm
theorem get_putS {s:SP}(h:okS s=true)(hg:s.gen<18446744073709551616):getS (putS s)=(s,0):=by
 rw [getS,if_neg (by rw [putS_length];simp),got_putS h hg,if_pos h]
theorem getS_ok {l:List UInt8}(h:(getS l).2=0):okS (getS l).1=true∧putS (getS l).1=l∧(getS l).1.gen<18446744073709551616:=by
 unfold getS at h ⊢
 split at h
 ·cases h
 ·rename_i h1
  split at h
  ·rename_i h2
   rw [if_neg h1,if_pos h2]
   refine⟨h2,put_gotS (by omega), ?_⟩
   have:=numB_lt (l.take 8)
   rw [show (l.take 8).length=8 by rw [lTk];omega] at this
   exact this
  ·cases h
theorem getS_bad {l:List UInt8}(h:(getS l).2≠0):getS l=(zeroS,3):=by
 unfold getS at h ⊢
 split
 ·rfl
 ·rename_i h1
  split
  ·rename_i h2
   rw [if_neg h1,if_pos h2] at h
   exact absurd rfl h
  ·rfl
end Go.Gv
namespace Go.Proofs.YtcglabmlhljkmaaGreat
open Go Go.RowKit Go.Gv
def rdS (S:DS)(at_:Nat):SP×Bool×Nat:=
 if(rdPg S (at_:Int) 83).2=3 then(zeroS,false,0)
 else if(rdPg S (at_:Int) 83).2≠0 then(zeroS,false,(rdPg S (at_:Int) 83).2)
 else((getS (rdPg S (at_:Int) 83).1.b).1,decide ((getS (rdPg S (at_:Int) 83).1.b).2=0) && (decide ((getS (rdPg S (at_:Int) 83).1.b).1.gen=(rdPg S (at_:Int) 83).1.g) && (decide ((getS (rdPg S (at_:Int) 83).1.b).1.gen%2=at_) && decide ((getS (rdPg S (at_:Int) 83).1.b).1.pages=((S.A.length/256:Nat):Int)))),0)
def nwTo (S:DS):Nat→SP×Nat
 | 0=>(zeroS,0)
 | k+1=>if(nwTo S k).2≠0 then nwTo S k else if(rdS S k).2.2≠0 then(zeroS,(rdS S k).2.2) else if(rdS S k).2.1=true∧(nwTo S k).1.gen<(rdS S k).1.gen then((rdS S k).1,0) else nwTo S k
def nwS (S:DS):SP×Nat:=if(nwTo S 2).2≠0 then nwTo S 2 else if(nwTo S 2).1.gen=0 then(zeroS,3) else nwTo S 2
def pgS (s:SP):PG:=⟨83,((s.gen%2:Nat):Int),s.gen,putS s⟩
theorem pgS_ok (s:SP):okP (pgS s)=true:=by
 have h1:knownK (pgS s).k=true:=(by decide:knownK 83=true)
 have h2:(0:Int)≤(pgS s).a:=by show (0:Int)≤((s.gen%2:Nat):Int);omega
 have h3:(pgS s).a<512:=by show ((s.gen%2:Nat):Int)<512;omega
 have h4:(pgS s).b.length≤238:=by show (putS s).length≤238;rw [putS_length];omega
 rw [okP,h1,dTt h2,dTt h3,dTt h4];rfl
theorem pgS_len (s:SP):(putP (pgS s)).length=256:=putP_length _ (okP_spec (pgS_ok s)).2.2.2
def wrS (S:DS)(s:SP):DS×Nat:=if okS s=true then wrPg S (pgS s) else(S,1)
theorem wrS_on {S:DS}(h:S.on)(hA:512≤S.A.length){s:SP}(hs:okS s=true):
  (wrS S s).2=0∧(wrS S s).1.on∧(wrS S s).1.V=putAt S.V (s.gen%2*256) (putP (pgS s))∧(wrS S s).1.A=S.A∧(wrS S s).1.W.length≤S.W.length+4:=by
 have hm:s.gen%2*256+256≤S.A.length:=by omega
 have:=DS.wrs_page h (s.gen%2) (putP (pgS s)) (pgS_len s) hm
 rw [wrS,if_pos hs,wrPg,if_pos (pgS_ok s)]
 exact this
theorem rdS_pg {S:DS}(h:S.on)(hA:512≤S.A.length){s:SP}(hs:okS s=true)(hg:s.gen<18446744073709551616){a:Nat}(ha:a=s.gen%2)(hp:pgAt S.V a=putP (pgS s)):
  rdS S a=(s,decide (s.pages=((S.A.length/256:Nat):Int)),0):=by
 have hm:a*256+256≤S.A.length:=by omega
 have hget:=get_put (pgS s) (pgS_ok s) hg
 have hr:rdPg S (a:Int) 83=(pgS s,0):=by
  rw [rdPg_on h a hm,hp,hget,if_pos ⟨rfl,by rw [ha];rfl,rfl⟩]
 have hgs:getS (pgS s).b=(s,0):=get_putS hs hg
 rw [rdS,hr,if_neg (by simp),if_neg (by simp),hgs]
 have e1:s.gen=(pgS s).g:=rfl
 have e2:s.gen%2=a:=ha.symm
 simp [e2, ←e1]
theorem rdS_none {S:DS}(h:S.on){a:Nat}(hm:a*256+256≤S.A.length)(hp:(getP (pgAt S.V a)).2≠0):rdS S a=(zeroS,false,0):=by
 have hr:rdPg S (a:Int) 83=(zeroP,3):=by
  rw [rdPg_on h a hm,if_neg (fun q=>hp q.1)]
 rw [rdS,hr,if_pos rfl]
theorem nwS_two {S:DS}{s0 s1:SP}{b0 b1:Bool}(h0:rdS S 0=(s0,b0,0))(h1:rdS S 1=(s1,b1,0)):
  nwS S=(let q:=if b0=true∧0<s0.gen then s0 else zeroS
         let r:=if b1=true∧q.gen<s1.gen then s1 else q
         if r.gen=0 then(zeroS,3) else(r,0)):=by
 have e0:nwTo S 1=(if b0=true∧0<s0.gen then s0 else zeroS,0):=by
  show (if(nwTo S 0).2≠0 then nwTo S 0 else if(rdS S 0).2.2≠0 then(zeroS,(rdS S 0).2.2) else if(rdS S 0).2.1=true∧(nwTo S 0).1.gen<(rdS S 0).1.gen then((rdS S 0).1,0) else nwTo S 0)=_
  rw [h0]
  show (if(0:Nat)≠0 then nwTo S 0 else if(0:Nat)≠0 then(zeroS,0) else if b0=true∧0<s0.gen then(s0,0) else(zeroS,0))=_
  rw [if_neg (by simp),if_neg (by simp)]
  split<;>rfl
 have e1:nwTo S 2=(let q:=if b0=true∧0<s0.gen then s0 else zeroS
                   if b1=true∧q.gen<s1.gen then s1 else q,0):=by
  show (if(nwTo S 1).2≠0 then nwTo S 1 else if(rdS S 1).2.2≠0 then(zeroS,(rdS S 1).2.2) else if(rdS S 1).2.1=true∧(nwTo S 1).1.gen<(rdS S 1).1.gen then((rdS S 1).1,0) else nwTo S 1)=_
  rw [h1,e0]
  simp only [ne_eq,not_true_eq_false,if_false]
  (repeat' split)<;>rfl
 rw [nwS,e1]
 simp only [ne_eq,not_true_eq_false,if_false]
theorem okS_gen {s:SP}(h:okS s=true):s.gen≠0:=(okS_spec h).1
def Old1 (S:DS)(n:Nat)(P:Int)(a:Nat):Prop:=
 (getP (pgAt S.V a)).2≠0∨ ∃s:SP,okS s=true∧s.gen<18446744073709551616∧a=s.gen%2∧s.gen<n∧s.pages=P∧pgAt S.V a=putP (pgS s)
def InvS (S:DS)(n:Nat)(P:Int):Prop:= ∀a,a<2→Old1 S n P a
theorem getP_nought:getP (List.replicate 256 0)=(zeroP,3):=by
 have hl:lenP (List.replicate 256 0)=0:=by decide
 have hk:(gotP (List.replicate 256 0) 0).k=0:=by decide
 rw [getP,if_neg (by rw [List.length_replicate];simp),hl,if_neg (by simp),if_neg (fun h=>?_)]
 have:=(okP_spec h.1).1
 rw [hk] at this
 exact absurd this (by decide)
theorem pgAt_fresh (k a:Nat)(h:a<k):pgAt (DS.new k).V a=List.replicate 256 0:=by
 show ((List.replicate (k*256) (0:UInt8)).drop (a*256)).take 256=_
 rw [List.drop_replicate,List.take_replicate,Nat.min_eq_left (by omega)]
theorem inv_step {S:DS}(h:S.on)(hA:512≤S.A.length){s:SP}{P:Int}(hs:okS s=true)(hg:s.gen<18446744073709551616)(hP:s.pages=P)(hI:InvS S s.gen P):
  InvS (wrS S s).1 (s.gen+1) P∧pgAt (wrS S s).1.V (s.gen%2)=putP (pgS s):=by
 obtain⟨_,_,hV,_,_⟩:=wrS_on h hA hs
 have hl:S.V.length=S.A.length:=DS.V_length h.1
 have e:pgAt (wrS S s).1.V (s.gen%2)=putP (pgS s):=by rw [hV];exact pgAt_same _ _ _ (by omega) (pgS_len s)
 refine⟨fun a ha=>?_,e⟩
 by_cases hq:a=s.gen%2
 ·exact .inr ⟨s,hs,hg,hq,by omega,hP,by rw [hq];exact e⟩
 ·have e2:pgAt (wrS S s).1.V a=pgAt S.V a:=by rw [hV];exact pgAt_other _ _ _ _ (by omega) (pgS_len s) hq
  rcases hI a ha with hb | ⟨t,h1,h2,h3,h4,h5,h6⟩
  ·exact .inl (by rw [e2];exact hb)
  ·exact .inr ⟨t,h1,h2,h3,by omega,h5,by rw [e2];exact h6⟩
theorem nw_of {S:DS}{s q:SP}{a:Nat}{b:Bool}(ha:a<2)(h0:rdS S a=(s,true,0))(h1:rdS S (1-a)=(q,b,0))(hg:0<s.gen)(hq:b=true→q.gen<s.gen):nwS S=(s,0):=by
 match a,ha with
 | 0,_=>
  rw [nwS_two h0 h1]
  have hn: ¬(b=true∧s.gen<q.gen):=fun c=>by have:=hq c.1;omega
  have hz: ¬s.gen=0:=by omega
  simp only [true_and,if_pos hg,if_neg hn,if_neg hz]
 | 1,_=>
  rw [nwS_two h1 h0]
  have hz: ¬s.gen=0:=by omega
  by_cases hb:b=true∧0<q.gen
  ·have:=hq hb.1
   simp only [true_and,if_pos hb,if_pos this,if_neg hz]
  ·have hz2:zeroS.gen<s.gen:=hg
   simp only [true_and,if_neg hb,if_pos hz2,if_neg hz]
theorem old_rd {S:DS}(h:S.on)(hA:512≤S.A.length){n:Nat}{P:Int}{a:Nat}(ha:a<2)(hO:Old1 S n P a):
  ∃q b,rdS S a=(q,b,0)∧(b=true→q.gen<n∧q.gen%2=a∧P=((S.A.length/256:Nat):Int)):=by
 rcases hO with hb | ⟨t,h1,h2,h3,h4,h5,h6⟩
 ·exact⟨_,_,rdS_none h (by omega) hb,fun q=>by cases q⟩
 ·exact⟨_,_,rdS_pg h hA h1 h2 h3 h6,fun q=>⟨h4,h3.symm,by rw [←h5];exact of_decide_eq_true q⟩⟩
theorem inv_newest {S:DS}(h:S.on)(hA:512≤S.A.length){s:SP}{P:Int}(hs:okS s=true)(hg:s.gen<18446744073709551616)(hP:s.pages=((S.A.length/256:Nat):Int))(hI:InvS S (s.gen+1) P)(hp:pgAt S.V (s.gen%2)=putP (pgS s)):nwS S=(s,0):=by
 have h0:=rdS_pg h hA hs hg rfl hp
 rw [dTt hP] at h0
 obtain⟨q,b,h1,h2⟩:=old_rd h hA (a:=1-s.gen%2) (by omega) (hI _ (by omega))
 have:=okS_gen hs
 exact nw_of (by omega) h0 h1 (by omega) (fun hb=>by have:=h2 hb;omega)
end Go.Proofs.YtcglabmlhljkmaaGreat
namespace Go.Gv
def orBit (l:List UInt8)(i:Nat):List UInt8:=l.set (2+i/8) (l.getD (2+i/8) 0 ||| (1<<<UInt8.ofNat (i%8)))
def headB (p:Nat):List UInt8:= [UInt8.ofNat (p/256),UInt8.ofNat p] ++List.replicate ((p+7)/8) 0
def putTo (m:BM):Nat→List UInt8
 | 0=>headB m.p.toNat
 | i+1=>if useAt m.u i then orBit (putTo m i) i else putTo m i
def putM (m:BM):List UInt8:=if rightM m then putTo m 512 else []
theorem headB_length (p:Nat):(headB p).length=2+(p+7)/8:=by simp [headB];omega
theorem putTo_length (m:BM): ∀i,(putTo m i).length=2+(m.p.toNat+7)/8
 | 0=>headB_length _
 | i+1=>by
  rw [putTo];split
  ·rw [orBit,List.length_set,putTo_length m i]
  ·exact putTo_length m i
theorem used_lt {m:BM}(h:rightM m=true){i:Nat}(hi:i<512)(hu:useAt m.u i=true):(i:Int)<m.p:=by
 have hr:=rightM_spec h
 have hf:=hr.2.2 i hi
 unfold fitAt at hf
 rw [hu] at hf
 by_cases hp:m.p≤(i:Int)
 ·rw [dTt hp] at hf;simp at hf
 ·omega
end Go.Gv
namespace Go.Gv
open Go
def bit8 (x:UInt8)(j:Nat):Bool:=decide (Go.bits .and .u8 ((x.toNat:Int)/2 ^ min (((j:Nat):Int)).toNat IntKind.u8.bits) 1=1)
def pagesOf (l:List UInt8):Nat:=(l.getD 0 0).toNat*256+(l.getD 1 0).toNat
def gotAt (l:List UInt8)(i:Nat):Bool:=if decide (i<pagesOf l) && decide (2+i/8<l.length) then bit8 (l.getD (2+i/8) 0) (i%8) else false
def gotTo (l:List UInt8)(k:Nat):List Bool:=(List.range k).map (gotAt l)++List.replicate (512-k) false
def gotM (l:List UInt8):BM:=⟨pagesOf l,gotTo l 512⟩
def getM (l:List UInt8):BM×Nat:=if l.length<2 then(zeroM,3) else if rightM (gotM l)=true∧putM (gotM l)=l then(gotM l,0) else(zeroM,3)
theorem gotTo_length (l:List UInt8)(k:Nat)(h:k≤512):(gotTo l k).length=512:=by simp [gotTo];omega
theorem gotTo_set (l:List UInt8)(k:Nat)(h:k<512):(gotTo l k).set k (gotAt l k)=gotTo l (k+1):=by
 unfold gotTo
 have e:512-k=(512-(k+1))+1:=by omega
 rw [List.set_append_right _ _ (by simp),e,List.replicate_succ,List.range_succ]
 simp
theorem gotTo_skip (l:List UInt8)(k:Nat)(h:k<512)(hf:gotAt l k=false):gotTo l k=gotTo l (k+1):=by
 rw [←gotTo_set l k h,hf]
 unfold gotTo
 have e:512-k=(512-(k+1))+1:=by omega
 rw [List.set_append_right _ _ (by simp),e,List.replicate_succ]
 simp
theorem or_pages (x y:UInt8):Go.bits .or .i64 (IntKind.i64.wrap ((x.toNat:Int)*2 ^ min (Int.toNat 8) IntKind.i64.bits)) (y.toNat:Int)=((x.toNat*256+y.toNat:Nat):Int):=by
 have hx:=x.toNat_lt
 have hy:=y.toNat_lt
 have e1:IntKind.i64.wrap ((x.toNat:Int)*2 ^ min (Int.toNat 8) IntKind.i64.bits)=((x.toNat*256:Nat):Int):=by
  rw [show (2:Int) ^ min (Int.toNat 8) IntKind.i64.bits=256 from rfl]
  rw [IntWalk.i64_in _ (by omega)];omega
 rw [e1]
 have e2:((BitVec.ofInt 64 ((x.toNat*256:Nat):Int) ||| BitVec.ofInt 64 ((y.toNat:Nat):Int)).toNat)=x.toNat*256+y.toNat:=by
  rw [ofInt_nat,ofInt_nat,BitVec.toNat_or,BitVec.toNat_ofNat,BitVec.toNat_ofNat,Nat.mod_eq_of_lt (by omega),Nat.mod_eq_of_lt (by omega)]
  have:=Nat.shiftLeft_add_eq_or_of_lt (i:=8) (b:=y.toNat) hy x.toNat
  rw [Nat.shiftLeft_eq] at this
  exact this.symm
 show IntKind.i64.wrap (((BitVec.ofInt 64 ((x.toNat*256:Nat):Int) ||| BitVec.ofInt 64 ((y.toNat:Nat):Int)).toNat:Nat):Int)=_
 rw [e2,IntWalk.i64_in _ (by omega)]
theorem bytes_eq (a b:List UInt8):decide ((⟨a.toArray⟩:ByteArray)=⟨b.toArray⟩)=decide (a=b):=by
 apply decide_eq_decide.2
 constructor
 ·intro h
  have h1:a.toArray=b.toArray:=by injection h
  simpa using h1
 ·intro h;rw [h]
end Go.Gv
namespace Go.Gv
theorem bit8_all: ∀n:Fin 256, ∀j:Fin 8,bit8 (UInt8.ofNat n.1) j.1=(UInt8.ofNat n.1).toBitVec.getLsbD j.1:=by decide+kernel
theorem bit8_eq (x:UInt8)(j:Nat)(hj:j<8):bit8 x j=x.toBitVec.getLsbD j:=by
 have:=bit8_all ⟨x.toNat,x.toNat_lt⟩ ⟨j,hj⟩
 simpa using this
theorem orBit_get (l:List UInt8)(i q:Nat)(hi:2+i/8<l.length):((orBit l i).getD (2+q/8) 0).toBitVec.getLsbD (q%8)=((l.getD (2+q/8) 0).toBitVec.getLsbD (q%8) || decide (q=i)):=by
 unfold orBit
 rw [gDe,List.getElem?_set]
 by_cases h:i/8=q/8
 ·rw [if_pos (by omega),if_pos (by omega),Option.getD_some,UInt8.toBitVec_or,BitVec.getLsbD_or,one_shl _ _ (by omega),h]
  congr 1
  apply decide_eq_decide.2
  omega
 ·rw [if_neg (by omega), ←gDe,dFf (show ¬q=i by intro e;exact h (by rw [e])),Bool.or_false]
theorem putTo_get {m:BM}(hr:rightM m=true)(q:Nat): ∀k,k≤512→((putTo m k).getD (2+q/8) 0).toBitVec.getLsbD (q%8)=(decide (q<k) && useAt m.u q)
 | 0,_=>by
  have e:(headB m.p.toNat).getD (2+q/8) 0=0:=by
   rw [headB,gDe,List.getElem?_append_right (by simp),List.getElem?_replicate]
   split<;>rfl
  rw [putTo,e,dFf (by omega),Bool.false_and]
  simp
 | k+1,hk=>by
  have ih:=putTo_get hr q k (by omega)
  rw [putTo]
  by_cases e:q=k
  ·subst e
   rw [dFf (by omega),Bool.false_and] at ih
   rw [dTt (by omega),Bool.true_and]
   cases hu:useAt m.u q with
   | true=>
    have:=used_lt hr (by omega) hu
    rw [if_pos rfl,orBit_get _ _ _ (by rw [putTo_length];omega),ih];simp
   | false=>rw [if_neg (by simp),ih]
  ·have d:decide (q<k+1)=decide (q<k):=decide_eq_decide.2 (by omega)
   rw [d, ←ih]
   cases hu:useAt m.u k with
   | true=>
    have:=used_lt hr (by omega) hu
    rw [if_pos rfl,orBit_get _ _ _ (by rw [putTo_length];omega),dFf e,Bool.or_false]
   | false=>rw [if_neg (by simp)]
theorem putTo_head (m:BM)(j:Nat)(hj:j<2): ∀k,(putTo m k).getD j 0=(headB m.p.toNat).getD j 0
 | 0=>rfl
 | k+1=>by
  rw [putTo];split
  ·rw [orBit,gDe,List.getElem?_set,if_neg (by omega), ←gDe]
   exact putTo_head m j hj k
  ·exact putTo_head m j hj k
theorem got_back {m:BM}(hm:m.u.length=512)(hr:rightM m=true):getM (putM m)=(m,0):=by
 have hs:=rightM_spec hr
 have hpm:putM m=putTo m 512:=by rw [putM,if_pos hr]
 have hl:(putM m).length=2+(m.p.toNat+7)/8:=by rw [hpm,putTo_length]
 have hp:pagesOf (putM m)=m.p.toNat:=by
  rw [pagesOf,hpm,putTo_head m 0 (by omega),putTo_head m 1 (by omega)]
  show (UInt8.ofNat (m.p.toNat/256)).toNat*256+(UInt8.ofNat m.p.toNat).toNat=_
  simp;omega
 have hg:gotM (putM m)=m:=by
  have hu:gotTo (putM m) 512=m.u:=by
   apply List.ext_getElem?
   intro i
   by_cases hi:i<512
   ·rw [gotTo,Nat.sub_self,List.replicate_zero,List.append_nil,List.getElem?_map,List.getElem?_range hi,Option.map_some]
    have e1:m.u[i]? =some (useAt m.u i):=by simp [useAt,hm,hi]
    rw [e1]
    congr 1
    rw [gotAt,hp]
    by_cases h1:i<m.p.toNat
    ·rw [dTt h1,dTt (by omega),Bool.and_self,if_pos rfl,bit8_eq _ _ (by omega),hpm,putTo_get hr i 512 (Nat.le_refl _),dTt hi,Bool.true_and]
    ·rw [dFf h1,Bool.false_and,if_neg (by simp)]
     cases hq:useAt m.u i
     ·rfl
     ·have:=used_lt hr hi hq;omega
   ·rw [List.getElem?_eq_none (by rw [gotTo_length _ _ (Nat.le_refl _)];omega),List.getElem?_eq_none (by omega)]
  rw [gotM,hu,hp,show ((m.p.toNat:Nat):Int)=m.p by omega]
 rw [getM,if_neg (by omega),if_pos (by rw [hg];exact⟨hr,rfl⟩),hg]
end Go.Gv
namespace Go.Proofs.YtcglabmlhljkmaaGreat
open Go Go.RowKit Go.Gv
theorem keep_cells (A b:List UInt8)(i k n:Nat)(hb:b.length=64)(hk:k<8):(B8 A).take (i*64+k*8*1)++(((B8 b).drop (k*8*1)).take ((b.length-k*8)*1)).take 8++(B8 A).drop (i*64+k*8*1+8)=B8 (putAt A (i*64+k*8) ((b.drop (k*8)).take 8)):=by
 have e:(((B8 b).drop (k*8*1)).take ((b.length-k*8)*1)).take 8=B8 ((b.drop (k*8)).take 8):=by
  rw [List.take_take,show min 8 ((b.length-k*8)*1)=8 by omega,B8,B8,Nat.mul_one,List.map_take,List.map_drop]
 rw [e,Nat.mul_one,putAt_B8 _ _ _ 8 (by rw [lTk,lDp];omega)]
theorem disk_keep (p a:Nat)(vw:Value)(A:List UInt8)(off:Bool)(till:Int)(i:Nat)(v:Value)(b:List UInt8)(f:Bool×UInt8)(l:List (Value×Nat×List Value))(hv:v.oneCell'=true)(hm:(v,b.length,B8 b)∈l)(hA:A.length≤1000000)(hi:i*64+64≤A.length)(hb:b.length=64):
  Gv.Spec Tryz.prog 97 #[.pointer (some ⟨p,0,none⟩), .agg [.int .i64 (i:Int),v].toArray, .agg [.bool f.1, .int .u8 (f.2.toNat:Int)].toArray] [blk p 153 [.slice (some ⟨a,0,none⟩) A.length A.length,vw, .bool off, .int .i64 till],blk a 5 (B8 A),manyRd l]
  (fun r H'=>H'= [blk p 153 [.slice (some ⟨a,0,none⟩) A.length A.length,vw, .bool off, .int .i64 till],blk a 5 (B8 (keepM A i b f)),manyRd l]):=by
 refine Gv.Spec.of (fun w h0 hw=>?_)
 refine Calls.enter Tryz.func97 rfl rfl rfl hw ?_
 simp only [argSlots]
 refine Wap ?_
 refine Ws ?_
 (refine Wbx ?_;intro b4)
 refine Ws ?_
 (refine Wbx ?_;intro b5)
 refine Ws ?_
 refine Zd (disk_sector p a A.length i vw off till hA hi) ?_
 refine Ws ?_
 (refine Wl (α:={ k:Nat//k≤8∧(f.1=false→k=0) }) (fun x=>8-x.1) (fun x=> [(0, .pointer (some ⟨p,0,none⟩)),(4, .pointer (some ⟨b4,0,none⟩)),(5, .pointer (some ⟨b5,0,none⟩)),(6, .slice (some ⟨a,i*64,none⟩) 64 (A.length-i*64)),(7, .int .i64 ((x.1*8:Nat):Int))]) (fun x=> [blk p 153 [.slice (some ⟨a,0,none⟩) A.length A.length,vw, .bool off, .int .i64 till],blk a 5 (B8 (keepTo A i b f.2 x.1)),manyRd l,blk b4 186 [.int .i64 (i:Int),v],blk b5 189 [.bool f.1, .int .u8 (f.2.toNat:Int)],Ex h0]) ⟨0,Nat.zero_le _,fun _=>rfl⟩ ?_;rintro ⟨k,hk,hf⟩ mx hmx;(try dsimp only at hmx ⊢))
 have hkl:(keepTo A i b f.2 k).length=A.length:=keepTo_length hi hb k hk
 refine Ws ?_
 (refine ZcB 14 ?_ ?_<;>intro hc)
 ·have hc':=of_decide_eq_true hc
  have hk8:k<8:=by omega
  refine Ws ?_
  (refine Wcb ?_ ?_<;>intro hkp)
  ·refine Ws ?_
   have e23:((k*8:Nat):Int)/8=(k:Int):=by omega
   (refine Wcb ?_ ?_<;>intro hbit)
   ·rw [e23] at hbit
    have e1:keepTo A i b f.2 (k+1)=putAt (keepTo A i b f.2 k) (i*64+k*8) ((b.drop (k*8)).take 8):=by
     rw [keepTo,if_pos];exact hbit
    refine Ws ?_
    refine Wm [blk b4 186 [.int .i64 (i:Int),v],manyRd l] ?_
    refine Wq [0,1,2,3] ?_
    refine Zm 4 (h:=fun _ _ qK=>by exact ZosliceB (lo:=k*8) (hi:=k*8+8) qK) (k:=?_)
    refine Wq [5,6,7] ?_
    refine Zm 8 (h:=fun _ _ qK=>by exact Zsl (lo:=k*8) (hi:=b.length) qK (hr:=by exact rdw_many Wp hm)) (k:=?_)
    refine ZA 9 ?_
    refine ZocopyB (q:=8) ?_ (hr:=by exact fun w' hw'=>(rdw_many Wp hm w' hw').subv (size:=1) (lo:=k*8) (hi:=b.length) (by omega) (Nat.le_refl _)) (hl:=by rw [lTk,lDp,B8_length];omega) (hq:=by omega) (hfit:=by rw [B8_length,hkl];omega) (h1:=by intro y hy;exact B8_one b y (List.mem_of_mem_drop (List.mem_of_mem_take hy)))
    refine Zw ?_
    refine ZE ?_
    refine Zat (blk a _ _) (blk a 5 (B8 (keepTo A i b f.2 (k+1)))) ?_ (e:=by rw [keep_cells _ b i k 8 hb hk8,e1])
    refine Ws ?_
    refine Zi 7 (((k+1)*8:Nat):Int) ?_ (hi:=by omega)
    exact Zag ⟨k+1,by omega,fun h=>by rw [hkp] at h;cases h⟩
   ·rw [e23] at hbit
    have e1:keepTo A i b f.2 (k+1)=keepTo A i b f.2 k:=by
     rw [keepTo,if_neg];rw [show keepTo.bit8' f.2 k=false from hbit];simp
    refine Zat (blk a _ _) (blk a 5 (B8 (keepTo A i b f.2 (k+1)))) ?_ (e:=by rw [e1])
    refine Ws ?_
    refine Zi 7 (((k+1)*8:Nat):Int) ?_ (hi:=by omega)
    exact Zag ⟨k+1,by omega,fun h=>by rw [hkp] at h;cases h⟩
  ·obtain rfl:=hf hkp
   refine Zat (blk a _ _) (blk a 5 (B8 (keepM A i b f))) ?_ (e:=by rw [keepM,hkp];rfl)
   refine Ws ?_
   refine Zfn [blk p 153 [.slice (some ⟨a,0,none⟩) A.length A.length,vw, .bool off, .int .i64 till],blk a 5 (B8 (keepM A i b f)),manyRd l] (hq:=?_)
   rfl
 ·have hc':=of_decide_eq_false hc
  have hke:k=8:=by omega
  subst hke
  have hft:f.1=true:=by
   cases h:f.1
   ·have:=hf h;omega
   ·rfl
  refine Zat (blk a _ _) (blk a 5 (B8 (keepM A i b f))) ?_ (e:=by rw [keepM,hft];rfl)
  refine Ws ?_
  refine Zfn [blk p 153 [.slice (some ⟨a,0,none⟩) A.length A.length,vw, .bool off, .int .i64 till],blk a 5 (B8 (keepM A i b f)),manyRd l] (hq:=?_)
  rfl
theorem crash_step (A:List UInt8)(W:List WW)(F:List (Bool×UInt8))(k:Nat)(hk:k<W.length)(hF:k<F.length):crashTo A W F (k+1)=keepM (crashTo A W F k) (W[k]'hk).i (W[k]'hk).b (F[k]'hF):=by
 rw [crashTo,gEe hk,gEe hF]
theorem crash_skip (A:List UInt8)(W:List WW)(F:List (Bool×UInt8))(k:Nat)(hF:F.length≤k):crashTo A W F (k+1)=crashTo A W F k:=by
 rw [crashTo,List.getElem?_eq_none (l:=F) hF]
 cases W[k]? <;>rfl
theorem disk_Crash (p a:Nat)(vw:Value)(A:List UInt8)(W:List WW)(off:Bool)(till:Int)(vf:Value)(Ft:List (Bool×UInt8))(h1:PH)(hr:Rd h1 vf Ft.length (FL Ft))(hA:A.length≤1000000)(hW:WOk A.length W)(hWl:W.length≤1000000):
  Gv.Spec Tryz.prog 44 #[.pointer (some ⟨p,0,none⟩),vf] [blk p 153 [.slice (some ⟨a,0,none⟩) (A).length (A).length,vw, .bool off, .int .i64 till],blk a 5 (B8 (A)),own 186 2 vw (W).length (WL (W)),manyRd (WT (W)),Ex h1]
  (fun r H'=>H'= [blk p 153 [.slice (some ⟨a,0,none⟩) (crashM A W Ft).length (crashM A W Ft).length,(.slice none 0 0), .bool false, .int .i64 (-1)],blk a 5 (B8 (crashM A W Ft)),own 186 2 (.slice none 0 0) (([] :List WW)).length (WL (([] :List WW))),manyRd (WT (([] :List WW))),Ex h1]):=by
 refine Gv.Spec.of (fun w h0 hw=>?_)
 refine Calls.enter Tryz.func44 rfl rfl rfl hw ?_
 simp only [argSlots]
 refine Wap ?_
 refine Ws ?_
 refine Zz 7 false ?_
 refine Ws ?_
 (refine Wl (α:={ k:Nat//k≤W.length }) (fun x=>W.length-x.1) (fun x=> [(0, .pointer (some ⟨p,0,none⟩)),(1,vf),(11,vw),(12, .int .i64 (W.length:Int)),(13, .int .i64 (x.1:Int))]) (fun x=> [blk p 153 [.slice (some ⟨a,0,none⟩) A.length A.length,vw, .bool off, .int .i64 till],blk a 5 (B8 (crashTo A W Ft x.1)),own 186 2 vw W.length (WL W),manyRd (WT W),Ex h1,Ex h0]) ⟨0,Nat.zero_le _⟩ ?_;rintro ⟨k,hk⟩ mx hmx;(try dsimp only at hmx ⊢))
 have hcl:(crashTo A W Ft k).length=A.length:=crashTo_length hW k
 refine Ws ?_
 (refine Wcd ?_ ?_<;>intro hc)
 ·have hj:k<W.length:=by omega
  obtain⟨q1,q2⟩:=hW.get hj
  refine Ws ?_
  refine Zix (j:=k) ?_ (hj:=by rfl) (hlt:=by exact hj)
  refine Ws ?_
  refine Zlq ?_ (hv:=by exact WL_two W k hj) (hl:=by rfl)
  refine Ws ?_
  refine Zal fun b5=>?_
  refine Ws ?_
  (refine Tri.know (A:=manyRd (WT W)) Wp (fun h hm=>many_one hm hj) (fun hone=>?_))
  refine ZSa ?_ (h1:=by intro y hy;simp at hy;rcases hy with rfl | rfl;rfl;exact hone)
  refine Ws ?_
  refine Zlr2 (hr:=hr) ?_
  refine Ws ?_
  (refine Wcd ?_ ?_<;>intro hf)
  ·have hjf:k<Ft.length:=by omega
   refine Ws ?_
   refine Wm [blk b5 186 [.int .i64 ((W[k]'hj).i:Int),(W[k]'hj).v],Ex h1] ?_
   refine Wq [0] ?_
   refine Zm 1 (h:=fun _ _ qK=>by exact Zla qK (hl:=by rfl)) (k:=?_)
   refine Wq [2,3] ?_
   refine Zm 4 (h:=fun _ _ qK=>by exact Zir (hr:=hr) (j:=k) qK (hj:=by rfl) (hlt:=by exact hjf) (hl:=by rw [FL_length];omega)) (k:=?_)
   refine Zm 5 (h:=fun _ _ qK=>by exact Zlh (hr:=hr) qK (hv:=by exact FL_two Ft k hjf) (hl:=by rfl)) (k:=?_)
   refine ZA 6 ?_
   refine Zat (blk p _ _) (blk p 153 [.slice (some ⟨a,0,none⟩) (crashTo A W Ft k).length (crashTo A W Ft k).length,vw, .bool off, .int .i64 till]) ?_ (e:=by rw [hcl])
   refine Zcs (disk_keep p a vw (crashTo A W Ft k) off till (W[k]'hj).i (W[k]'hj).v (W[k]'hj).b (Ft[k]'hjf) (WT W) hone (WT_mem W k hj) (by omega) (by omega) q2) ?_
   rintro r3 H3 rfl
   refine Wap ?_
   refine Zw ?_
   refine ZE ?_
   refine Zat (blk p _ _) (blk p 153 [.slice (some ⟨a,0,none⟩) A.length A.length,vw, .bool off, .int .i64 till]) ?_ (e:=by rw [hcl])
   refine Zat (blk a _ _) (blk a 5 (B8 (crashTo A W Ft (k+1)))) ?_ (e:=by rw [crash_step A W Ft k hj hjf])
   refine Ws ?_
   exact Zag ⟨k+1,by omega⟩
  ·refine Zat (blk a _ _) (blk a 5 (B8 (crashTo A W Ft (k+1)))) ?_ (e:=by rw [crash_skip A W Ft k (by omega)])
   refine Ws ?_
   exact Zag ⟨k+1,by omega⟩
 ·have hke:k=W.length:=by omega
  refine Ws ?_
  refine ZS ?_ (hi:=by show 1<4;omega)
  refine Ws ?_
  refine ZS ?_ (hi:=by show 2<4;omega)
  refine Ws ?_
  refine ZS ?_ (hi:=by show 3<4;omega)
  refine Zat (blk a _ _) (blk a 5 (B8 (crashM A W Ft))) ?_ (e:=by rw [hke];rfl)
  refine Zat (blk p _ _) (blk p 153 [.slice (some ⟨a,0,none⟩) (crashM A W Ft).length (crashM A W Ft).length, .slice none 0 0, .bool false, .int .i64 (-1)]) ?_ (e:=by rw [crashM,crashTo_length hW];rfl)
  refine Ws ?_
  (with_reducible apply Tri.ownNil 186 2)
  refine Zat (own 186 2 (.slice none 0 0) 0 []) (own 186 2 (.slice none 0 0) ([] :List WW).length (WL ([] :List WW))) ?_
  (refine Tri.pure_ (A:=manyRd (WT [])) manyRd_nil ?_)
  refine Zfn [blk p 153 [.slice (some ⟨a,0,none⟩) (crashM A W Ft).length (crashM A W Ft).length,(.slice none 0 0), .bool false, .int .i64 (-1)],blk a 5 (B8 (crashM A W Ft)),own 186 2 (.slice none 0 0) (([] :List WW)).length (WL (([] :List WW))),manyRd (WT (([] :List WW))),Ex h1] (hq:=?_)
  rfl
def DS.fl (S:DS):DS×Nat:=if S.off=true then(S,2) else if S.till=0 then({ S with off:=true,till:= -1 },2) else(⟨S.V, [],false,stopT S.till⟩,0)
theorem disk_FlushD (p:Nat)(S:DS)(hS:S.ok)(hl:S.W.length≤1000000):
  Gv.Spec Tryz.prog 77 #[.pointer (some ⟨p,0,none⟩)] [DSK p S] (fun r H'=>r= .int .i64 (S.fl.2:Int)∧H'= [DSK p S.fl.1]):=fun w0 w H hw=>by
 obtain⟨a,vw,W,hW,h1⟩:=dsk_open hw
 have hWl:=WP2_len hW
 refine(disk_Flush p a vw S.A W S.off S.till hS.1 (WP2_ok hS hW) (by omega) hS.2.1 w0 w H h1).mono ?_
 intro e w' he
 cases e with
 | returned v=>
  obtain⟨H',hR,h2⟩:=he
  refine⟨[DSK p S.fl.1],⟨?_,rfl⟩, ?_⟩
  ·rcases hR with ⟨ho,hr,rfl⟩ | ⟨ho,ht,hr,rfl⟩ | ⟨ho,ht,hr,rfl⟩
   ·rw [hr,DS.fl,if_pos ho];rfl
   ·rw [hr,DS.fl,if_neg (by rw [ho];simp),if_pos ht];rfl
   ·rw [hr,DS.fl,if_neg (by rw [ho];simp),if_neg ht];rfl
  ·rcases hR with ⟨ho,hr,rfl⟩ | ⟨ho,ht,hr,rfl⟩ | ⟨ho,ht,hr,rfl⟩
   ·rw [DS.fl,if_pos ho];exact dsk_close hW h2
   ·rw [DS.fl,if_neg (by rw [ho];simp),if_pos ht];exact dsk_close (S:={ S with off:=true,till:= -1 }) hW h2
   ·rw [DS.fl,if_neg (by rw [ho];simp),if_neg ht]
    refine dsk_close (a:=a) (vw:= .slice none 0 0) (S:=⟨S.V, [],false,stopT S.till⟩) (W:= []) rfl ?_
    have e:S.V=flushM S.A W:=by rw [←flW_WP,hW];rfl
    rw [e];exact h2
 | panicked c=>exact he.elim
 | outgrown=>exact he.elim
theorem disk_PagesD (p:Nat)(S:DS)(hS:S.ok):Gv.Spec Tryz.prog 74 #[.pointer (some ⟨p,0,none⟩)] [DSK p S] (fun r H'=>r= .int .i64 ((S.A.length/256:Nat):Int)∧H'= [DSK p S]):=fun w0 w H hw=>by
 obtain⟨a,vw,W,hW,h1⟩:=dsk_open hw
 refine(disk_Pages p a S.A.length vw S.off S.till hS.1 w0 w _ h1).mono ?_
 intro e w' he
 cases e with
 | returned v=>
  obtain⟨H',⟨hr,rfl⟩,h2⟩:=he
  exact⟨_,⟨hr,rfl⟩,dsk_close hW h2⟩
 | panicked c=>exact he.elim
 | outgrown=>exact he.elim
def DS.of (l:List UInt8):DS:=⟨l, [],false, -1⟩
def DS.cr (S:DS)(F:List (Bool×UInt8)):DS:=⟨crashM S.A (S.W.map fun x=>⟨x.1,undef,x.2⟩) F, [],false, -1⟩
theorem crash_same (A:List UInt8)(W:List WW)(F:List (Bool×UInt8)): ∀k,crashTo A W F k=crashTo A ((WP2 W).map fun x=>⟨x.1,undef,x.2⟩) F k
 | 0=>rfl
 | k+1=>by
  have ih:=crash_same A W F k
  have e:((WP2 W).map fun x=>(⟨x.1,undef,x.2⟩:WW))[k]? =(W[k]?).map fun x=>⟨x.i,undef,x.b⟩:=by
   rw [WP2,List.map_map,List.getElem?_map];rfl
  rw [crashTo,crashTo,e,ih]
  cases W[k]? <;>cases F[k]? <;>rfl
theorem crashM_same (A:List UInt8)(W:List WW)(F:List (Bool×UInt8)):crashM A W F=crashM A ((WP2 W).map fun x=>⟨x.1,undef,x.2⟩) F:=by
 unfold crashM
 rw [List.length_map,show (WP2 W).length=W.length by simp [WP2]]
 exact crash_same A W F _
theorem disk_CrashD (p:Nat)(S:DS)(vf:Value)(Ft:List (Bool×UInt8))(h1:PH)(hr:Rd h1 vf Ft.length (FL Ft))(hS:S.ok)(hl:S.W.length≤1000000):
  Gv.Spec Tryz.prog 44 #[.pointer (some ⟨p,0,none⟩),vf] [DSK p S,Ex h1] (fun r H'=>H'= [DSK p (S.cr Ft),Ex h1]):=fun w0 w H hw=>by
 obtain⟨a,vw,W,hW,h2⟩:=dsk_open hw
 have hWl:=WP2_len hW
 refine(disk_Crash p a vw S.A W S.off S.till vf Ft h1 hr hS.1 (WP2_ok hS hW) (by omega) w0 w H h2).mono ?_
 intro e w' he
 cases e with
 | returned v=>
  obtain⟨H',rfl,h3⟩:=he
  refine⟨_,rfl,dsk_close (a:=a) (vw:= .slice none 0 0) (S:=S.cr Ft) (W:= []) rfl ?_⟩
  have e:(S.cr Ft).A=crashM S.A W Ft:=by rw [crashM_same S.A W Ft,hW];rfl
  show St w0 w' ([blk p 153 [.slice (some ⟨a,0,none⟩) ((S.cr Ft).A).length ((S.cr Ft).A).length,(.slice none 0 0), .bool false, .int .i64 (-1)],blk a 5 (B8 ((S.cr Ft).A)),own 186 2 (.slice none 0 0) (([] :List WW)).length (WL (([] :List WW))),manyRd (WT (([] :List WW)))] ++_)
  rw [e]
  exact h3
 | panicked c=>exact he.elim
 | outgrown=>exact he.elim
def mpP (a:Int)(g:Nat)(m:BM):PG:=⟨66,a,g,putM m⟩
theorem mpP_ok {a k:Nat}{g:Nat}{m:BM}{U:List Nat}(i:Inv k m U)(h:8≤k∧k≤512)(ha:a<512):okP (mpP (a:Int) g m)=true:=by
 have h1:knownK (mpP (a:Int) g m).k=true:=(by decide:knownK 66=true)
 have h2:(0:Int)≤(mpP (a:Int) g m).a:=by show (0:Int)≤(a:Int);omega
 have h3:(mpP (a:Int) g m).a<512:=by show (a:Int)<512;omega
 have h4:(mpP (a:Int) g m).b.length≤238:=by
  show (putM m).length≤238
  have hr:=i.right h
  have hs:=rightM_spec hr
  rw [putM,if_pos hr,putTo_length]
  omega
 rw [okP,h1,dTt h2,dTt h3,dTt h4];rfl
structure CM (k:Nat)(S:DS)(s:SP)(m:BM)(U:List Nat):Prop where
 k8:8≤k∧k≤512
 on:S.on
 len:S.A.length=k*256
 W:S.W.length≤5000∧ ∀x∈S.W,2≤x.1/4∧x.1/4∉U
 sok:okS s=true
 pages:s.pages=(k:Int)
 gen:s.gen<1000000000
 sup:pgAt S.V (s.gen%2)=putP (pgS s)
 old:InvS S (s.gen+1) (k:Int)
 mok:Inv k m U
 bit: ∃b:Nat,s.bitmap=(b:Int)∧b∈U∧pgAt S.V b=putP (mpP (b:Int) s.gen m)
theorem CM.big {k:Nat}{S:DS}{s:SP}{m:BM}{U:List Nat}(c:CM k S s m U):512≤S.A.length:=by
 have h1:=c.len
 have h2:=c.k8
 omega
theorem CM.div {k:Nat}{S:DS}{s:SP}{m:BM}{U:List Nat}(c:CM k S s m U):S.A.length/256=k:=by rw [c.len,Nat.mul_div_cancel _ (by decide:0<256)]
theorem CM.newest {k:Nat}{S:DS}{s:SP}{m:BM}{U:List Nat}(c:CM k S s m U):nwS S=(s,0):=
 inv_newest c.on c.big c.sok (by have:=c.gen;omega) (by rw [c.div];exact c.pages) c.old c.sup
theorem CM.map {k:Nat}{S:DS}{s:SP}{m:BM}{U:List Nat}(c:CM k S s m U):rdPg S s.bitmap 66=(mpP s.bitmap s.gen m,0):=by
 obtain⟨b,hb,hU,hp⟩:=c.bit
 have hr:=c.mok.rng b hU
 have hk:=c.k8
 have hg:=c.gen
 rw [hb,rdPg_on c.on b (by rw [c.len];exact fitk hr.2),hp,get_put _ (mpP_ok c.mok c.k8 (by omega)) (by show s.gen<_;omega),if_pos ⟨rfl,rfl,rfl⟩]
theorem CM.view {k:Nat}{S:DS}{s:SP}{m:BM}{U:List Nat}(c:CM k S s m U)(g:Nat)(hg:g<18446744073709551616):VG k U U ⟨S,g,m,m⟩:=
 ⟨c.k8,c.on,c.len,hg,c.mok,c.mok,c.W.2⟩
theorem fl_on {S:DS}(h:S.on):S.fl.2=0∧S.fl.1.on∧S.fl.1.V=S.V∧S.fl.1.A=S.V∧S.fl.1.W= [] :=by
 obtain⟨h1,h2,h3⟩:=h
 have e:S.fl=(⟨S.V, [],false,stopT S.till⟩,0):=by
  rw [DS.fl,if_neg (by rw [h2];simp),if_neg (by rw [h3];decide)]
 rw [e]
 refine⟨rfl,⟨⟨by show S.V.length≤_;rw [DS.V_length h1];exact h1.1,by show -1≤stopT S.till∧stopT S.till≤9223372036854775807;rw [h3];decide,fun x hx=>by cases hx⟩,rfl,by show stopT S.till= -1;rw [h3];rfl⟩,rfl,rfl,rfl⟩
theorem wrPg_on {S:DS}(h:S.on){q:PG}{a:Nat}(hq:okP q=true)(ha:q.a=(a:Int))(hf:a*256+256≤S.A.length):
  (wrPg S q).2=0∧(wrPg S q).1.on∧(wrPg S q).1.V=putAt S.V (a*256) (putP q)∧(wrPg S q).1.A=S.A∧(wrPg S q).1.W.length≤S.W.length+4:=by
 have hpl:(putP q).length=256:=putP_length q (okP_spec hq).2.2.2
 rw [wrPg,if_pos hq,ha]
 exact DS.wrs_page h a (putP q) hpl hf
theorem inv_same {S S':DS}{n:Nat}{P:Int}(h:InvS S n P)(hs: ∀a,a<2→pgAt S'.V a=pgAt S.V a):InvS S' n P:=fun a ha=>by
 rcases h a ha with c | ⟨s,c1,c2,c3,c4,c5,c6⟩
 ·exact .inl (by rw [hs a ha];exact c)
 ·exact .inr ⟨s,c1,c2,c3,c4,c5,by rw [hs a ha];exact c6⟩
def cmS (S:DS)(s:SP)(m:BM):DS:=(wrS (wrPg S (mpP s.bitmap s.gen m)).1.fl.1 s).1.fl.1
theorem cm_step {k:Nat}{S0 S:DS}{s0 s:SP}{m0 m:BM}{U0 U:List Nat}{b:Nat}(c:CM k S0 s0 m0 U0)(hon:S.on)(hA:S.A=S0.A)(hs: ∀a,a<2→pgAt S.V a=pgAt S0.V a)
  (ok:okS s=true) (hg:s.gen=s0.gen+1) (hgb:s.gen<1000000000) (hpg:s.pages=(k:Int)) (hb:s.bitmap=(b:Int)) (hi:Inv k m U) (hbU:b∈U):
  (wrPg S (mpP s.bitmap s.gen m)).2=0∧(wrPg S (mpP s.bitmap s.gen m)).1.fl.2=0∧(wrS (wrPg S (mpP s.bitmap s.gen m)).1.fl.1 s).2=0∧(wrS (wrPg S (mpP s.bitmap s.gen m)).1.fl.1 s).1.fl.2=0∧
  CM k (cmS S s m) s m U∧ ∀p,2≤p→p<k→p≠b→pgAt (cmS S s m).V p=pgAt S.V p:=by
 have hr:=hi.rng b hbU
 have hk:=c.k8
 have hSl:S.A.length=k*256:=by rw [hA,c.len]
 have hok:=mpP_ok (g:=s.gen) (a:=b) hi c.k8 (by omega)
 obtain⟨a1,a2,a3,a4,a5⟩:=wrPg_on hon (q:=mpP s.bitmap s.gen m) (a:=b) (by rw [hb];exact hok) hb (by rw [hSl];exact fitk hr.2)
 have hpl:(putP (mpP s.bitmap s.gen m)).length=256:=putP_length _ (okP_spec (by rw [hb];exact hok)).2.2.2
 obtain⟨S1,h1⟩: ∃S1,S1=(wrPg S (mpP s.bitmap s.gen m)).1:=⟨_,rfl⟩
 rw [cmS, ←h1]
 rw [←h1] at a2 a3 a4 a5
 obtain⟨b1,b2,b3,b4,b5⟩:=fl_on a2
 obtain⟨S2,h2⟩: ∃S2,S2=S1.fl.1:=⟨_,rfl⟩
 rw [←h2]
 rw [←h2] at b2 b3 b4 b5
 have hVl:S.V.length=k*256:=by rw [DS.V_length hon.1,hSl]
 have hS1A:S1.A.length=k*256:=by rw [a4,hSl]
 have hS2A:S2.A.length=k*256:=by rw [b4,DS.V_length a2.1,hS1A]
 have hbig:512≤S2.A.length:=by omega
 have hV2:S2.V.length=k*256:=by rw [DS.V_length b2.1,hS2A]
 have hb2:=hr.1
 have hinv2:InvS S2 s.gen (k:Int):=by
  rw [hg]
  refine inv_same c.old (fun a ha=>?_)
  rw [b3,a3,pgAt_other _ _ _ _ (by rw [hVl];exact fitk hr.2) hpl (by omega),hs a ha]
 obtain⟨d1,d2,d3,d4,d5⟩:=wrS_on b2 hbig ok
 obtain⟨e1,e2⟩:=inv_step b2 hbig ok (by omega) hpg hinv2
 obtain⟨S3,h3⟩: ∃S3,S3=(wrS S2 s).1:=⟨_,rfl⟩
 rw [←h3]
 rw [←h3] at d2 d3 d4 d5 e1 e2
 obtain⟨f1,f2,f3,f4,f5⟩:=fl_on d2
 have hpS: ∀p,2≤p→pgAt S3.V p=pgAt S2.V p:=fun p hp=>by
  rw [d3]
  exact pgAt_other _ _ _ _ (by rw [hV2];omega) (pgS_len s) (by omega)
 refine⟨a1,b1,d1,f1,⟨c.k8,f2, ?_,⟨by rw [f5];exact Nat.zero_le _,fun x hx=>by rw [f5] at hx;cases hx⟩,ok,hpg,hgb, ?_, ?_,hi,⟨b,hb,hbU, ?_⟩⟩,fun p h2p hpk hpb=>?_⟩
 ·rw [f4,DS.V_length d2.1,d4,hS2A]
 ·rw [f3];exact e2
 ·exact inv_same e1 (fun a _=>by rw [f3])
 ·rw [f3,hpS b hb2,b3,a3,pgAt_same _ _ _ (by rw [hVl];exact fitk hr.2) hpl,hb]
 ·rw [f3,hpS p h2p,b3,a3,pgAt_other _ _ _ _ (by rw [hVl];exact fitk hr.2) hpl hpb]
def entT (x:ENT)(a:Int)(text:List UInt8):ENT:=⟨x.key,x.fin,a,(text.length:Int),x.count,x.codec,(crcSum text).toNat⟩
theorem chkE_T (E:List ENT)(x:ENT)(a:Int)(text:List UInt8):chkE E (entT x a text)=chkE E x:=rfl
def putV (v:VS)(m2:BM)(t:Nat)(text:List UInt8):VS:=⟨(v.S.wrs ((t:Int)*4) (secs (padB text) ((padB text).length/64))).1,v.gen,m2,v.old⟩
def spN (s:SP)(a:Int)(h:Nat)(t:Nat):SP:=⟨s.gen+1,if h=0 then 0 else a,(h:Int),(t:Int),s.pages⟩
structure CmG (v:VS)(s:SP)(m m1 m2:BM)(a:Int)(h t:Nat):Prop where
 hv:v.ok
 hl:v.S.W.length≤700000
 hm:m.u.length=512
 hm1:m1.u.length=512
 hm2:m2.u.length=512
 hg:s.gen+1<18446744073709551616
 gv:giveM v.m s.bitmap 1=(m1,0)
 tk:takeM m1 m 1=(m2,(t:Int),0)
 e1:(wrPg v.S (mpP (t:Int) (s.gen+1) m2)).2=0
 e2:(wrPg v.S (mpP (t:Int) (s.gen+1) m2)).1.fl.2=0
 o2:(wrPg v.S (mpP (t:Int) (s.gen+1) m2)).1.fl.1.ok
 l2:(wrPg v.S (mpP (t:Int) (s.gen+1) m2)).1.fl.1.W.length≤700000
 e3:(wrS (wrPg v.S (mpP (t:Int) (s.gen+1) m2)).1.fl.1 (spN s a h t)).2=0
 o3:(wrS (wrPg v.S (mpP (t:Int) (s.gen+1) m2)).1.fl.1 (spN s a h t)).1.ok
 l3:(wrS (wrPg v.S (mpP (t:Int) (s.gen+1) m2)).1.fl.1 (spN s a h t)).1.W.length≤800000
 e4:(wrS (wrPg v.S (mpP (t:Int) (s.gen+1) m2)).1.fl.1 (spN s a h t)).1.fl.2=0
 o4:(⟨cmS v.S (spN s a h t) m2,s.gen+1,m2,m2⟩:VS).ok
 rm:rightM m2=true
 pm:m2.p=(((cmS v.S (spN s a h t) m2).A.length/256:Nat):Int)
def rwS (S:DS)(t:Int)(b:List UInt8):DS×Nat:=S.wrs (t*4) (secs (padB b) ((padB b).length/64))
theorem raw_on {S:DS}(h:S.on){t n:Nat}{b:List UInt8}(hb:(padB b).length=n*256)(hf:t*256+n*256≤S.A.length):
  (rwS S (t:Int) b).2=0∧(rwS S (t:Int) b).1.on∧(rwS S (t:Int) b).1.V=putAt S.V (t*256) (padB b)∧(rwS S (t:Int) b).1.A=S.A∧(rwS S (t:Int) b).1.W.length≤S.W.length+n*4∧
  ∀x∈(rwS S (t:Int) b).1.W,x∈S.W∨(t≤x.1/4∧x.1/4<t+n):=by
 have e:(t:Int)*4=((t*4:Nat):Int):=by omega
 obtain⟨k,hk⟩: ∃k,k=(padB b).length/64:=⟨_,rfl⟩
 have hk4:k=n*4:=by rw [hk,hb];omega
 have hk64:k*64=(padB b).length:=by rw [hk4,hb,Nat.mul_assoc]
 have hfit:t*4*64+k*64≤S.A.length:=by
  rw [hk64,hb,Nat.mul_assoc];exact hf
 have h1:=DS.wrs_V h.1 (t*4) (padB b) h.2.1 h.2.2 k hfit (Nat.le_of_eq hk64)
 have h2:=DS.wrs_len (secs (padB b) k) S ((t*4:Nat):Int)
 have h3:=wrs_W (secs (padB b) k) S (t*4)
 rw [secs_length] at h2 h3
 rw [rwS, ←hk,e]
 refine⟨h1.1,⟨DS.wrs_ok _ _ h.1,h1.2.1,h1.2.2.1⟩, ?_,h2.2,by omega,fun x hx=>?_⟩
 ·rw [h1.2.2.2,hk64,List.take_of_length_le (Nat.le_refl _),Nat.mul_assoc]
 ·rcases h3 x hx with c | ⟨c1,c2⟩
  ·exact .inl c
  ·exact .inr ⟨by omega,by omega⟩
def z256:List UInt8:=List.replicate 256 0
theorem z256_pad:padB z256=z256:=by
 have h:padN z256.length=0:=by rw [z256,List.length_replicate];decide
 rw [padB,h,List.replicate_zero,List.append_nil]
theorem z256_len:z256.length=256:=List.length_replicate
def fm1 (k:Nat):BM:=(takeM (newM (k:Int)) (newM (k:Int)) 1).1
def spF (k:Nat):SP:=⟨1,0,0,2,(k:Int)⟩
def fmA (k:Nat):DS×Nat:=wrPg (DS.new k) (mpP 2 1 (fm1 k))
def fmB (k:Nat):DS×Nat:=(fmA k).1.fl
def fmC (k:Nat):DS×Nat:=wrS (fmB k).1 (spF k)
def fmD (k:Nat):DS×Nat:=rwS (fmC k).1 0 z256
def fmS (k:Nat):DS:=(fmD k).1.fl.1
theorem spF_ok {k:Nat}(h:8≤k∧k≤512):okS (spF k)=true:=by
 have h1:decide ((8:Int)≤(k:Int))=true:=dTt (by omega)
 have h2:decide ((k:Int)≤512)=true:=dTt (by omega)
 have h3:decide ((2:Int)<(k:Int))=true:=dTt (by omega)
 show (decide ((1:Nat)≠0) && (decide ((8:Int)≤(k:Int)) && (decide ((k:Int)≤512) && ((decide ((2:Int)≤2) && decide ((2:Int)<(k:Int))) && (if(0:Int)=0 then decide ((0:Int)=0) else _)))))=true
 rw [h1,h2,h3,if_pos rfl];rfl
structure FmG (k:Nat):Prop where
 tk:takeM (newM (k:Int)) (newM (k:Int)) 1=(fm1 k,2,0)
 len:(fm1 k).u.length=512
 rm:rightM (fm1 k)=true
 e1:(fmA k).2=0
 o1:(fmA k).1.ok
 l1:(fmA k).1.W.length≤100
 e2:(fmB k).2=0
 o2:(fmB k).1.ok
 l2:(fmB k).1.W.length≤100
 e3:(fmC k).2=0
 o3:(fmC k).1.ok
 l3:(fmC k).1.W.length≤100
 e4:(fmD k).2=0
 o4:(fmD k).1.ok
 l4:(fmD k).1.W.length≤100
 e5:(fmD k).1.fl.2=0
 cm:CM k (fmS k) (spF k) (fm1 k) [2]
theorem fm_spec {k:Nat}(h:8≤k∧k≤512):FmG k:=by
 have i0:=Inv.new k h
 obtain⟨t1,i1⟩:=i0.take h 2 (by omega) (by rw [useAt_new];rfl) (fun p h1 h2=>by omega)
 have t2:takeM (newM (k:Int)) (newM (k:Int)) 1=(fm1 k,2,0):=by rw [fm1,t1];rfl
 have hm:fm1 k=⟨(newM (k:Int)).p,(newM (k:Int)).u.set 2 true⟩:=by rw [fm1,t1]
 rw [←hm] at i1
 have i1:Inv k (fm1 k) [2] :=i1
 have hrm:=i1.right h
 have hon:=DS.new_on k h.2
 have hA:=DS.new_len k
 have hok:=mpP_ok (g:=1) (a:=2) i1 h (by decide)
 obtain⟨a1,a2,a3,a4,a5⟩:=wrPg_on hon (q:=mpP 2 1 (fm1 k)) (a:=2) hok rfl (by rw [hA];exact fitk (by omega))
 have hpl:(putP (mpP 2 1 (fm1 k))).length=256:=putP_length _ (okP_spec hok).2.2.2
 have hVl:(DS.new k).V.length=k*256:=by rw [DS.V_length hon.1,hA]
 have eA:fmA k=wrPg (DS.new k) (mpP 2 1 (fm1 k)):=rfl
 rw [←eA] at a1 a2 a3 a4 a5
 have hW0:(DS.new k).W.length=0:=rfl
 obtain⟨b1,b2,b3,b4,b5⟩:=fl_on a2
 have eB:fmB k=(fmA k).1.fl:=rfl
 rw [←eB] at b1 b2 b3 b4 b5
 have hBA:(fmB k).1.A.length=k*256:=by rw [b4,DS.V_length a2.1,a4,hA]
 have hBV:(fmB k).1.V.length=k*256:=by rw [DS.V_length b2.1,hBA]
 have hbig:512≤(fmB k).1.A.length:=by omega
 have hfresh: ∀a,a<2→pgAt (fmB k).1.V a=List.replicate 256 0:=fun a ha=>by
  rw [b3,a3,pgAt_other _ _ _ _ (by rw [hVl];exact fitk (by omega)) hpl (by omega),pgAt_fresh k a (by omega)]
 have hinv:InvS (fmB k).1 (spF k).gen (k:Int):=fun a ha=> .inl (by rw [hfresh a ha,getP_nought];simp)
 have sok:=spF_ok h
 obtain⟨c1,c2,c3,c4,c5⟩:=wrS_on b2 hbig sok
 obtain⟨d1,d2⟩:=inv_step b2 hbig sok (by show 1<_;decide) (P:=(k:Int)) rfl hinv
 have eC:fmC k=wrS (fmB k).1 (spF k):=rfl
 rw [←eC] at c1 c2 c3 c4 c5 d1 d2
 have hCA:(fmC k).1.A.length=k*256:=by rw [c4,hBA]
 have hCV:(fmC k).1.V.length=k*256:=by rw [DS.V_length c2.1,hCA]
 have hz:(padB z256).length=1*256:=by rw [z256_pad,z256_len]
 obtain⟨f1,f2,f3,f4,f5,_⟩:=raw_on c2 (t:=0) hz (by rw [hCA];omega)
 have eD:fmD k=rwS (fmC k).1 ((0:Nat):Int) z256:=rfl
 rw [←eD] at f1 f2 f3 f4 f5
 obtain⟨g1,g2,g3,g4,g5⟩:=fl_on f2
 have hpS: ∀p,1≤p→pgAt (fmD k).1.V p=pgAt (fmC k).1.V p:=fun p hp=>by
  rw [f3]
  exact pgAt_put _ 0 1 p _ hz (by rw [hCV];omega) (.inr hp)
 have hp0:pgAt (fmD k).1.V 0=List.replicate 256 0:=by
  have:=textAt_put (fmC k).1.V 0 1 (padB z256) hz (by rw [hCV];omega)
  rw [←f3] at this
  rw [z256_pad] at this
  exact this
 have eS:fmS k=(fmD k).1.fl.1:=rfl
 rw [←eS] at g2 g3 g4 g5
 have hl5:(fmB k).1.W.length=0:=by rw [b5];rfl
 refine⟨t2,i1.len,hrm,a1,a2.1,by omega,b1,b2.1,by omega,c1,c2.1,by omega,f1,f2.1,by omega,g1,⟨h,g2, ?_,⟨by rw [g5];exact Nat.zero_le _,fun x hx=>by rw [g5] at hx;cases hx⟩,sok,rfl,by show 1<_;decide, ?_, ?_,i1,⟨2,rfl,List.mem_singleton.2 rfl, ?_⟩⟩⟩
 ·rw [g4,DS.V_length f2.1,f4,hCA]
 ·show pgAt (fmS k).V 1=_
  rw [g3,hpS 1 (by decide)]
  exact d2
 ·intro a ha
  by_cases h0:a=0
  ·left
   rw [h0,g3,hp0,getP_nought];simp
  ·have h1:a=1:=by omega
   have:=d1 a ha
   rcases this with q | ⟨s,q1,q2,q3,q4,q5,q6⟩
   ·exact .inl (by rw [g3,hpS a (by omega)];exact q)
   ·exact .inr ⟨s,q1,q2,q3,q4,q5,by rw [g3,hpS a (by omega)];exact q6⟩
 ·show pgAt (fmS k).V 2=putP (mpP 2 1 (fm1 k))
  have hs2:pgAt (fmC k).1.V 2=pgAt (fmB k).1.V 2:=by
   rw [c3]
   exact pgAt_other _ _ _ _ (by rw [hBV];show (spF k).gen%2*256+256≤_;have:(spF k).gen%2<2:=Nat.mod_lt _ (by decide);omega) (pgS_len _) (by have:(spF k).gen%2<2:=Nat.mod_lt _ (by decide);omega)
  rw [g3,hpS 2 (by decide),hs2,b3,a3,pgAt_same _ _ _ (by rw [hVl];exact fitk (by omega)) hpl]
def txE (S:DS)(x:ENT):List UInt8:=(S.V.drop (x.addr.toNat*256)).take x.len.toNat
structure TxE (S:DS)(x:ENT):Prop where
 ok:entOk x=true
 fit:x.addr+pagesE x.len≤((S.A.length/256:Nat):Int)
 crc:(crcSum (txE S x)).toNat=x.crc
theorem ent_bounds {x:ENT}(ok:entOk x=true):(2≤x.addr∧x.addr≤511)∧(1≤x.len∧x.len≤65535)∧x.addr+pagesE x.len≤512:=by
 simp only [entOk,Bool.and_eq_true,betw,decide_eq_true_eq] at ok
 exact⟨ok.1.1.1.1.2,ok.1.1.1.2,ok.1.1.2⟩
theorem TxE.bounds {S:DS}{x:ENT}(h:TxE S x):(2≤x.addr∧x.addr≤511)∧(1≤x.len∧x.len≤65535):=⟨(ent_bounds h.ok).1,(ent_bounds h.ok).2.1⟩
theorem TxE.rd {S:DS}{x:ENT}(h:TxE S x)(ho:S.off=false)(hA:S.A.length%256=0):rdE S (x.addr*4) ((x.len.toNat+63)/64)=0:=by
 obtain⟨h1,h2⟩:=h.bounds
 have hf:=h.fit
 rw [pagesE] at hf
 obtain⟨a,ha⟩: ∃a:Nat,x.addr=(a:Int):=⟨x.addr.toNat,by omega⟩
 obtain⟨n,hn⟩: ∃n:Nat,x.len=(n:Int):=⟨x.len.toNat,by omega⟩
 have e:x.addr*4=((a*4:Nat):Int):=by omega
 rw [e,hn]
 show rdE S _ ((n+63)/64)=0
 refine rdE_of ho _ ?_
 have h3:(n+63)/64≤4*((n+255)/256):=by omega
 have h4:a+(n+255)/256≤S.A.length/256:=by omega
 omega
def nE (x:ENT):Nat:=(pagesE x.len).toNat
def txP (x:ENT):List Nat:=runL x.addr.toNat (nE x)
def txs (E:List ENT):List Nat:=E.flatMap txP
theorem padN_mul (n:Nat):n+padN n=(n+255)/256*256:=by
 unfold padN;omega
theorem padB_len (b:List UInt8):(padB b).length=(b.length+255)/256*256:=by rw [padB_length,padN_mul]
theorem txE_at (S:DS)(x:ENT)(h:x.len.toNat≤nE x*256):txE S x=(textAt S.V x.addr.toNat (nE x)).take x.len.toNat:=by
 rw [txE,textAt,List.take_take,Nat.min_eq_left h]
theorem nE_ge {x:ENT}(h:0≤x.len):x.len.toNat≤nE x*256:=by
 rw [nE,pagesE];omega
theorem TxE.same {S S':DS}{x:ENT}(h:TxE S x)(hl:S'.A.length=S.A.length)(hp: ∀p∈txP x,pgAt S'.V p=pgAt S.V p):TxE S' x∧txE S' x=txE S x:=by
 have hb:=h.bounds
 have e:txE S' x=txE S x:=by
  rw [txE_at S' x (nE_ge (by omega)),txE_at S x (nE_ge (by omega)),textAt_same _ hp]
 exact⟨⟨h.ok,by rw [hl];exact h.fit,by rw [e];exact h.crc⟩,e⟩
theorem rdN_pg {S S':DS}(h:S.on)(h':S'.on)(hl:S'.A.length=S.A.length){p:Nat}(hp:p*256+256≤S.A.length)(e:pgAt S'.V p=pgAt S.V p)(lf:Bool):rdN S' (p:Int) lf=rdN S (p:Int) lf:=by
 have e2:rdPg S' (p:Int) (kindN lf)=rdPg S (p:Int) (kindN lf):=by
  rw [rdPg_on h' p (by rw [hl];exact hp),rdPg_on h p hp,e]
 rw [rdN,rdN,e2]
theorem same_pg {S S':DS}{k:Nat}{P:List Nat}(h:S.on)(h':S'.on)(hk:S.A.length=k*256)(hk':S'.A.length=k*256)(h8:8≤k)(hP: ∀p∈P,p<k)(e: ∀p,(p∈P∨p<2)→pgAt S'.V p=pgAt S.V p):same S S' P:=fun p hp=>by
 have hpk:p<k:=hp.elim (hP p) (fun c=>by omega)
 exact⟨e p hp,fun lf=>rdN_pg h h' (by rw [hk,hk']) (by rw [hk];exact fitk hpk) (e p hp) lf⟩
theorem TI.perm {k:Nat}{mu:Nat→Nat}{O R R':List Nat}{v:VS}{a:Int}{h:Nat}{E:List ENT}(ti:TI k mu O R v a h E)(p:R.Perm R'):TI k mu O R' v a h E:=
 ⟨ti.vg.perm (List.Perm.append_left _ p),ti.g,ti.ents,ti.ord,ti.h5⟩
theorem TI.moved {k:Nat}{mu:Nat→Nat}{O R R':List Nat}{v v':VS}{a:Int}{h:Nat}{E:List ENT}(ti:TI k mu O R v a h E)(hv:VG k (pgN v.S h a++R') O v')(sm:same v.S v'.S (pgN v.S h a)):TI k mu O R' v' a h E:=by
 rcases ti.g with h0 | g
 ·subst h0
  exact⟨hv, .inl rfl,ti.ents,ti.ord,ti.h5⟩
 ·obtain⟨g1,g2,g3⟩:=tk_same h (rmin h) a g sm
  exact⟨by rw [g3];exact hv, .inr g1,by rw [g2];exact ti.ents,ti.ord,ti.h5⟩
theorem padB_take' (b:List UInt8):(padB b).take b.length=b:=by unfold padB;rw [List.take_left]
structure TxtR (k:Nat)(mu:Nat→Nat)(O R:List Nat)(v:VS)(a:Int)(h:Nat)(E:List ENT)(text:List UInt8)(n t:Nat)(m2:BM):Prop where
 tk:takeM v.m v.old (n:Int)=(m2,(t:Int),0)
 fit:2≤t∧t+n≤k
 len:m2.u.length=512
 rm:rightM m2=true
 p:m2.p=v.m.p
 w:(rwS v.S (t:Int) text).2=0
 ti:TI k mu O (runL t n++R) (putV v m2 t text) a h E
 sm:same v.S (putV v m2 t text).S (pgN v.S h a++(R++O))
 txt:textAt (putV v m2 t text).S.V t n=padB text
 W:(putV v m2 t text).S.W.length≤v.S.W.length+n*4
 A:(putV v m2 t text).S.A=v.S.A
 new: ∀p∈runL t n,p∉pgN v.S h a++R∧p∉O
theorem ti_text {k:Nat}{mu:Nat→Nat}{O R:List Nat}{v:VS}{a:Int}{h:Nat}{E:List ENT}(ti:TI k mu O R v a h E){n:Nat}{text:List UInt8}(hn:(padB text).length=n*256)(hn1:1≤n):
  (∃t m2,TxtR k mu O R v a h E text n t m2)∨((takeM v.m v.old (n:Int)).2.2=5∧ ∀t,t+n≤k→ ¬runF v.m v.old t n):=by
 have hv:=ti.vg
 have hk:=hv.k8
 rcases take_run hv.m hv.o hk hn1 with ⟨t,m2,e,hf,hnew,hi⟩ | hno
 ·refine .inl ⟨t,m2, ?_⟩
  have hfit:t*256+n*256≤v.S.A.length:=by
   rw [hv.len, ←Nat.add_mul];exact Nat.mul_le_mul_right 256 hf.2
  obtain⟨r1,r2,r3,r4,r5,r6⟩:=raw_on hv.on (t:=t) hn hfit
  have eS:(putV v m2 t text).S=(rwS v.S (t:Int) text).1:=rfl
  have hVl:v.S.V.length=k*256:=by rw [DS.V_length hv.on.1,hv.len]
  have hfV:t*256+n*256≤v.S.V.length:=by rw [hVl, ←hv.len];exact hfit
  have hpg: ∀p,(p<t∨t+n≤p)→pgAt (rwS v.S (t:Int) text).1.V p=pgAt v.S.V p:=fun p hp=>by
   rw [r3];exact pgAt_put v.S.V t n p _ hn hfV hp
  have hout: ∀p,p∉runL t n→p<t∨t+n≤p:=fun p hp=>by
   by_cases c:p<t
   ·exact .inl c
   ·by_cases c2:p<t+n
    ·exact absurd (runL_mem.2 ⟨by omega,c2⟩) hp
    ·exact .inr (by omega)
  have hsm:same v.S (rwS v.S (t:Int) text).1 (pgN v.S h a++(R++O)):=by
   refine same_pg hv.on r2 hv.len (by rw [r4,hv.len]) hk.1 (fun p hp=>?_) (fun p hp=>hpg p ?_)
   ·rcases List.mem_append.1 hp with c | c
    ·exact(hv.m.rng p (mAl _ c)).2
    ·rcases List.mem_append.1 c with c | c
     ·exact(hv.m.rng p (mAr _ c)).2
     ·exact(hv.o.rng p c).2
   ·rcases hp with hp | hp
    ·refine hout p (fun c=>?_)
     obtain⟨q1,q2⟩:=hnew p c
     rcases List.mem_append.1 hp with d | d
     ·exact q1 (mAl _ d)
     ·rcases List.mem_append.1 d with d | d
      ·exact q1 (mAr _ d)
      ·exact q2 d
    ·exact .inl (by omega)
  refine⟨e,hf,hi.len,hi.right hk,by rw [hi.p,hv.m.p],r1, ?_,hsm, ?_,r5,r4,hnew⟩
  ·refine ti.moved ⟨hk,r2,by rw [eS,r4,hv.len],hv.gen,inv_perm hi ?_,hv.o,fun x hx=>?_⟩ (hsm.sub (fun p hp=>mAl _ hp))
   ·rw [←aAs, ←aAs]
    exact List.Perm.append_right _ List.perm_append_comm
   ·rcases r6 x hx with c | ⟨c1,c2⟩
    ·exact hv.w x c
    ·exact⟨by omega,(hnew _ (runL_mem.2 ⟨c1,c2⟩)).2⟩
  ·rw [eS,r3];exact textAt_put v.S.V t n _ hn hfV
 ·exact .inr hno
def bsU (S:DS)(s:SP)(b h:Nat)(E:List ENT):List Nat:=pgN S h s.addr++(b::txs E)
structure CMT (k:Nat)(mu:Nat→Nat)(S:DS)(s:SP)(m:BM)(b h:Nat)(E:List ENT):Prop where
 cm:CM k S s m (bsU S s b h E)
 bb:s.bitmap=(b:Int)
 hh:s.height=(h:Int)
 g:h=0∨tkG S k mu h (rmin h) s.addr
 ents:wkE S h s.addr=E
 ord:ordE E
 h5:h≤5
 tx: ∀x∈E,TxE S x
structure TXI (k:Nat)(mu:Nat→Nat)(S0:DS)(s:SP)(m:BM)(b h0:Nat)(E0:List ENT)(v:VS)(a:Int)(h:Nat)(E:List ENT):Prop where
 c:CMT k mu S0 s m b h0 E0
 gen:v.gen=s.gen+1
 old:v.old=m
 A:v.S.A=S0.A
 sm:same S0 v.S (bsU S0 s b h0 E0)
 ti:TI k mu (bsU S0 s b h0 E0) (b::txs E) v a h E
 tx: ∀x∈E,TxE v.S x
theorem CMT.ti {k:Nat}{mu:Nat→Nat}{S:DS}{s:SP}{m:BM}{b h:Nat}{E:List ENT}(c:CMT k mu S s m b h E)(g:Nat)(hg:g<18446744073709551616):TI k mu (bsU S s b h E) (b::txs E) ⟨S,g,m,m⟩ s.addr h E:=
 ⟨c.cm.view g hg,c.g,c.ents,c.ord,c.h5⟩
theorem CMT.begin {k:Nat}{mu:Nat→Nat}{S:DS}{s:SP}{m:BM}{b h:Nat}{E:List ENT}(c:CMT k mu S s m b h E):TXI k mu S s m b h E ⟨S,s.gen+1,m,m⟩ s.addr h E:=by
 have hg:=c.cm.gen
 exact⟨c,rfl,rfl,rfl,same.rfl,c.ti _ (by omega),c.tx⟩
theorem insE_perm (E:List ENT)(x:ENT):(insE E x).Perm (x::E):=by
 have e:E.takeWhile (fun y=> !lessK x.key y.key)++E.dropWhile (fun y=> !lessK x.key y.key)=E:=List.takeWhile_append_dropWhile
 rw [insE]
 refine List.perm_middle.trans ?_
 rw [e]
theorem txs_ins (E:List ENT)(x:ENT):(txs (insE E x)).Perm (txP x++txs E):=List.Perm.flatMap_right _ (insE_perm E x)
theorem entT_ok {x:ENT}{t:Nat}{text:List UInt8}(h:entOk (entT x 2 text)=true)(ht:2≤t)(hf:(t:Int)+pagesE (text.length:Int)≤512):entOk (entT x (t:Int) text)=true:=by
 have hb:=ent_bounds h
 have hl:(entT x 2 text).len=(text.length:Int):=rfl
 have hp:1≤pagesE (text.length:Int):=by rw [pagesE];omega
 simp only [entOk,Bool.and_eq_true,betw,decide_eq_true_eq] at h ⊢
 obtain⟨⟨⟨⟨⟨⟨h1,h2⟩,h3⟩,h4⟩,h5⟩,h6⟩,h7⟩:=h
 refine⟨⟨⟨⟨⟨⟨h1,h2⟩, ?_⟩,h4⟩, ?_⟩,h6⟩,h7⟩
 ·show (2:Int)≤(t:Int)∧(t:Int)≤511
  omega
 ·exact hf
theorem nE_T (x:ENT)(a:Int)(text:List UInt8):nE (entT x a text)=(text.length+255)/256:=by
 show (pagesE (text.length:Int)).toNat=_
 rw [pagesE];omega
structure PutR (k:Nat)(mu:Nat→Nat)(S0:DS)(s:SP)(m:BM)(b h0:Nat)(E0:List ENT)(v:VS)(a:Int)(h:Nat)(E:List ENT)(x:ENT)(text:List UInt8)(t:Nat)(m2:BM)(v2:VS)(a2:Int)(h2:Nat):Prop where
 mid:TxtR k mu (bsU S0 s b h0 E0) (b::txs E) v a h E text ((text.length+255)/256) t m2
 i:iN (putV v m2 t text) a h (entT x (t:Int) text)=(v2,(a2,h2),0)
 xi:TXI k mu S0 s m b h0 E0 v2 a2 h2 (insE E (entT x (t:Int) text))
 W:v2.S.W.length≤v.S.W.length+(text.length+255)/256*4+60
 txt:txE v2.S (entT x (t:Int) text)=text
theorem put_spec {k:Nat}{mu:Nat→Nat}{S0:DS}{s:SP}{m:BM}{b h0:Nat}{E0:List ENT}{v:VS}{a:Int}{h:Nat}{E:List ENT}{x:ENT}{text:List UInt8}(hmu: ∀h,mu (h+1)≤limN h)(X:TXI k mu S0 s m b h0 E0 v a h E)
  (hok:entOk (entT x 2 text)=true) (hR:i64R x.key.2∧i64R x.fin) (hc:chkE E x=0):
  (∃t m2 v2 a2 h2,PutR k mu S0 s m b h0 E0 v a h E x text t m2 v2 a2 h2)
  ∨((takeM v.m v.old (((text.length+255)/256:Nat):Int)).2.2=5∧ ∀t,t+(text.length+255)/256≤k→ ¬runF v.m v.old t ((text.length+255)/256))
  ∨(∃t m2,TxtR k mu (bsU S0 s b h0 E0) (b::txs E) v a h E text ((text.length+255)/256) t m2∧(iN (putV v m2 t text) a h (entT x (t:Int) text)).2.2=5∧
    (¬Fre k (pgN (putV v m2 t text).S h a++(runL t ((text.length+255)/256)++(b::txs E))) (bsU S0 s b h0 E0) (2*h+3)∨h=5)):=by
 have hbd:=(ent_bounds hok).2.1
 have hl:(entT x 2 text).len=(text.length:Int):=rfl
 rw [hl] at hbd
 obtain⟨n,hn⟩: ∃n,n=(text.length+255)/256:=⟨_,rfl⟩
 rw [←hn]
 have hn1:1≤n:=by omega
 rcases ti_text X.ti (n:=n) (text:=text) (by rw [padB_len,hn]) hn1 with ⟨t,m2,T⟩ | hno
 ·have hfit:=T.fit
  have hk:=X.ti.vg.k8
  have hpn:pagesE (text.length:Int)=(n:Int):=by rw [pagesE,hn];omega
  have hok2:=entT_ok hok hfit.1 (by rw [hpn];omega)
  obtain⟨y,hy⟩: ∃y,y=entT x (t:Int) text:=⟨_,rfl⟩
  rw [←hy] at hok2
  have hcr:(crcSum text).toNat<4294967296:=(crcSum text).toNat_lt
  have hyR:entR y:=by rw [hy];exact⟨hR.1,hR.2,hcr⟩
  have hyc:chkE E y=0:=by rw [hy,chkE_T];exact hc
  have hyP:txP y=runL t n:=by rw [txP,hy,nE_T, ←hn];rfl
  rcases i_spec hmu T.ti hok2 hyR hyc with ⟨v2,t2,H,e,ti2,hW,hsm,hH⟩ | ⟨h5,hF⟩
  ·refine .inl ⟨t,m2,v2,(t2:Int),H, ?_⟩
   have hA2:v2.S.A=v.S.A:=by
    have:=(iN_keep (putV v m2 t text) a h y).2.2
    rw [e] at this
    exact this.trans T.A
   have hg2:v2.gen=v.gen:=by
    have:=(iN_keep (putV v m2 t text) a h y).1
    rw [e] at this
    exact this
   have ho2:v2.old=v.old:=by
    have:=(iN_keep (putV v m2 t text) a h y).2.1
    rw [e] at this
    exact this
   have hall:same v.S v2.S ((b::txs E)++bsU S0 s b h0 E0):=by
    refine(T.sm.sub (fun p hp=>mAr _ hp)).trans (hsm.sub (fun p hp=>?_))
    rw [aAs]
    exact mAr _ hp
   have hnA:v.S.A.length=k*256:=X.ti.vg.len
   have htext:txE v2.S y=text:=by
    have e1:textAt v2.S.V t n=padB text:=by
     rw [←T.txt]
     refine textAt_same n (fun p hp=>((hsm p (.inl ?_)).1))
     rw [aAs]
     exact mAl _ hp
    have ea:y.addr.toNat=t:=by rw [hy];rfl
    have el:y.len.toNat=text.length:=by rw [hy];rfl
    have en:nE y=n:=by rw [hy,nE_T,hn]
    rw [txE_at v2.S y (by rw [el,en,hn];omega),ea,el,en,e1]
    exact padB_take' text
   refine⟨by rw [←hn];exact T,by rw [←hy];exact e, ?_,by have:=T.W;omega,by rw [←hy];exact htext⟩
   rw [←hy]
   refine⟨X.c,by rw [hg2,X.gen],by rw [ho2,X.old],by rw [hA2,X.A],X.sm.trans (hall.sub (fun p hp=>mAr _ hp)),ti2.perm ?_,fun z hz=>?_⟩
   ·refine List.perm_middle.trans (List.Perm.cons b ?_)
    have:=txs_ins E y
    rw [hyP] at this
    exact this.symm
   ·rcases List.mem_cons.1 ((insE_perm E y).mem_iff.1 hz) with rfl | hz
    ·refine⟨hok2, ?_,by rw [htext,hy];rfl⟩
     rw [hA2,hnA,Nat.mul_div_cancel _ (by decide:0<256),hy]
     show (t:Int)+pagesE (text.length:Int)≤(k:Int)
     rw [hpn];omega
    ·refine((X.tx z hz).same (by rw [hA2]) (fun p hp=>(hall p (.inl ?_)).1)).1
     refine mAl _ (mCm _ ?_)
     exact List.mem_flatMap.2 ⟨z,hz,hp⟩
  ·exact .inr (.inr ⟨t,m2,T,by rw [←hy];exact h5,hF⟩)
 ·refine .inr (.inl ⟨?_, ?_⟩)
  ·exact hno.1
  ·exact hno.2
def byI (x:Int):UInt8:=UInt8.ofNat (x%256).toNat
theorem byI_int (x:Int):((byI x).toNat:Int)=x%256:=by
 have h:(x%256).toNat<256:=by omega
 rw [byI,UInt8.toNat_ofNat']
 omega
def chB (z:Int)(n:Nat):List UInt8:=(List.range n).map (fun j:Nat=>byI (z+(j:Int)*7))
theorem chB_len (z:Int)(n:Nat):(chB z n).length=n:=by rw [chB,List.length_map,List.length_range]
def chC (z:Int)(n i:Nat):List Value:=(List.range n).map (fun j:Nat=> .int .u8 (if j<i then(z+(j:Int)*7)%256 else 0))
theorem chC_len (z:Int)(n i:Nat):(chC z n i).length=n:=by rw [chC,List.length_map,List.length_range]
theorem chC_zero (z:Int)(n:Nat):chC z n 0=List.replicate n (.int .u8 0):=by
 apply List.ext_getElem
 ·rw [chC_len,List.length_replicate]
 ·intro j h1 h2
  simp [chC]
theorem chC_all (z:Int)(n:Nat):chC z n n=B8 (chB z n):=by
 apply List.ext_getElem
 ·rw [chC_len,B8,List.length_map,chB_len]
 ·intro j h1 h2
  rw [chC_len] at h1
  simp [chC,B8,chB,byI_int,h1]
theorem chC_set (z:Int)(n i:Nat)(hi:i<n):(chC z n i).set i (.int .u8 ((z+(i:Int)*7)%256))=chC z n (i+1):=by
 apply List.ext_getElem
 ·rw [List.length_set,chC_len,chC_len]
 ·intro j h1 h2
  rw [List.getElem_set]
  simp only [chC,List.getElem_map,List.getElem_range]
  by_cases e:i=j
  ·subst e;rw [if_pos rfl,if_pos (Nat.lt_succ_self i)]
  ·rw [if_neg e]
   by_cases c:j<i
   ·rw [if_pos c,if_pos (by omega)]
   ·rw [if_neg c,if_neg (by omega)]
end Go.Proofs.YtcglabmlhljkmaaGreat
