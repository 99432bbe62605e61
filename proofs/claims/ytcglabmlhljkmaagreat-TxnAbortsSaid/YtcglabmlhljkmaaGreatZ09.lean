/- Texts of this claim, put together: WkPlain5, WkPlain6, WkPlain7, WkWalk5, WkShare, TxWalk7, TxWalk8, TxWalk5, TfPlain2, TxPlain11, TxWalk10, SoLays, SoSort, TvWalk18, TxWalk11, SpTearPlain, TxPlain20, TxPlain16, TmPlain, TxPlain17, TxPlain21, GvStr, GvLaw, TxAbortsWalk, GvRead, GvRead2. -/
import Derived.Test.YtcglabmlhljkmaaGreatZ05
import Derived.Test.YtcglabmlhljkmaaGreatZ06
import Derived.Test.YtcglabmlhljkmaaGreatZ02
import Derived.Test.YtcglabmlhljkmaaGreatZ01
import Derived.Test.YtcglabmlhljkmaaGreatZ07
import Derived.Test.YtcglabmlhljkmaaGreatZ03
import Derived.Test.YtcglabmlhljkmaaGreatZ00
import Derived.Test.YtcglabmlhljkmaaGreatZ08
import Derived.Test.YtcglabmlhljkmaaGreatChecked
import Derived.Shelf.Sort.Plain
import Derived.Test.YtcglabmlhljkmaaGreatZ04
import Derived.Sort.OwnSortedInts
import Derived.Lib.ConvBytes
set_option maxHeartbeats 64000000
set_option linter.unusedVariables false
set_option linter.unusedSimpArgs false
namespace Go.Proofs.YtcglabmlhljkmaaGreat
open Go Go.RowKit Go.Gv
theorem sum_groups {α:Type}{C:α→Nat}: ∀gs:List (List α),(gs.map fun g=>1+(g.map C).sum).sum=gs.length+(gs.flatten.map C).sum
 | [] =>rfl
 | g::gs=>by rw [List.map_cons,List.sum_cons,sum_groups gs,lCn,List.flatten_cons,List.map_append,List.sum_append];omega
theorem cut_len {f:Int→List ENT}{D:List Int}{N m:Nat}(hs: ∀(i:Nat) (d:Int),D[i]? =some d→(f d).length=min N (m-i*N))(lo hi:Nat)(h1:lo≤hi)(h2:hi≤D.length):((cutL D lo hi).flatMap f).length=min (hi*N) m-min (lo*N) m:=by
 have e:D.take hi=D.take lo++cutL D lo hi:=by
  rw [←List.take_append_drop lo (D.take hi),List.take_take,Nat.min_eq_left h1,List.drop_take,cutL]
 have a:=pre_len hs hi h2
 rw [e,List.flatMap_append,lAp,pre_len hs lo (by omega)] at a
 omega
theorem group_len {N m n j:Nat}(hN:0<N)(hn:n=(m+N-1)/N)(hj:j*16<n):min (min (j*16+16) n*N) m-min (j*16*N) m=min (N*16) (m-j*(N*16)):=by
 have eA:j*(N*16)=j*16*N:=by rw [Nat.mul_comm N 16,Nat.mul_assoc]
 have e1:(j*16+16)*N=j*16*N+N*16:=by rw [Nat.add_mul,Nat.mul_comm 16 N]
 have hle:m≤n*N:=by
  have h1:=Nat.div_add_mod (m+N-1) N
  have h2:=Nat.mod_lt (m+N-1) hN
  rw [←hn,Nat.mul_comm] at h1
  omega
 have hlt:j*16*N<m:=by
  have h1:(j*16+1)*N≤m+N-1:=Nat.le_trans (Nat.mul_le_mul_right N hj) (by rw [hn];exact Nat.div_mul_le_self _ _)
  rw [Nat.add_mul,Nat.one_mul] at h1
  omega
 rw [eA]
 by_cases hb:j*16+16≤n
 ·rw [Nat.min_eq_left hb,e1]
  generalize j*16*N=Y at*
  omega
 ·have hmin:min (j*16+16) n=n:=by omega
  rw [hmin]
  have h3:n*N≤(j*16+16)*N:=Nat.mul_le_mul_right N (by omega)
  rw [e1] at h3
  generalize j*16*N=Y at*
  generalize n*N=Z at*
  omega
theorem Lev.step {l:List ENT}{h c:Nat}{v:VS}{xs:List ND3}(L:Lev l h c v xs)(hl:loadOk l)(hx:2≤xs.length)(hc:c+xs.length≤200):
  (unN (decide (h=0)) v xs).2.2=0∧Lev l (h+1) (c+xs.length) (unN (decide (h=0)) v xs).1 (chunkN (unN (decide (h=0)) v xs).2.1)∧(unN (decide (h=0)) v xs).2.1.D.length=xs.length:=by
 have hrise:=rise_of hl
 obtain⟨v',e,hvc,hrd,hag⟩:=VC.go (leaf:=decide (h=0)) xs L.vc L.c2 hc (fun x hx=>⟨(L.ok x hx).1,(L.ok x hx).2.1,(L.ok x hx).2.2.1⟩)
 obtain⟨n,hn⟩: ∃n,n=xs.length:=⟨_,rfl⟩
 rw [←hn] at hc hx hvc e ⊢
 obtain⟨D,hD⟩: ∃D,D=(List.range n).map (fun i=>((c+i:Nat):Int)):=⟨_,rfl⟩
 obtain⟨Ks,hK⟩: ∃Ks,Ks=xs.map (least3 (decide (h=0))):=⟨_,rfl⟩
 obtain⟨N,hN⟩: ∃N,N=capN h:=⟨_,rfl⟩
 obtain⟨m,hm⟩: ∃m,m=l.length:=⟨_,rfl⟩
 have hNp:0<N:=by rw [hN];exact capN_pos h
 rw [←hD] at e
 have hun:unN (decide (h=0)) v xs=(v',⟨[],Ks,D⟩,0):=by rw [unN,e];simp only [if_true,hK]
 rw [hun]
 have hDl:D.length=n:=by rw [hD];simp
 have hKl:Ks.length=n:=by rw [hK,hn];simp
 have hDg: ∀i,i<n→D[i]? =some ((c+i:Nat):Int):=fun i hi=>by rw [hD,List.getElem?_map,List.getElem?_range hi];rfl
 have hlt: ∀{i:Nat} {d:Int},D[i]? =some d→i<n:=fun hi=>by have:=(List.getElem?_eq_some_iff.1 hi).1;omega
 have hxg: ∀i,i<n→ ∃x,xs[i]? =some x:=fun i hi=>⟨_,gEe (by omega)⟩
 have hcnt:=L.cnt
 rw [←hn, ←hN, ←hm] at hcnt
 have hag':agree v.S v'.S c:=fun j lf hj=>hag j lf hj
 have key: ∀(i:Nat) (x:ND3),xs[i]? =some x→wkGc v'.S (c+n) (h+1) ((c+i:Nat):Int)∧wkE v'.S (h+1) ((c+i:Nat):Int)=entX v.S h x∧wkC v'.S (h+1) ((c+i:Nat):Int)=cX v.S h x∧ ∀k,wkV v'.S (h+1) ((c+i:Nat):Int) k=vX v.S h x k:=by
  intro i x hi
  have hil:=(List.getElem?_eq_some_iff.1 hi).1
  have hr:=hrd i x hi
  obtain⟨o1,o2,o3,o4⟩:=L.ok x (List.mem_of_getElem? hi)
  have sm:=fun d hd=>wkGc_same (c':=c+n) hag' (by omega) h d (o4 d hd)
  refine⟨⟨⟨c+i,by omega,rfl⟩,by rw [hr],by rw [hr];exact(right_len o1).1,by rw [hr];exact(right_len o1).2,fun k hk=>by rw [hr] at hk;exact(sm k hk).1⟩, ?_, ?_,fun k=>?_⟩
  ·rw [wkE,hr,entX,flat_congr (fun k hk=>(sm k hk).2.1)]
  ·rw [wkC,hr,cX,List.map_congr_left (fun k hk=>(sm k hk).2.2.1)]
  ·rw [wkV,hr,vX,wkVL_g,wkVL_g]
   congr 2
   refine gVL_zip _ _ _ rfl (fun i x y hx hy=>?_)
   rw [hx] at hy
   cases hy
   have:=sm x (List.mem_of_getElem? hx)
   exact⟨by rw [this.2.1],this.2.2.1,this.2.2.2⟩
 have hDs: ∀(i:Nat) (d:Int),D[i]? =some d→(wkE v'.S (h+1) d).length=min N (m-i*N):=by
  intro i d hd
  obtain⟨x,hxi⟩:=hxg i (hlt hd)
  rw [hDg i (hlt hd)] at hd
  cases hd
  rw [(key i x hxi).2.1,hN,hm]
  exact(L.sz i x hxi).1
 have hKg: ∀i,i<n→Ks[i]? =some (l.getD (i*N) ent0).key:=by
  intro i hi
  obtain⟨x,hxi⟩:=hxg i hi
  rw [hK,List.getElem?_map,hxi,hN]
  show some (least3 _ x)=_
  rw [(L.sz i x hxi).2]
 have hNlt: ∀i,i<n→i*N<m:=by
  intro i hi
  have h1:(i+1)*N≤m+N-1:=Nat.le_trans (Nat.mul_le_mul_right N hi) (by rw [hcnt];exact Nat.div_mul_le_self _ _)
  rw [Nat.add_mul,Nat.one_mul] at h1
  omega
 obtain⟨X,hX⟩: ∃X:ND3,X=⟨[],Ks,D⟩:=⟨_,rfl⟩
 have hXD:X.D.length=n:=by rw [hX];exact hDl
 have hcap:capN (h+1)=N*16:=by rw [capN_succ,hN]
 have hcn:(chunkN X).length=(n+15)/16:=by rw [chunkN_length,hXD]
 have hch: ∀(j:Nat) (y:ND3),(chunkN X)[j]? =some y→j*16<n∧y=⟨[],cutL Ks (j*16) (min (j*16+16) n),cutL D (j*16) (min (j*16+16) n)⟩:=by
  intro j y hy
  have hj:j<(n+15)/16:=by have:=(List.getElem?_eq_some_iff.1 hy).1;omega
  rw [chunkN,List.getElem?_map,List.getElem?_range (by rw [hXD];exact hj)] at hy
  have hy':chN X j=y:=Option.some.inj hy
  refine⟨by omega, ?_⟩
  rw [←hy',chN,hXD,hX]
 have hgl: ∀j,j*16<n→((cutL D (j*16) (min (j*16+16) n)).flatMap (wkE v'.S (h+1))).length=min (N*16) (m-j*(N*16)):=by
  intro j hj
  rw [cut_len hDs _ _ (by omega) (by omega)]
  exact group_len hNp hcnt hj
 obtain⟨gs,hgs⟩: ∃gs,gs=(List.range ((n+15)/16)).map (fun j=>cutL D (j*16) (min (j*16+16) n)):=⟨_,rfl⟩
 have hgsl:gs.length=(n+15)/16:=by rw [hgs];simp
 have hgsf:gs.flatten=D:=by
  have:=chunks_flat D ((n+15)/16) (by rw [hDl];exact Nat.le_refl _)
  rw [hDl] at this
  rw [hgs,this]
  exact List.take_of_length_le (by omega)
 have hgg: ∀(j:Nat) (g:List Int),gs[j]? =some g→j*16<n∧g=cutL D (j*16) (min (j*16+16) n):=by
  intro j g hg
  have hj:j<(n+15)/16:=by have:=(List.getElem?_eq_some_iff.1 hg).1;omega
  rw [hgs,List.getElem?_map,List.getElem?_range hj] at hg
  exact⟨by omega,(Option.some.inj hg).symm⟩
 have hcnt':(n+15)/16=(m+N*16-1)/(N*16):=by rw [hcnt];exact ceil_ceil m N hNp
 have hmpos:0<m:=by have:=hNlt 0 (by omega);omega
 have hDC:D.map (wkC v'.S (h+1))=xs.map (cX v.S h):=by
  refine List.ext_getElem? (fun i=>?_)
  rw [List.getElem?_map,List.getElem?_map]
  by_cases hi:i<n
  ·obtain⟨x,hxi⟩:=hxg i hi
   rw [hDg i hi,hxi]
   show some _=some _
   rw [(key i x hxi).2.2.1]
  ·rw [List.getElem?_eq_none (by omega),List.getElem?_eq_none (by omega)];rfl
 have e0:decide (h+1=0)=false:=dFf (by omega)
 refine⟨rfl, ?_,hDl⟩
 show Lev l (h+1) (c+n) v' (chunkN ⟨[],Ks,D⟩)
 rw [←hX]
 refine { vc:=hvc,c2:=?_,n1:=?_,cnt:=?_,ok:=?_,sz:=?_,ents:=?_,vis:=?_,tot:=?_ }
 ·have:=L.c2;omega
 ·rw [hcn];omega
 ·rw [hcn,hcap, ←hm];exact hcnt'
 ·intro y hy
  obtain⟨j,hjy⟩:=List.getElem?_of_mem hy
  obtain⟨hj,rfl⟩:=hch j y hjy
  obtain⟨lo,hlo⟩: ∃lo,lo=j*16:=⟨_,rfl⟩
  obtain⟨hi,hhi⟩: ∃hi,hi=min (j*16+16) n:=⟨_,rfl⟩
  rw [←hhi, ←hlo]
  have kl:(cutL Ks lo hi).length=hi-lo:=cutL_len _ _ _ (by omega)
  have dl:(cutL D lo hi).length=hi-lo:=cutL_len _ _ _ (by omega)
  have kg: ∀i,i<hi-lo→(cutL Ks lo hi).getD i (0,0)=(l.getD ((lo+i)*N) ent0).key:=by
   intro i hi'
   rw [gDe,cutL_get _ _ _ _ (by omega),hKg (lo+i) (by omega)];rfl
  have dg: ∀i,i<hi-lo→(cutL D lo hi)[i]? =some ((c+(lo+i):Nat):Int):=by
   intro i hi'
   rw [cutL_get _ _ _ _ (by omega),hDg (lo+i) (by omega)]
  have hkey: ∀i,i<hi-lo→keyAt (cutL Ks lo hi) i=true:=by
   intro i hi'
   have hlt:=hNlt (lo+i) (by omega)
   have hok:keyOk (l.getD ((lo+i)*N) ent0).key=true:=by
    have:=hl.1 ((lo+i)*N) (by omega)
    simp only [entOk,Bool.and_eq_true] at this
    exact this.1.1.1.1.1.1
   rw [keyAt,kg i hi',hok,Bool.true_and]
   rcases Nat.eq_zero_or_pos i with h0 | h0
   ·rw [dTt h0];rfl
   ·rw [kg (i-1) (by omega),hrise ((lo+(i-1))*N) ((lo+i)*N) (Nat.mul_lt_mul_of_pos_right (by omega) hNp) (by omega),Bool.or_true]
  have hkid: ∀i,i<hi-lo→kidAt (cutL D lo hi) i=true:=by
   intro i hi'
   have hd:(cutL D lo hi).getD i 0=((c+(lo+i):Nat):Int):=by rw [gDe,dg i hi'];rfl
   have hb:betw ((c+(lo+i):Nat):Int) 2 511=true:=by
    have:=L.c2
    rw [betw,dTt (by omega),dTt (by omega)];rfl
   have hnin: ¬((c+(lo+i):Nat):Int)∈(cutL D lo hi).take i:=by
    intro hmem
    obtain⟨q,hq⟩:=List.getElem?_of_mem hmem
    have hql:q<i:=by
     have:=(List.getElem?_eq_some_iff.1 hq).1
     rw [lTk] at this
     omega
    rw [List.getElem?_take,if_pos hql,dg q (by omega)] at hq
    have:=Option.some.inj hq
    omega
   rw [kidAt,hd,hb,dFf hnin];rfl
  refine⟨?_,(fun e he=>by cases he), ?_, ?_⟩
  ·rw [e0,rightN,if_neg (by simp)]
   have hin:innerB (cutL Ks lo hi) (cutL D lo hi)=true:=by
    rw [innerB,kl,dl,keysTo_of _ hkey,kidsTo_of _ hkid,dTt rfl,betw,dTt (by omega),dTt (by omega)];rfl
   rw [hin];rfl
  ·intro k hk
   have hk':k∈cutL Ks lo hi:=hk
   obtain⟨q,hq⟩:=List.getElem?_of_mem hk'
   have hql:q<hi-lo:=by have:=(List.getElem?_eq_some_iff.1 hq).1;omega
   have hk2:=kg q hql
   rw [gDe,hq] at hk2
   have hk3:k=(l.getD ((lo+q)*N) ent0).key:=hk2
   have hlt:=hNlt (lo+q) (by omega)
   rw [hk3,gDe,gEe (by omega)]
   exact(hl.2.2 _ (List.getElem_mem _)).1
  ·intro d hd
   have hd':d∈cutL D lo hi:=hd
   obtain⟨q,hq⟩:=List.getElem?_of_mem hd'
   have hql:q<hi-lo:=by have:=(List.getElem?_eq_some_iff.1 hq).1;omega
   rw [dg q hql] at hq
   obtain⟨x,hxi⟩:=hxg (lo+q) (by omega)
   have hdv:((c+(lo+q):Nat):Int)=d:=Option.some.inj hq
   rw [←hdv]
   exact(key (lo+q) x hxi).1
 ·intro j y hjy
  obtain⟨hj,rfl⟩:=hch j y hjy
  constructor
  ·show ([] ++(cutL D (j*16) (min (j*16+16) n)).flatMap (wkE v'.S (h+1))).length=_
   rw [nAp,hgl j hj,hcap,hm]
  ·rw [e0,hcap]
   show (cutL Ks (j*16) (min (j*16+16) n)).getD 0 (0,0)=_
   rw [gDe,cutL_get _ _ _ _ (by omega),Nat.add_zero,hKg _ hj,Nat.mul_comm N 16, ←Nat.mul_assoc];rfl
 ·have e1:(chunkN X).flatMap (entX v'.S (h+1))=(gs.flatten).flatMap (wkE v'.S (h+1)):=by
   rw [hgs,chunkN,hXD]
   generalize List.range ((n+15)/16)=rs
   induction rs with
   | nil=>rfl
   | cons r rs ih=>
    rw [List.map_cons,List.map_cons,List.flatMap_cons,List.flatten_cons,List.flatMap_append,ih]
    congr 1
    rw [entX,chN,hXD,hX];rfl
  rw [e1,hgsf]
  have e2:D.flatMap (wkE v'.S (h+1))=xs.flatMap (entX v.S h):=by
   rw [List.flatMap_def,List.flatMap_def]
   congr 1
   refine List.ext_getElem? (fun i=>?_)
   rw [List.getElem?_map,List.getElem?_map]
   by_cases hi:i<n
   ·obtain⟨x,hxi⟩:=hxg i hi
    rw [hDg i hi,hxi]
    show some _=some _
    rw [(key i x hxi).2.1]
   ·rw [List.getElem?_eq_none (by omega),List.getElem?_eq_none (by omega)];rfl
  rw [e2];exact L.ents
 ·intro k hk
  rw [←hm] at hk
  have s1:gVL (nX v'.S (h+1)) (cX v'.S (h+1)) (vX v'.S (h+1)) (chunkN X) k
    =gVL (fun g:List Int=>(g.map fun d=>(wkE v'.S (h+1) d).length).sum) (fun g=>1+(g.map (wkC v'.S (h+1))).sum) (fun g k=>1+gVL (fun d=>(wkE v'.S (h+1) d).length) (wkC v'.S (h+1)) (wkV v'.S (h+1)) g k) gs k:=by
   refine gVL_zip _ _ _ (by rw [hcn,hgsl]) (fun j y g hy hg=>?_)
   obtain⟨_,rfl⟩:=hch j y hy
   obtain⟨_,rfl⟩:=hgg j g hg
   refine⟨?_,rfl,fun k=>?_⟩
   ·show ([] ++_).length=_
    rw [nAp,sum_flat]
   ·show 1+(if k<([] :List ENT).length then 0 else wkVL _ _ _ _ (k-([] :List ENT).length))=_
    rw [if_neg (by simp),wkVL_g];rfl
  have hsum:(D.map fun d=>(wkE v'.S (h+1) d).length).sum=m:=by
   rw [←sum_flat]
   have:=pre_len hDs n (by omega)
   rw [List.take_of_length_le (by omega)] at this
   rw [this]
   have h1:=Nat.div_add_mod (m+N-1) N
   have h2:=Nat.mod_lt (m+N-1) hNp
   rw [←hcnt,Nat.mul_comm] at h1
   omega
  rw [s1,gVL_groups gs k (by rw [hgsf,hsum];exact hk),hgsf]
  have s2:gVL (fun d=>(wkE v'.S (h+1) d).length) (wkC v'.S (h+1)) (wkV v'.S (h+1)) D k=gVL (nX v.S h) (cX v.S h) (vX v.S h) xs k:=by
   refine gVL_zip _ _ _ (by omega) (fun i d x hd hxi=>?_)
   rw [hDg i (hlt hd)] at hd
   cases hd
   exact⟨by rw [(key i x hxi).2.1];rfl,(key i x hxi).2.2.1,(key i x hxi).2.2.2⟩
  have hm':m≤(0+gs.length)*(N*16):=by
   rw [Nat.zero_add,hgsl,hcnt']
   have h1:=Nat.div_add_mod (m+N*16-1) (N*16)
   have h2:=Nat.mod_lt (m+N*16-1) (show 0<N*16 by omega)
   rw [Nat.mul_comm] at h1
   omega
  have s3:=gIdx_div (n:=fun d=>(wkE v'.S (h+1) d).length) (M:=N*16) (m:=m) (by omega) gs 0 k (fun j g hg=>by
   obtain⟨hj,rfl⟩:=hgg j g hg
   rw [←sum_flat,hgl j hj,Nat.zero_add]) (by omega) hk hm'
  rw [Nat.zero_mul,Nat.sub_zero,Nat.sub_zero] at s3
  rw [s2,s3,L.vis k (by omega),visF,hcap]
 ·have e1:(chunkN X).map (cX v'.S (h+1))=gs.map (fun g=>1+(g.map (wkC v'.S (h+1))).sum):=by
   rw [hgs,chunkN,hXD,List.map_map,List.map_map]
   refine List.map_congr_left (fun j _=>?_)
   show 1+_=1+_
   rw [chN,hXD,hX]
  rw [e1,sum_groups,hgsf,hDC,L.tot,hgsl,visF,hcap, ←hm,hcnt']
  have:m+N*16-1=(m-1)+N*16:=by omega
  rw [this,Nat.add_div_right _ (show 0<N*16 by omega)]
  omega
theorem node_facts {S S':DS}{c c' h j:Nat}{x:ND3}(hr:rdN S' (j:Int) (decide (h=0))=⟨decide (h=0),x.E,x.K,x.D,0⟩)(hag:agree S S' c)(hc:c≤c')(hj:j<c')(hx:rightN (decide (h=0)) x.E x.K x.D=true)(hd: ∀d∈x.D,wkGc S c h d):
  wkGc S' c' (h+1) (j:Int)∧wkE S' (h+1) (j:Int)=entX S h x∧wkC S' (h+1) (j:Int)=cX S h x∧ ∀k,wkV S' (h+1) (j:Int) k=vX S h x k:=by
 have sm:=fun d hd'=>wkGc_same (c':=c') hag hc h d (hd d hd')
 refine⟨⟨⟨j,hj,rfl⟩,by rw [hr],by rw [hr];exact(right_len hx).1,by rw [hr];exact(right_len hx).2,fun k hk=>by rw [hr] at hk;exact(sm k hk).1⟩, ?_, ?_,fun k=>?_⟩
 ·rw [wkE,hr,entX,flat_congr (fun k hk=>(sm k hk).2.1)]
 ·rw [wkC,hr,cX,List.map_congr_left (fun k hk=>(sm k hk).2.2.1)]
 ·rw [wkV,hr,vX,wkVL_g,wkVL_g]
  congr 2
  refine gVL_zip _ _ _ rfl (fun i x y hx hy=>?_)
  rw [hx] at hy
  cases hy
  have:=sm x (List.mem_of_getElem? hx)
  exact⟨by rw [this.2.1],this.2.2.1,this.2.2.2⟩
structure Held (l:List ENT)(R:VS×(Int×Nat)×Nat):Prop where
 e:R.2.2=0
 c: ∃c,c≤200∧VC c R.1
 h5:R.2.1.2≤5
 h1:1≤R.2.1.2
 g:wkG R.1.S R.2.1.2 R.2.1.1
 E:wkE R.1.S R.2.1.2 R.2.1.1=l
 V: ∀k,k<l.length→wkV R.1.S R.2.1.2 R.2.1.1 k=visF (R.2.1.2-1) k
 C:wkC R.1.S R.2.1.2 R.2.1.1=visF (R.2.1.2-1) (l.length-1)
 last:(l.length+capN (R.2.1.2-1)-1)/capN (R.2.1.2-1)=1
 big: ∀i,i<R.2.1.2-1→2≤(l.length+capN i-1)/capN i
theorem Lev.fin {l:List ENT}{h c:Nat}{v:VS}{x:ND3}(L:Lev l h c v [x])(hc:c<200)(hh:h≤4)(hb: ∀i,i<h→2≤(l.length+capN i-1)/capN i):Held l (finN (decide (h=0)) v [x] (h+1)):=by
 obtain⟨o1,o2,o3,o4⟩:=L.ok x (List.mem_singleton.2 rfl)
 obtain⟨v',e,hvc,hrd,hag⟩:=L.vc.wr L.c2 hc o1 o2 o3
 have hag':agree v.S v'.S c:=fun j lf hj=>hag j lf (by omega) (by omega)
 obtain⟨f1,f2,f3,f4⟩:=node_facts (c':=c+1) hrd hag' (by omega) (by omega) o1 o4
 have hx:([x] :List ND3).getD 0 ⟨[], [], []⟩=x:=rfl
 have hR:finN (decide (h=0)) v [x] (h+1)=(v',((c:Int),h+1),0):=by rw [finN,if_neg (by omega),hx,e]
 rw [hR]
 have hents:=L.ents
 rw [List.flatMap_cons,List.flatMap_nil,List.append_nil] at hents
 have hcnt:=L.cnt
 have hvis:=L.vis
 have htot:=L.tot
 have hn:nX v.S h x=l.length:=by rw [nX,hents]
 refine { e:=rfl,c:=⟨c+1,by omega,hvc⟩,h5:=?_,h1:=?_,g:=wkGc_G (by omega) _ _ f1,E:=?_,V:=?_,C:=?_,last:=?_,big:=?_ }
 ·show h+1≤5;omega
 ·show 1≤h+1;omega
 ·show wkE v'.S (h+1) (c:Int)=l
  rw [f2];exact hents
 ·intro k hk
  show wkV v'.S (h+1) (c:Int) k=visF h k
  rw [f4, ←hvis k hk,gVL,if_pos (by omega)]
 ·show wkC v'.S (h+1) (c:Int)=visF h (l.length-1)
  rw [f3, ←htot];simp
 ·show (l.length+capN h-1)/capN h=1
  rw [←hcnt];rfl
 ·exact hb
def tkF (H m n:Nat):Nat:=if m=0∨n=0 then 0 else visF (H-1) (min n m-1)
structure Built (l:List ENT)(R:VS×(Int×Nat)×Nat):Prop where
 e:R.2.2=0
 ok:R.1.ok
 wt:R.1.S.W.length≤1000000
 h5:R.2.1.2≤5
 g:R.2.1.2=0∨wkG R.1.S R.2.1.2 R.2.1.1
 E:wkE R.1.S R.2.1.2 R.2.1.1=l
 C:wkC R.1.S R.2.1.2 R.2.1.1≤1000000
 tk: ∀n,tkC R.1.S R.2.1.2 R.2.1.1 n=tkF R.2.1.2 l.length n
theorem walk_Entries (pv:Option Nat)(a h:Int):SpecR Tryz.prog 138 #[.pointer (pv.map fun p=>⟨p,0,none⟩),rootV a h] (fun _=>True) (fun r H'=> ∃pw b2 b3:Nat,r= .func (.func 199) #[] [.pointer (some ⟨b2,0,none⟩), .pointer (some ⟨b3,0,none⟩)].toArray
  ∧H'= [blk b2 263 [.pointer (some ⟨pw,0,none⟩)],blk b3 43 [.int .i64 a, .int .i64 h],blk pw 265 [.pointer (pv.map fun p=>⟨p,0,none⟩), .int .i64 0]]):=by
 refine SpecR.of (fun w _=>?_)
 refine Calls.enter Tryz.func138 rfl rfl rfl (St.rebase w) ?_
 simp only [argSlots]
 refine Ws ?_
 (refine Wbx ?_;intro b3)
 refine Ws ?_
 refine Zbu (ys:= [.pointer (pv.map fun p=>⟨p,0,none⟩), .int .i64 0]) ?_
 refine Ws ?_
 (refine Wbx ?_;intro pw)
 refine Ws ?_
 refine Zla (cs:=rootL a h) ?_ (hl:=by rfl)
 refine Ws ?_
 refine Zcr (walker_entries pw a h) ?_
 rintro r2 H2 ⟨b2,b4,rfl,rfl⟩
 refine Wap ?_
 refine Ws ?_
 refine Zfn [blk b2 263 [.pointer (some ⟨pw,0,none⟩)],blk b4 43 [.int .i64 a, .int .i64 h],blk pw 265 [.pointer (pv.map fun p=>⟨p,0,none⟩), .int .i64 0]] (hq:=?_)
 exact⟨pw,b2,b4,rfl,rfl⟩
def eachH (pw pv d:Nat)(v:VS)(w0:World)(l:Nat)(h:Nat)(a:Int):Prop:= ∀(I J:Nat→Atom) (N:Nat),N+wkC v.S h a≤1000000→
  (∀k e,(wkE v.S h a)[k]? =some e→YSpec Tryz.prog w0 l #[entV e, .int .i64 0] (Gv.star [I k,DSK d v.S]) (Gv.star [I (k+1),DSK d v.S]) (Gv.star [J k,DSK d v.S]))→
  SpecW Tryz.prog w0 200 #[.pointer (some ⟨pw,0,none⟩), .int .i64 a, .int .i64 (h:Int), .func (.yield l) #[] #[]]
   [I 0,blk pw 265 [.pointer (some ⟨pv,0,none⟩), .int .i64 (N:Int)],blk pv 146 (viewL d v),DSK d v.S]
   (eachR (wkE v.S h a) I J pw pv d v N (wkC v.S h a) (wkV v.S h a))
theorem each_stepH (pw pv d:Nat)(v:VS)(hv:v.ok)(hl:v.S.W.length≤1000000)(w0:World)(l:Nat)(h:Nat)(a:Int)(hg:wkG v.S (h+1) a)(hh:h≤1000)
  (ih: ∀k∈(rdN v.S a (decide (h=0))).D,eachH pw pv d v w0 l h k):eachH pw pv d v w0 l (h+1) a:=by
 intro I J N hN hY
 refine SpecW.of (fun w h0 hw=>?_)
 refine Calls.enter Tryz.func200 rfl rfl rfl hw ?_
 simp only [argSlots]
 refine Tri.wr ?_
 refine Wap ?_
 obtain⟨ha,he,hEl,hDl,_⟩:=hg
 have hE:wkE v.S (h+1) a=(rdN v.S a (decide (h=0))).E++(rdN v.S a (decide (h=0))).D.flatMap (wkE v.S h):=rfl
 have hC:wkC v.S (h+1) a=1+((rdN v.S a (decide (h=0))).D.map (wkC v.S h)).sum:=rfl
 have hV: ∀k,wkV v.S (h+1) a k=1+if k<(rdN v.S a (decide (h=0))).E.length then 0 else wkVL (wkE v.S h) (wkC v.S h) (wkV v.S h) (rdN v.S a (decide (h=0))).D (k-(rdN v.S a (decide (h=0))).E.length):=fun _=>rfl
 rw [hC] at hN
 generalize wkE v.S (h+1) a=ES at hE hY ⊢
 generalize wkC v.S (h+1) a=CC at hC ⊢
 generalize wkV v.S (h+1) a=VV at hV ⊢
 refine Ws ?_
 refine Zz 22 (decide (h=0)) ?_ (hi:=by exact decide_eq_decide.2 (by omega))
 refine Zcs (view_Node pv d v a (decide (h=0)) hv hl ha) ?_
 rintro r1 H1 ⟨A,c,B,b,C,e,rfl,rfl⟩
 refine Wap ?_
 generalize rdN v.S a (decide (h=0))=G at*
 refine Ws ?_
 refine Zal fun b9=>?_
 refine Ws ?_
 refine ZSa (ys:=ndLL G.leaf (.slice A G.E.length c) (.slice B G.K.length b) (.slice C G.D.length e)) ?_ (h1:=by exact ndLL_one G.leaf A B C _ c _ b _ e)
 refine Wr ?_
 refine Zz 34 false ?_ (hi:=by rw [he];rfl)
 refine Ws ?_
 refine Zat (blk pw _ _) (blk pw 265 [.pointer (some ⟨pv,0,none⟩), .int .i64 ((N+1:Nat):Int)]) ?_
 (refine Wl (α:={ i:Nat//i≤G.E.length }) (fun x=>G.E.length-x.1) (fun x=> [(0, .pointer (some ⟨pw,0,none⟩)),(2, .int .i64 ((h+1:Nat):Int)),(3, .func (.yield l) #[] #[]),(9, .pointer (some ⟨b9,0,none⟩)),(40, .slice A G.E.length c),(41, .int .i64 (G.E.length:Int)),(42, .int .i64 (x.1:Int))]) (fun x=> [I x.1,blk pw 265 [.pointer (some ⟨pv,0,none⟩), .int .i64 ((N+1:Nat):Int)],blk pv 146 (viewL d v),DSK d v.S,blk b9 125 (ndLL G.leaf (.slice A G.E.length c) (.slice B G.K.length b) (.slice C G.D.length e)),own 40 8 (.slice A G.E.length c) G.E.length (EL G.E),own 3 1 (.slice C G.D.length e) G.D.length (NL G.D),Ex h0]) ⟨0,Nat.zero_le _⟩ ?_;rintro ⟨i,hi⟩ mx hmx;(try dsimp only at hmx ⊢))
 refine Ws ?_
 (refine Wcd ?_ ?_<;>intro hc)
 ·have hil:i<G.E.length:=by omega
  obtain⟨x,hx⟩: ∃x,x=G.E.getD i ent0:=⟨_,rfl⟩
  have hE8:((EL G.E).drop (i*8)).take 8=entL x:=by rw [hx];exact EL_eight G.E i hil
  have hxi:ES[i]? =some x:=by
   rw [hE,List.getElem?_append_left hil,hx,gDe,gEe hil];rfl
  have hil':i+1≤G.E.length:=hil
  refine Ws ?_
  refine Zix (j:=i) ?_ (hj:=by rfl) (hlt:=by exact hil)
  refine Ws ?_
  refine Zlq ?_ (hv:=by exact hE8) (hl:=by rfl)
  refine Ws ?_
  refine Zal fun b12=>?_
  refine Ws ?_
  refine ZSa (ys:=entL x) ?_ (h1:=by exact entL_one5 x)
  refine Ws ?_
  refine Zla (cs:=entL x) ?_ (hl:=by rfl)
  refine Ws ?_
  refine Tri.star [I i,DSK d v.S] Wps ?_
  ((with_reducible apply TriR.yield (hy:=hY i x hxi));(case hx=>rfl);(case hargs=>(repeat (first | exact evs.nil | (apply evs.cons;(case a=>rfl)))));(case hn=>rfl);(case p=>(first | ((repeat (first | with_reducible exact Pull.head | with_reducible apply Pull.tail));done) | (repeat (first | exact Pull.head | apply Pull.tail)))))
  ·refine Tri.unstar Wp ?_
   refine Wap ?_
   refine Ws ?_
   refine Zz 49 false ?_
   refine Ws ?_
   refine Zi 42 ((i+1:Nat):Int) ?_ (hi:=by omega)
   exact Zag ⟨i+1,hil'⟩
  ·refine Tri.unstar Wp ?_
   refine Wap ?_
   refine Ws ?_
   refine Zz 49 true ?_
   refine Ws ?_
   have hvi:VV i=1:=by rw [hV i,if_pos hil]
   have hlt:i<ES.length:=by rw [hE,lAp];omega
   refine Zat (blk pw _ _) (blk pw 265 [.pointer (some ⟨pv,0,none⟩), .int .i64 ((N+VV i:Nat):Int)]) ?_ (e:=by rw [hvi])
   exact Zfn [J i,blk pw 265 [.pointer (some ⟨pv,0,none⟩), .int .i64 ((N+VV i:Nat):Int)],blk pv 146 (viewL d v),DSK d v.S] (hq:=by exact .inr ⟨i,hlt,rfl,rfl⟩)
 ·have hil:i=G.E.length:=by omega
  subst hil
  refine Ws ?_
  refine Zat (I G.E.length) (I (G.E.length+((G.D.take 0).flatMap (wkE v.S h)).length)) ?_
  refine Zat (blk pw _ _) (blk pw 265 [.pointer (some ⟨pv,0,none⟩), .int .i64 ((N+1+((G.D.take 0).map (wkC v.S h)).sum:Nat):Int)]) ?_
  (refine Wl (α:={ j:Nat//j≤G.D.length }) (fun x=>G.D.length-x.1) (fun x=> [(0, .pointer (some ⟨pw,0,none⟩)),(2, .int .i64 ((h+1:Nat):Int)),(3, .func (.yield l) #[] #[]),(52, .slice C G.D.length e),(53, .int .i64 (G.D.length:Int)),(54, .int .i64 (x.1:Int))]) (fun x=> [I (G.E.length+((G.D.take x.1).flatMap (wkE v.S h)).length),blk pw 265 [.pointer (some ⟨pv,0,none⟩), .int .i64 ((N+1+((G.D.take x.1).map (wkC v.S h)).sum:Nat):Int)],blk pv 146 (viewL d v),DSK d v.S,own 3 1 (.slice C G.D.length e) G.D.length (NL G.D),Ex h0]) ⟨0,Nat.zero_le _⟩ ?_;rintro ⟨j,hj⟩ mx hmx;(try dsimp only at hmx ⊢))
  refine Ws ?_
  (refine Wcd ?_ ?_<;>intro hc2)
  ·have hjl:j<G.D.length:=by omega
   have hjl':j+1≤G.D.length:=hjl
   obtain⟨k,hk⟩: ∃k,G.D[j]? =some k:=⟨_,gEe hjl⟩
   have hkn:(NL G.D)[j*1]? =some (.int .i64 k):=by rw [Nat.mul_one,nl_get,hk];rfl
   obtain⟨off,hoff⟩: ∃off,off=G.E.length+((G.D.take j).flatMap (wkE v.S h)).length:=⟨_,rfl⟩
   obtain⟨M,hM⟩: ∃M,M=N+1+((G.D.take j).map (wkC v.S h)).sum:=⟨_,rfl⟩
   have hst:=wk_stake (C:=wkC v.S h) hk
   have hsl:=wk_sle (C:=wkC v.S h) G.D (j+1)
   have hfl:=wk_take (E:=wkE v.S h) hk
   have hfe:=wk_le (E:=wkE v.S h) G.D (j+1)
   have hMb:M+wkC v.S h k≤1000000:=by omega
   have hsub: ∀q x,(wkE v.S h k)[q]? =some x→ES[off+q]? =some x:=fun q x hq=>by
    have hql:q<(wkE v.S h k).length:=(List.getElem?_eq_some_iff.1 hq).1
    rw [hE,hoff,List.getElem?_append_right (by omega),Nat.add_assoc,Nat.add_sub_cancel_left,wk_at G.D j q k hk hql]
    exact hq
   have hYk: ∀q x,(wkE v.S h k)[q]? =some x→YSpec Tryz.prog w0 l #[entV x, .int .i64 0] (Gv.star [(fun q=>I (off+q)) q,DSK d v.S]) (Gv.star [(fun q=>I (off+q)) (q+1),DSK d v.S]) (Gv.star [(fun q=>J (off+q)) q,DSK d v.S]):=fun q x hq=>hY (off+q) x (hsub q x hq)
   have hcall:=ih k (List.mem_of_getElem? hk) (fun q=>I (off+q)) (fun q=>J (off+q)) M hMb hYk
   rw [←hoff, ←hM]
   refine Ws ?_
   refine Zix (j:=j) ?_ (hj:=by rfl) (hlt:=by exact hjl)
   refine Ws ?_
   refine Zlo ?_ (hv:=by exact hkn)
   refine Ws ?_
   refine Zi 61 (h:Int) ?_ (hi:=by omega)
   refine Ws ?_
   refine Zat (I off) ((fun q=>I (off+q)) 0) ?_
   refine Zcw hcall ?_
   rintro r2 H2 (⟨rfl,rfl⟩ | ⟨q,hq,rfl,rfl⟩)
   ·(try dsimp only [cAp,nAp])
    refine Ws ?_
    refine Zz 64 false ?_
    refine Ws ?_
    refine Zi 54 ((j+1:Nat):Int) ?_ (hi:=by omega)
    refine Zat (I (off+(wkE v.S h k).length)) (I (G.E.length+((G.D.take (j+1)).flatMap (wkE v.S h)).length)) ?_ (e:=by rw [hoff,hfl,Nat.add_assoc])
    refine Zat (blk pw _ _) (blk pw 265 [.pointer (some ⟨pv,0,none⟩), .int .i64 ((N+1+((G.D.take (j+1)).map (wkC v.S h)).sum:Nat):Int)]) ?_ (e:=by rw [hst,hM,Nat.add_assoc (N+1)])
    exact Zag ⟨j+1,hjl'⟩
   ·(try dsimp only [cAp,nAp])
    have hvi:VV (off+q)=1+(((G.D.take j).map (wkC v.S h)).sum+wkV v.S h k q):=by
     rw [hV (off+q),if_neg (by omega),hoff,show G.E.length+((G.D.take j).flatMap (wkE v.S h)).length+q-G.E.length=((G.D.take j).flatMap (wkE v.S h)).length+q by omega,wkVL_at G.D j q k hk hq]
    have hlt:off+q<ES.length:=by rw [hE,lAp];omega
    refine Ws ?_
    refine Zz 64 true ?_
    refine Ws ?_
    refine Zat (blk pw _ _) (blk pw 265 [.pointer (some ⟨pv,0,none⟩), .int .i64 ((N+VV (off+q):Nat):Int)]) ?_ (e:=by rw [show M+wkV v.S h k q=N+VV (off+q) by rw [hvi,hM];omega])
    exact Zfn [J (off+q),blk pw 265 [.pointer (some ⟨pv,0,none⟩), .int .i64 ((N+VV (off+q):Nat):Int)],blk pv 146 (viewL d v),DSK d v.S] (hq:=by exact .inr ⟨off+q,hlt,rfl,rfl⟩)
  ·have hjl:j=G.D.length:=by omega
   subst hjl
   rw [List.take_length]
   have hEL:ES.length=G.E.length+(G.D.flatMap (wkE v.S h)).length:=by rw [hE,lAp]
   have hNC:N+1+(G.D.map (wkC v.S h)).sum=N+CC:=by rw [hC];omega
   rw [←hEL,hNC]
   refine Ws ?_
   exact Zfn [I ES.length,blk pw 265 [.pointer (some ⟨pv,0,none⟩), .int .i64 ((N+CC:Nat):Int)],blk pv 146 (viewL d v),DSK d v.S] (hq:=by exact .inl ⟨rfl,rfl⟩)
theorem walker_eachH (pw pv d:Nat)(v:VS)(hv:v.ok)(hl:v.S.W.length≤1000000)(w0:World)(l:Nat): ∀(h:Nat) (a:Int),wkG v.S h a→h≤1000→eachH pw pv d v w0 l h a:=by
 intro h
 induction h with
 | zero=>intro a hg _;exact hg.elim
 | succ h ih=>
  intro a hg hh
  exact each_stepH pw pv d v hv hl w0 l h a hg (by omega) (fun k hk=>ih k (hg.2.2.2.2 k hk) (by omega))
def walkCH (pw pv d b2 b3:Nat)(v:VS)(a h:Int)(N:Nat):List Atom:= [blk b2 263 [.pointer (some ⟨pw,0,none⟩)],blk b3 43 [.int .i64 a, .int .i64 h],blk pw 265 [.pointer (some ⟨pv,0,none⟩), .int .i64 (N:Int)],blk pv 146 (viewL d v)]
theorem entries_iterH (pw pv d b2 b3:Nat)(v:VS)(hv:v.ok)(hl:v.S.W.length≤1000000)(h:Nat)(a:Int)(hh:h≤5)(hg:h=0∨wkG v.S h a)(N:Nat)(hN:N+wkC v.S h a≤1000000):
  IterH Tryz.prog 199 [.pointer (some ⟨b2,0,none⟩), .pointer (some ⟨b3,0,none⟩)] [DSK d v.S] (walkCH pw pv d b2 b3 v a (h:Int) N) (fun k=>walkCH pw pv d b2 b3 v a (h:Int) (N+wkV v.S h a k)) (walkCH pw pv d b2 b3 v a (h:Int) (N+wkC v.S h a)) (rowsW (wkE v.S h a)):=by
 refine IterH.of (fun w0 l I J hY w h0 hw=>?_)
 rw [rowsW_length]
 simp only [walkCH] at hw ⊢
 refine Calls.enter Tryz.func199 rfl rfl rfl hw ?_
 simp only [argSlots]
 refine Tri.wr ?_
 refine Wap ?_
 refine Ws ?_
 refine Zz 10 false ?_
 refine Ws ?_
 refine Zz 15 false ?_ (hi:=by exact dFf (by omega))
 refine Ws ?_
 refine Zz 4 false ?_ (hi:=by exact dFf (by omega))
 refine Ws ?_
 rcases hg with hg | hg
 ·subst hg
  refine Zz 23 false ?_
  refine Ws ?_
  (first | with_reducible apply Tri.fin | with_reducible apply Tri.finN)
  case hr=>rfl
  case h=>exact ResL.nil
  exact fun w' hw'=> .inl ⟨(hw'.pulls (As:= [I 0,blk b2 263 [.pointer (some ⟨pw,0,none⟩)],blk b3 43 [.int .i64 a, .int .i64 ((0:Nat):Int)],blk pw 265 [.pointer (some ⟨pv,0,none⟩), .int .i64 (N:Int)],blk pv 146 (viewL d v),DSK d v.S,Ex h0]) Wps).1,Sat.left (hw'.pulls Wps).2⟩
 ·have hpos:0<h:=by
   rcases Nat.eq_zero_or_pos h with q | q
   ·subst q;exact hg.elim
   ·exact q
  refine Zz 23 true ?_ (hi:=by exact dTt (by omega))
  refine Ws ?_
  have hcall:=walker_eachH pw pv d v hv hl w0 l h a hg (by omega) I J N hN (fun k e he=>hY k _ (rowsW_get he))
  refine Zcw hcall ?_
  rintro r2 H2 (⟨rfl,rfl⟩ | ⟨q,hq,rfl,rfl⟩)
  ·(try dsimp only [cAp,nAp])
   refine Ws ?_
   (first | with_reducible apply Tri.fin | with_reducible apply Tri.finN)
   case hr=>rfl
   case h=>exact ResL.nil
   exact fun w' hw'=> .inl ⟨(hw'.pulls (As:= [I (wkE v.S h a).length,blk b2 263 [.pointer (some ⟨pw,0,none⟩)],blk b3 43 [.int .i64 a, .int .i64 (h:Int)],blk pw 265 [.pointer (some ⟨pv,0,none⟩), .int .i64 ((N+wkC v.S h a:Nat):Int)],blk pv 146 (viewL d v),DSK d v.S,Ex h0]) Wps).1,Sat.left (hw'.pulls Wps).2⟩
  ·(try dsimp only [cAp,nAp])
   refine Ws ?_
   (first | with_reducible apply Tri.fin | with_reducible apply Tri.finN)
   case hr=>rfl
   case h=>exact ResL.nil
   exact fun w' hw'=> .inr ⟨q,hq,(hw'.pulls (As:= [J q,blk b2 263 [.pointer (some ⟨pw,0,none⟩)],blk b3 43 [.int .i64 a, .int .i64 (h:Int)],blk pw 265 [.pointer (some ⟨pv,0,none⟩), .int .i64 ((N+wkV v.S h a q:Nat):Int)],blk pv 146 (viewL d v),DSK d v.S,Ex h0]) Wps).1,Sat.left (hw'.pulls Wps).2⟩
theorem base_Bytes (pb d pv:Nat)(S:DS)(s:SP)(m:BM)(op:Bool)(x:ENT)(hm:m.u.length=512)(hS:S.ok)(ho:S.off=false)(hA:S.A.length%256=0)(hl:S.W.length≤1000000)(hx:TxE S x):
  Gv.Spec Tryz.prog 95 #[.pointer (some ⟨pb,0,none⟩),entV x] [blk pb 161 (baseL d pv s m op false),DSK d S]
  (fun r H'=> ∃A h1,r= .tuple #[.slice A x.len.toNat x.len.toNat, .int .i64 0] ∧Rd h1 (.slice A x.len.toNat x.len.toNat) (txE S x).length (B8 (txE S x))∧(txE S x).length=x.len.toNat∧H'= [blk pb 161 (baseL d pv s m op false),DSK d S,Ex h1]):=by
 refine Gv.Spec.of (fun w h0 hw=>?_)
 refine Calls.enter Tryz.func95 rfl rfl rfl hw ?_
 simp only [argSlots]
 refine Wap ?_
 obtain⟨b1,b2⟩:=hx.bounds
 have hrE:=hx.rd ho hA
 have hfit:=hx.fit
 have hPg:=disk_PagesD d S hS
 have hn:x.len=(x.len.toNat:Int):=by omega
 have hRR:=page_ReadRaw d S x.addr x.len.toNat hS hl (by omega) (by omega)
 rw [←hn] at hRR
 have hpb:0≤pagesE x.len∧pagesE x.len≤1000:=by rw [pagesE];omega
 have hpg:=node_PagesE x ⟨by omega,by omega⟩
 refine Ws ?_
 (refine Wbx ?_;intro b3)
 refine Ws ?_
 refine Zd (base_may pb d pv s m op false hm) ?_
 refine Ws ?_
 refine Zz 12 false ?_
 refine Ws ?_
 refine Wm [blk b3 40 (entL x),blk pb 161 (baseL d pv s m op false)] ?_
 refine Zm 0 (h:=fun _ _ qK=>by exact Zla (cs:=entL x) qK (hl:=by rfl)) (k:=?_)
 refine ZA 1 ?_
 refine Zcr (txn_alone x) ?_
 rintro r2 H2 ⟨Av,cv,rfl,rfl⟩
 refine Wap ?_
 refine Zat (own 40 8 (.slice Av 1 cv) _ _) (own 40 8 (.slice Av 1 cv) [x].length (EL [x])) ?_
 refine Zw ?_
 refine ZA 2 ?_
 refine Zcv (node_Right true (.slice Av 1 cv) (.slice none 0 0) (.slice none 0 0) [x] [] []) ?_ (hpre:=by exact fun w' hw'=>⟨rdw_own (v:= .slice Av 1 cv) Wp w' hw',rd_noneT _,rd_noneT _⟩)
 refine Zw ?_
 refine Wq [3] ?_
 refine ZMb 17 false ?_ (hi:=by rw [one_right hx.ok];rfl)
 refine Wq [4,5,6] ?_
 refine Zm 7 (h:=fun _ _ qK=>by exact Zla (cs:=entL x) qK (hl:=by rfl)) (k:=?_)
 refine Zm 8 (h:=fun _ _ qK=>by exact Zcv hpg qK) (k:=?_)
 refine Wq [9] ?_
 refine ZMi 23 (x.addr+pagesE x.len) ?_ (hi:=by omega)
 refine Wq [10,11,12] ?_
 refine Zm 13 (h:=fun _ _ qK=>by exact Zl qK (hv:=by exact baseL_d)) (k:=?_)
 refine ZAy 14 ?_
 refine Zd hPg ?_
 refine Zw ?_
 refine Wq [15,16] ?_
 refine ZE ?_
 refine Ws ?_
 refine Zz 30 false ?_ (hi:=by exact dFf (by omega))
 refine Ws ?_
 refine Wm [blk b3 40 (entL x),blk pb 161 (baseL d pv s m op false)] ?_
 refine Wq [0,1,2] ?_
 refine Zm 3 (h:=fun _ _ qK=>by exact Zl qK (hv:=by exact baseL_d)) (k:=?_)
 refine Wq [4,5,6,7] ?_
 refine ZA 8 ?_
 refine Zcs hRR ?_
 rintro r4 H4 (⟨hne,_,_⟩ | ⟨_,A,h1,rfl,hrd,hln,rfl⟩)
 ·exact absurd hrE hne
 refine Wap ?_
 refine Zw ?_
 refine Wq [9,10,11,12,13] ?_
 refine ZE ?_
 refine Ws ?_
 refine Zz 44 false ?_
 refine Ws ?_
 refine Wm [blk b3 40 (entL x),blk pb 161 (baseL d pv s m op false),Ex h1] ?_
 refine Wq [0,1,2] ?_
 refine Zm 3 (h:=fun _ _ qK=>by exact Zlg qK (hv:=by exact baseL_tab d pv s m op false) (hl:=by exact tabL_length)) (k:=?_)
 refine Wq [4] ?_
 refine Zm 5 (h:=fun _ _ qK=>by exact Zcv (crc_Sum (.slice A x.len.toNat x.len.toNat) (txE S x)) qK (hpre:=by exact rdw_ex Wp hrd)) (k:=?_)
 refine Wq [6,7,8] ?_
 refine ZMb 56 false ?_ (hi:=by exact dFf (fun c=>c (by rw [hx.crc])))
 refine ZE ?_
 refine Ws ?_
 exact Zfn [blk pb 161 (baseL d pv s m op false),DSK d S,Ex h1] (hq:=by exact⟨A,h1,rfl,hrd,hln,rfl⟩)
theorem base_stoppedR (bv:Value)(e:Int)(he:e≠2):
  SpecR Tryz.prog 96 #[bv, .int .i64 e] (fun _=>True) (fun r H'=>r= .int .i64 e∧H'= []):=by
 refine SpecR.of (fun w _=>?_)
 refine Calls.enter Tryz.func96 rfl rfl rfl (St.rebase w) ?_
 simp only [argSlots]
 refine Ws ?_
 refine Zz 6 false ?_ (hi:=by exact dFf he)
 refine Ws ?_
 exact Zfr (hq:=by simp only [tupled];skip)
def baseC (b1 pb d pv:Nat)(v:VS)(s:SP)(m:BM)(op:Bool):List Atom:= [blk b1 75 [.pointer (some ⟨pb,0,none⟩)],blk pv 146 (viewL d v)]
def baseS (pb d pv:Nat)(v:VS)(s:SP)(m:BM)(op:Bool):List Atom:= [blk pb 161 (baseL d pv s m op false),DSK d v.S]
theorem base_Entries (pb:Nat):SpecR Tryz.prog 94 #[.pointer (some ⟨pb,0,none⟩)] (fun _=>True) (fun r H'=> ∃b1:Nat,r= .func (.func 137) #[] [.pointer (some ⟨b1,0,none⟩)].toArray
  ∧H'= [blk b1 75 [.pointer (some ⟨pb,0,none⟩)]]):=by
 refine SpecR.of (fun w _=>?_)
 refine Calls.enter Tryz.func94 rfl rfl rfl (St.rebase w) ?_
 simp only [argSlots]
 refine Ws ?_
 (refine Wbx ?_;intro b1)
 refine Ws ?_
 refine ZomakeFunc (vs:= [.pointer (some ⟨b1,0,none⟩)]) ?_ (hc:=by exact⟨rfl,trivial⟩)
 refine Ws ?_
 refine Zfn [blk b1 75 [.pointer (some ⟨pb,0,none⟩)]] (hq:=?_)
 exact⟨b1,rfl,rfl⟩
theorem base_iterH (b1 pb d pv:Nat)(v:VS)(s:SP)(m:BM)(op:Bool)(hm:m.u.length=512)(hv:v.ok)(hl:v.S.W.length≤1000000)(h:Nat)(hh:h≤5)(hsh:s.height=(h:Int))(hg:h=0∨wkG v.S h s.addr)(hC:wkC v.S h s.addr≤1000000):
  IterH Tryz.prog 137 [.pointer (some ⟨b1,0,none⟩)] (baseS pb d pv v s m op) (baseC b1 pb d pv v s m op) (fun _=>baseC b1 pb d pv v s m op) (baseC b1 pb d pv v s m op) (rowsW (wkE v.S h s.addr)):=by
 refine IterH.of (fun w0 l I J hY w h0 hw=>?_)
 rw [rowsW_length]
 simp only [baseC,baseS,cAp,nAp] at hw hY ⊢
 refine Calls.enterM Tryz.func137 rfl rfl rfl hw ?_
 simp only [argSlots]
 refine Wap ?_
 refine Ws ?_
 (refine Wbx ?_;intro b2)
 refine Ws ?_
 refine Zd (base_may pb d pv s m op false hm) ?_
 refine Ws ?_
 refine Zz 9 false ?_
 refine Ws ?_
 have hwe:=walk_Entries (some pv) s.addr s.height
 refine Wm [blk b1 75 [.pointer (some ⟨pb,0,none⟩)],blk pb 161 (baseL d pv s m op false)] ?_
 refine Wq [0,1,2] ?_
 refine Zm 3 (h:=fun _ _ qK=>by exact Zl qK (hv:=by exact baseL_v hm)) (k:=?_)
 refine Wq [4,5,6,7] ?_
 refine Zm 8 (h:=fun _ _ qK=>by exact Zlg (ys:=rootL s.addr s.height) qK (hv:=by exact baseL_root) (hl:=by rfl)) (k:=?_)
 refine ZA 9 ?_
 refine Zcr hwe ?_
 rintro r2 H2 ⟨pw,b3,b4,rfl,rfl⟩
 refine Wap ?_
 refine Zw ?_
 refine ZE ?_
 refine Ws ?_
 have hit:=entries_iterH pw pv d b3 b4 v hv hl h s.addr hh hg 0 (by omega)
 rw [←hsh] at hit
 simp only [walkCH] at hit
 generalize wkE v.S h s.addr=ES at hit hY ⊢
 refine TriR.rangeH (Sh:= [DSK d v.S]) (α:={ k:Nat//k≤ES.length }) (β:={ k:Nat//k<ES.length }) (γ:=Nat) (fun x=>x.1) (fun y=>y.1)
  (fun x=> [I x.1,blk b1 75 [.pointer (some ⟨pb,0,none⟩)],blk b2 229 [.func (.yield l) #[] #[]],blk pb 161 (baseL d pv s m op false)]) ⟨0,Nat.zero_le _⟩ (fun _=> .ret)
  (fun x=> [J x.1,blk b1 75 [.pointer (some ⟨pb,0,none⟩)],blk pb 161 (baseL d pv s m op false)])
  (fun x z=> [(1, .pointer (some ⟨b1,0,none⟩)),(2, .pointer (some ⟨b2,0,none⟩)),(4, .pointer (some ⟨z,0,none⟩)),(5, .int .i64 0)])
  (fun x z=>blk z 40 (entL (ES.getD x.1 ent0)):: [I x.1,blk b1 75 [.pointer (some ⟨pb,0,none⟩)],blk b2 229 [.func (.yield l) #[] #[]],blk pb 161 (baseL d pv s m op false),DSK d v.S])
  hit rfl rfl Wps ?_ ?_ ?_ ?_ ?_ ?_
 ·intro y hy
  obtain⟨k,_,rfl⟩:=List.mem_map.1 hy
  rfl
 ·intro q hq
  simp at hq
  rcases hq with rfl | rfl<;>rfl
 ·intro lp x vs hvs hq
  obtain⟨e,he,rfl⟩:=rowsW_of hvs
  have hed:ES.getD x.1 ent0=e:=by rw [gDe,he];rfl
  rw [hed]
  simp only [zipL]
  refine Wap ?_
  refine Ws ?_
  refine Zal fun b11=>?_
  refine Ws ?_
  refine ZSa (ys:=entL e) ?_ (h1:=by exact entL_one5 e)
  refine Wo ?_
  exact Zrc b11
 ·rintro lp ⟨k,hk⟩ vs hvs b11 hq
  obtain⟨e,he,rfl⟩:=rowsW_of hvs
  (try dsimp only at he)
  have hed:ES.getD k ent0=e:=by rw [gDe,he];rfl
  have hkl:k<ES.length:=(List.getElem?_eq_some_iff.1 he).1
  have hkl':k+1≤ES.length:=hkl
  refine Wap ?_
  rw [hed]
  refine Ws ?_
  ((with_reducible apply TriR.quietTail 5);(case hB=>kernel_rfl);(case hnd=>rfl);(dsimp only [List.take,List.drop]))
  refine Wqs ?_
  refine Zqo (h:=fun _ qK=>by exact Zla (cs:=entL e) qK (hl:=by rfl)) (k:=?_)
  refine Wqs ?_
  refine Zqo (h:=fun _ qK=>by exact Zcv (base_stoppedR (.pointer (some ⟨pb,0,none⟩)) 0 (by decide)) qK) (k:=?_)
  refine Wqs ?_
  refine Tri.star [I k,blk pb 161 (baseL d pv s m op false),DSK d v.S] Wps ?_
  ((with_reducible apply TriR.yield (hy:=hY k _ hvs));(case hx=>rfl);(case hargs=>(repeat (first | exact evs.nil | (apply evs.cons;(case a=>rfl)))));(case hn=>rfl);(case p=>(first | ((repeat (first | with_reducible exact Pull.head | with_reducible apply Pull.tail));done) | (repeat (first | exact Pull.head | apply Pull.tail)))))
  ·refine Tri.unstar Wp ?_
   refine Wap ?_
   refine Ws ?_
   refine Zz 32 false ?_
   refine Ws ?_
   ((with_reducible apply Tri.rdEndS (y:=⟨k+1,hkl'⟩));(case hk=>rfl);(case p=>((try dsimp only [cAp,nAp]);(repeat (first | exact Pulls.nil | (apply Pulls.cons;(case a=>(first | ((repeat (first | with_reducible exact Gv.Pull.head | with_reducible apply Gv.Pull.tail));done) | (repeat (first | exact Gv.Pull.head | apply Gv.Pull.tail))))))))))
  ·refine Tri.unstar Wp ?_
   refine Wap ?_
   refine Ws ?_
   refine Zz 32 true ?_
   refine Ws ?_
   ((with_reducible apply Tri.rdRetS (y:=⟨k,hkl⟩));(case hj=>exact⟨rfl,rfl⟩);(case p=>((try dsimp only [cAp,nAp]);(repeat (first | exact Pulls.nil | (apply Pulls.cons;(case a=>(first | ((repeat (first | with_reducible exact Gv.Pull.head | with_reducible apply Gv.Pull.tail));done) | (repeat (first | exact Gv.Pull.head | apply Gv.Pull.tail))))))))))
 ·rintro D ⟨k,hk⟩ hy
  have hkE:k=ES.length:=by rw [←rowsW_length ES];exact hy
  subst hkE
  refine Wap ?_
  refine Ws ?_
  (first | with_reducible apply Tri.finM1 | with_reducible apply Tri.finM1N)
  case p=>exact Wp
  case hr=>rfl
  case h=>exact ResL.nil
  exact fun w' hw'=> .inl ⟨(hw'.pulls (As:= [I ES.length,blk pb 161 (baseL d pv s m op false),DSK d v.S,blk b1 75 [.pointer (some ⟨pb,0,none⟩)],blk pv 146 (viewL d v),Ex h0]) Wps).1,Sat.left (hw'.pulls Wps).2⟩
 ·rintro D ⟨k,hk⟩ hy
  refine Wap ?_
  refine Ws ?_
  (first | with_reducible apply Tri.finM1 | with_reducible apply Tri.finM1N)
  case p=>exact Wp
  case hr=>rfl
  case h=>exact ResL.nil
  exact fun w' hw'=> .inr ⟨k,hk,(hw'.pulls (As:= [J k,blk pb 161 (baseL d pv s m op false),DSK d v.S,blk b1 75 [.pointer (some ⟨pb,0,none⟩)],blk pv 146 (viewL d v),Ex h0]) Wps).1,Sat.left (hw'.pulls Wps).2⟩
def chL (S:DS)(x:ENT):List Value:= [.int .i64 x.key.1, .int .i64 x.key.2, .int .i64 x.fin, .string ⟨(txE S x).toArray⟩]
def CL (S:DS)(E:List ENT):List Value:=E.flatMap (chL S)
theorem CL_app (S:DS)(E F:List ENT):CL S (E++F)=CL S E++CL S F:=by simp [CL]
theorem chL_one (S:DS)(x:ENT): ∀y∈chL S x,y.oneCell'=true:=by
 intro y hy
 simp only [chL,List.mem_cons,List.mem_nil_iff,or_false] at hy
 rcases hy with rfl | rfl | rfl | rfl<;>rfl
set_option maxRecDepth 4000 in
theorem law16_all (pb d pv:Nat)(v:VS)(s:SP)(m:BM)(op:Bool)(hm:m.u.length=512)(hv:v.ok)(hon:v.S.on)(hA:v.S.A.length%256=0)(hl:v.S.W.length≤1000000)(h:Nat)(hh:h≤5)(hsh:s.height=(h:Int))(hg:h=0∨wkG v.S h s.addr)(hC:wkC v.S h s.addr≤1000000)(hgen:s.gen≠0)(hlen:(wkE v.S h s.addr).length≤1000000)(ht: ∀x∈wkE v.S h s.addr,TxE v.S x):
  Gv.Spec Tryz.prog 39 #[.pointer (some ⟨pb,0,none⟩)] [blk pb 161 (baseL d pv s m op false),blk pv 146 (viewL d v),DSK d v.S]
  (fun r H'=> ∃A c,r= .tuple #[.slice A (wkE v.S h s.addr).length c, .bool true] ∧H'= [blk pb 161 (baseL d pv s m op false),blk pv 146 (viewL d v),DSK d v.S,own 102 4 (.slice A (wkE v.S h s.addr).length c) (wkE v.S h s.addr).length (CL v.S (wkE v.S h s.addr))]):=by
 refine Gv.Spec.of (fun w h0 hw=>?_)
 refine Calls.enterM Tryz.func39 rfl rfl rfl hw ?_
 simp only [argSlots]
 refine Wap ?_
 have hit:=fun bx=>base_iterH bx pb d pv v s m op hm hv hl h hh hsh hg hC
 generalize wkE v.S h s.addr=ES at hit hlen ht ⊢
 refine Ws ?_
 (refine Wbx ?_;intro b1)
 refine Ws ?_
 refine Zal fun b2=>?_
 refine Ws ?_
 refine Zal fun b3=>?_
 refine Ws ?_
 refine Zal fun b4=>?_
 refine Ws ?_
 refine Zz 11 false ?_
 refine Ws ?_
 refine Zd (base_Super pb d pv s m op false) ?_
 refine Ws ?_
 refine Zv 13 (.agg (spL s).toArray) ?_ (hv:=by rfl)
 refine Zofield (t:=22) (v:= .int .u64 (s.gen:Int)) ?_ (hu:=by exact Tryz.underlying83)
 refine Ws ?_
 refine Zz 16 false ?_ (hi:=by exact dFf (by omega))
 refine Ws ?_
 refine Zcr (base_Entries pb) ?_
 rintro r2 H2 ⟨bx,rfl,rfl⟩
 refine Wap ?_
 refine Ws ?_
 have hit:=hit bx
 simp only [baseC,baseS] at hit
 (with_reducible apply Tri.ownNil 102 4)
 refine Zat (own 102 4 (.slice none 0 0) 0 []) (own 102 4 (.slice none 0 0) 0 (CL v.S (ES.take 0))) ?_
 refine TriR.rangeH (Sh:= [blk pb 161 (baseL d pv s m op false),DSK d v.S]) (α:=Σ' (k:Nat) (_:Option Addr) (_:Nat),k≤ES.length) (β:=Empty) (γ:=Nat) (fun x=>x.1) (fun y=>y.elim)
  (fun x=> [blk b1 75 [.pointer (some ⟨pb,0,none⟩)],blk b4 94 [.slice x.2.1 x.1 x.2.2.1],own 102 4 (.slice x.2.1 x.1 x.2.2.1) x.1 (CL v.S (ES.take x.1))]) ⟨0,none,0,Nat.zero_le _⟩ (fun _=> .ret)
  (fun x=> [])
  (fun x z=> [(1, .pointer (some ⟨b1,0,none⟩)),(4, .pointer (some ⟨b4,0,none⟩)),(5, .pointer (some ⟨z,0,none⟩)),(6, .int .i64 0)])
  (fun x z=>blk z 40 (entL (ES.getD x.1 ent0)):: [blk b1 75 [.pointer (some ⟨pb,0,none⟩)],blk b4 94 [.slice x.2.1 x.1 x.2.2.1],own 102 4 (.slice x.2.1 x.1 x.2.2.1) x.1 (CL v.S (ES.take x.1)),blk pb 161 (baseL d pv s m op false),DSK d v.S])
  hit rfl rfl Wps ?_ ?_ ?_ ?_ ?_ ?_
 ·intro y hy
  obtain⟨k,_,rfl⟩:=List.mem_map.1 hy
  rfl
 ·intro q hq
  simp at hq
  rcases hq with rfl | rfl<;>rfl
 ·intro lp x vs hvs hq
  obtain⟨e,he,rfl⟩:=rowsW_of hvs
  have hed:ES.getD x.1 ent0=e:=by rw [gDe,he];rfl
  rw [hed]
  simp only [zipL]
  refine Wap ?_
  refine Ws ?_
  refine Zal fun b11=>?_
  refine Ws ?_
  refine ZSa (ys:=entL e) ?_ (h1:=by exact entL_one5 e)
  refine Wo ?_
  exact Zrc b11
 ·rintro lp ⟨k,A,c,hk⟩ vs hvs b11 hq
  obtain⟨e,he,rfl⟩:=rowsW_of hvs
  (try dsimp only at he)
  have hed:ES.getD k ent0=e:=by rw [gDe,he];rfl
  have hkl:k<ES.length:=(List.getElem?_eq_some_iff.1 he).1
  have hkl':k+1≤ES.length:=hkl
  have hte:=ht e (List.mem_of_getElem? he)
  have hby:=base_Bytes pb d pv v.S s m op e hm hv.S hon.2.1 hA hl hte
  have htk:CL v.S (ES.take k)++chL v.S e=CL v.S (ES.take (k+1)):=by
   rw [List.take_add_one,he,CL_app];simp [CL]
  refine Wap ?_
  rw [hed]
  refine Ws ?_
  refine Zz 22 false ?_
  refine Ws ?_
  refine Zla (cs:=entL e) ?_ (hl:=by rfl)
  refine Ws ?_
  refine Zcs hby ?_
  rintro r3 H3 ⟨At,h1,rfl,hrd,hln,rfl⟩
  refine Wap ?_
  refine Ws ?_
  refine Zz 30 false ?_
  refine Ws ?_
  refine Zbs (l:=txE v.S e) ?_ (he:=by exact Tryz.underlying5) (hr:=by exact rdw_ex Wp hrd)
  refine Ws ?_
  refine Zbu (ys:=chL v.S e) ?_
  refine Ws ?_
  (refine Zli (ys:=chL v.S e) ?_;intro vl)
  refine Ws ?_
  refine Zap (m2:=1) (news:=chL v.S e) ?_ (hr:=by exact rdw_own (v:=vl) Wp) (hl:=by rfl) (h1:=by exact chL_one v.S e)
  intro vr
  (refine Tri.shape (e:=102) (size:=4) (v:=vr) Wp ?_;rintro ⟨A2,c2,rfl⟩)
  refine Ws ?_
  refine ZS ?_ (hi:=by exact(by decide:0<1))
  refine Zat (own 102 4 (.slice A2 (k+1) c2) _ _) (own 102 4 (.slice A2 (k+1) c2) (k+1) (CL v.S (ES.take (k+1)))) ?_ (e:=by rw [htk])
  refine Zat (blk b4 _ _) (blk b4 94 [.slice A2 (k+1) c2]) ?_
  refine Ws ?_
  ((with_reducible apply Tri.rdEndS (y:=⟨k+1,A2,c2,hkl'⟩));(case hk=>rfl);(case p=>((try dsimp only [cAp,nAp]);(repeat (first | exact Pulls.nil | (apply Pulls.cons;(case a=>(first | ((repeat (first | with_reducible exact Gv.Pull.head | with_reducible apply Gv.Pull.tail));done) | (repeat (first | exact Gv.Pull.head | apply Gv.Pull.tail))))))))))
 ·rintro D ⟨k,A,c,hk⟩ hy
  have hkE:k=ES.length:=by rw [←rowsW_length ES];exact hy
  have htk2:ES.take k=ES:=List.take_of_length_le (by omega)
  refine Wap ?_
  rw [htk2]
  refine Ws ?_
  refine ZS ?_ (hi:=by exact(by decide:0<1))
  refine Ws ?_
  refine ZS ?_ (hi:=by exact(by decide:0<1))
  refine Ws ?_
  subst hkE
  ((first | with_reducible apply Tri.finM1 | with_reducible apply Tri.finM1N);(case p=>(first | ((repeat (first | with_reducible exact Pull.head | with_reducible apply Pull.tail));done) | (repeat (first | exact Pull.head | apply Pull.tail))));(case hr=>rfl);(case h=>exact ResL.cons (Res1.cell rfl Wp rfl) (ResL.cons (Res1.cell rfl Wp rfl) (ResL.nil)));(apply fin_R (Hn:= [blk pb 161 (baseL d pv s m op false),blk pv 146 (viewL d v),DSK d v.S,own 102 4 (.slice A ES.length c) ES.length (CL v.S ES)]));(case p=>exact(by(repeat (first | exact Pulls.nil | (apply Pulls.cons;(case a=>(first | ((repeat (first | with_reducible exact Gv.Pull.head | with_reducible apply Gv.Pull.tail));done) | (repeat (first | exact Gv.Pull.head | apply Gv.Pull.tail)))))))));exact⟨A,c,rfl,rfl⟩)
 ·rintro D ⟨⟩
theorem baseL_one (d pv:Nat)(s:SP)(m:BM)(op en:Bool): ∀y∈baseL d pv s m op en,y.oneCell'=true:=by
 intro y hy
 rw [baseL] at hy
 rcases List.mem_append.1 hy with h | h
 ·exact tabL_one y h
 ·rcases List.mem_cons.1 h with rfl | h
  ·rfl
  ·rcases List.mem_append.1 h with h | h
   ·exact spL_one s y h
   ·rcases List.mem_append.1 h with h | h
    ·exact bmL_one m y h
    ·simp only [baseT,List.mem_cons,List.mem_nil_iff,or_false] at h
     rcases h with rfl | rfl | rfl<;>rfl
set_option maxRecDepth 4000 in
theorem txn_Commit (pt pb tv d pv:Nat)(v:VS)(a:Int)(h:Nat)(s:SP)(m m1 m2:BM)(op:Bool)(t:Nat)(G:CmG v s m m1 m2 a h t):
  Gv.Spec Tryz.prog 32 #[.pointer (some ⟨pt,0,none⟩)] [blk pt 163 (txL pb tv a (h:Int) false),blk pb 161 (baseL d pv s m op false),blk tv 146 (viewL d v),DSK d v.S]
  (fun r H'=> ∃pv',r= .int .i64 0∧H'= [blk pt 163 (txL pb tv a (h:Int) true),blk pb 161 (baseL d pv' (spN s a h t) m2 false false),blk pv' 146 (viewL d ⟨cmS v.S (spN s a h t) m2,s.gen+1,m2,m2⟩),DSK d (cmS v.S (spN s a h t) m2)]):=by
 obtain⟨hv,hl,hm,hm1,hm2,hg,gv,tk,e1,e2,o2,l2,e3,o3,l3,e4,o4,rm,pm⟩:=G
 refine Gv.Spec.of (fun w h0 hw0=>?_)
 refine Calls.enter Tryz.func32 rfl rfl rfl hw0 ?_
 simp only [argSlots]
 refine Wap ?_
 have hgv:=bm_Give v.m s.bitmap 1 hv.m
 rw [gv] at hgv
 have htk:=bm_Take m1 m 1 hm1 hm
 rw [tk] at htk
 obtain⟨s',hs'⟩: ∃s',s'=spN s a h t:=⟨_,rfl⟩
 have hgs:s'.gen=s.gen+1:=by rw [hs'];rfl
 have hcm:cmS v.S s' m2=(wrS (wrPg v.S (mpP (t:Int) (s.gen+1) m2)).1.fl.1 s').1.fl.1:=by rw [hs'];rfl
 rw [←hs'] at e3 o3 l3 e4 o4 pm ⊢
 rw [hcm] at o4 pm ⊢
 have hpl:(putM m2).length≤1000000:=by
  have hr:=rightM_spec rm
  rw [putM,if_pos rm,putTo_length];omega
 have hwm:=txn_writeMap d v.S (t:Int) (s.gen+1) m2 hm2 hg hv.S (by omega) hpl
 have o1:=wrPg_ok hv.S (mpP (t:Int) (s.gen+1) m2)
 have l1:=wrPg_len v.S (mpP (t:Int) (s.gen+1) m2)
 obtain⟨R1,hR1⟩: ∃R1,R1=wrPg v.S (mpP (t:Int) (s.gen+1) m2):=⟨_,rfl⟩
 rw [←hR1] at hwm e1 e2 o2 l2 e3 o3 l3 e4 o4 pm o1 l1 ⊢
 have hf1:=disk_FlushD d R1.1 o1 (by omega)
 obtain⟨R2,hR2⟩: ∃R2,R2=R1.1.fl:=⟨_,rfl⟩
 rw [←hR2] at hf1 e2 o2 l2 e3 o3 l3 e4 o4 pm ⊢
 have hsw:=super_Write d R2.1 s' (by omega) o2 (by omega)
 obtain⟨R3,hR3⟩: ∃R3,R3=wrS R2.1 s':=⟨_,rfl⟩
 rw [←hR3] at hsw e3 o3 l3 e4 o4 pm ⊢
 have hf2:=disk_FlushD d R3.1 o3 (by omega)
 obtain⟨R4,hR4⟩: ∃R4,R4=R3.1.fl:=⟨_,rfl⟩
 rw [←hR4] at hf2 e4 o4 pm ⊢
 rw [←hgs] at o4
 have hba:=txn_based d R4.1 s' m2 o4 rm pm
 rw [hgs] at hba
 refine Ws ?_
 refine Zd (txn_may pt pb tv d pv a (h:Int) false s m op false hm) ?_
 refine Ws ?_
 refine Zz 17 false ?_
 refine Ws ?_
 refine Wm [blk pt 163 (txL pb tv a (h:Int) false),blk pb 161 (baseL d pv s m op false)] ?_
 refine Wq [0,1,2,3,5,6,7,8] ?_
 refine Zm 9 (h:=fun _ _ qK=>by exact Zl qK (hv:=by exact baseL_bit)) (k:=?_)
 refine ZA2 4 14 ?_ ?_
 refine Zd (view_Map tv d v hv) ?_
 refine Zw ?_
 refine Zm 10 (h:=fun _ _ qK=>by exact Zcv hgv qK) (k:=?_)
 refine Wq [11,12,13] ?_
 refine ZA 14 ?_
 refine Zal fun b5=>?_
 refine Zw ?_
 refine ZA 15 ?_
 refine ZSa (ys:=bmL m1) ?_ (hl:=by exact bmL_len hm1) (hc:=by exact z513g) (h1:=by exact bmL_one _)
 refine Zw ?_
 refine Wq [16] ?_
 refine ZE ?_
 refine Ws ?_
 refine Zz 38 false ?_
 rotate_left
 refine Zal fun b5=>?_
 refine Zw ?_
 refine ZA 4 ?_
 refine Zd (view_Map tv d v hv) ?_
 refine Zw ?_
 refine Zm 10 (h:=fun _ _ qK=>by exact Zcv hgv qK) (k:=?_)
 refine Wq [11,12,13] ?_
 refine ZA 15 ?_
 refine ZSa (ys:=bmL m1) ?_ (hl:=by exact bmL_len hm1) (hc:=by exact z513g) (h1:=by exact bmL_one _)
 refine Zw ?_
 refine Wq [16] ?_
 refine ZE ?_
 refine Ws ?_
 refine Zz 38 false ?_
 rotate_left
 all_goals
  refine Ws ?_
  refine Znm 10 [blk pb 161 (baseL d pv s m op false)] [blk pb 161 (baseL d pv s m op false),blk b5 60 (bmL m1)] ?_
  refine Zn 0 (h:=fun _ _ qK=>by exact Zla (cs:=bmL m1) qK (hl:=by exact bmL_len hm1)) (k:=?_)
  refine Wnq [1,2,3] ?_
  refine Zn 4 (h:=fun _ _ qK=>by exact Zlg qK (hv:=by exact baseL_m hm) (hl:=by exact bmL_len hm)) (k:=?_)
  refine Zn 5 (h:=fun _ _ qK=>by exact Zcv htk qK) (k:=?_)
  refine Wnq [6,7] ?_
  refine Wnp [8,9] ?_
  refine Znl ?_
  refine ZSa (ys:=bmL m2) ?_ (hl:=by exact bmL_len hm2) (hc:=by exact bmL_len hm1) (h1:=by exact bmL_one _)
  refine Zw ?_
  refine Wq [11,12] ?_
  refine ZE ?_
  refine Ws ?_
  refine Zz 51 false ?_
  refine Ws ?_
  refine Wm [blk pt 163 (txL pb tv a (h:Int) false),blk pb 161 (baseL d pv s m op false)] ?_
  refine Wq [0,1,2,3] ?_
  refine Zm 4 (h:=fun _ _ qK=>by exact Zl qK (hv:=by exact baseL_gen)) (k:=?_)
  refine Wq [5,6,7,8] ?_
  refine ZMi 60 ((s.gen+1:Nat):Int) ?_ (hi:=by exact(wrap_u64 (by omega)).trans (by omega))
  refine Zm 9 (h:=fun _ _ qK=>by exact Zlg (ys:=rootL a (h:Int)) qK (hl:=by rfl)) (k:=?_)
  refine Wq [10,11,12,13,14] ?_
  refine Zm 15 (h:=fun _ _ qK=>by exact Zl qK (hv:=by exact baseL_pages)) (k:=?_)
  refine Zm 16 (h:=fun _ _ qK=>by exact Zbu (ys:= [.int .u64 ((s.gen+1:Nat):Int), .int .i64 a, .int .i64 (h:Int), .int .i64 (t:Int), .int .i64 s.pages]) qK) (k:=?_)
  refine ZA 17 ?_
  refine Zal fun b8=>?_
  refine Zw ?_
  refine ZA 18 ?_
  refine ZSa (ys:= [.int .u64 ((s.gen+1:Nat):Int), .int .i64 a, .int .i64 (h:Int), .int .i64 (t:Int), .int .i64 s.pages]) ?_ (h1:=by exact spL_one ⟨s.gen+1,a,(h:Int),(t:Int),s.pages⟩)
  refine Zw ?_
  refine ZE ?_
  (with_reducible refine Tri.thenN ?_)
  (refine Wme (α:=Unit) (fun _=> [(0, .pointer (some ⟨pt,0,none⟩)),(4, .pointer (some ⟨pb,0,none⟩)),(5, .pointer (some ⟨b5,0,none⟩)),(7, .int .i64 (t:Int)),(8, .pointer (some ⟨b8,0,none⟩))]) (fun _=> [blk b8 83 (spL s'),blk b5 60 (bmL m2),blk pt 163 (txL pb tv a (h:Int) false),blk pb 161 (baseL d pv s m op false),blk tv 146 (viewL d v),DSK d v.S,Ex h0]) ?_ ?_;rotate_left;rintro x;(try dsimp only);rotate_left)
  ·refine Ws ?_
   by_cases h00:h=0
   ·have hsp:spL s'= [.int .u64 ((s.gen+1:Nat):Int), .int .i64 0, .int .i64 0, .int .i64 (t:Int), .int .i64 s.pages] :=by rw [hs',spN,if_pos h00,h00];rfl
    refine Zz 75 true ?_ (hi:=by exact dTt (by omega))
    refine Ws ?_
    refine ZSg (ys:= [.int .i64 0, .int .i64 0]) ?_ (h1:=by exact two_int _ _) (hi:=by exact(by decide:1+2≤5))
    refine Zat (blk b8 _ _) (blk b8 83 (spL s')) ?_ (e:=by rw [hsp];rfl)
    refine Ws ?_
    exact Zrc ()
   ·have hsp:spL s'= [.int .u64 ((s.gen+1:Nat):Int), .int .i64 a, .int .i64 (h:Int), .int .i64 (t:Int), .int .i64 s.pages] :=by rw [hs',spN,if_neg h00];rfl
    refine Zz 75 false ?_ (hi:=by exact dFf (by omega))
    refine Ws ?_
    refine Zat (blk b8 _ _) (blk b8 83 (spL s')) ?_ (e:=by rw [hsp])
    exact Zrc ()
  ·refine Ws ?_
   refine Wm [blk pb 161 (baseL d pv s m op false),blk b8 83 (spL s'),blk b5 60 (bmL m2)] ?_
   refine Wq [0,1,2] ?_
   refine Zm 3 (h:=fun _ _ qK=>by exact Zlg qK (hv:=by exact baseL_tab d pv s m op false) (hl:=by exact tabL_length)) (k:=?_)
   refine Wq [4,5,6] ?_
   refine Zm 7 (h:=fun _ _ qK=>by exact Zl qK (hv:=by exact baseL_d)) (k:=?_)
   refine Wq [8,9] ?_
   refine Zm 10 (h:=fun _ _ qK=>by exact Zl (v:= .int .u64 ((s.gen+1:Nat):Int)) qK (hv:=by rw [hs'];rfl)) (k:=?_)
   refine Zm 11 (h:=fun _ _ qK=>by exact Zla (cs:=bmL m2) qK (hl:=by exact bmL_len hm2)) (k:=?_)
   refine ZA 12 ?_
   refine Zd hwm ?_
   refine Zw ?_
   refine Wq [13] ?_
   refine ZE ?_
   refine Ws ?_
   refine Zz 92 false ?_ (hi:=by rw [e1];rfl)
   refine Ws ?_
   refine Zd hf1 ?_
   refine Ws ?_
   refine Zz 102 false ?_ (hi:=by rw [e2];rfl)
   refine Ws ?_
   refine Wm [blk pb 161 (baseL d pv s m op false),blk b8 83 (spL s')] ?_
   refine Wq [0,1,2] ?_
   refine Zm 3 (h:=fun _ _ qK=>by exact Zlg qK (hv:=by exact baseL_tab d pv s m op false) (hl:=by exact tabL_length)) (k:=?_)
   refine Wq [4,5,6] ?_
   refine Zm 7 (h:=fun _ _ qK=>by exact Zl qK (hv:=by exact baseL_d)) (k:=?_)
   refine Zm 8 (h:=fun _ _ qK=>by exact Zla (cs:=spL s') qK (hl:=by rfl)) (k:=?_)
   refine ZA 9 ?_
   refine Zd hsw ?_
   refine Zw ?_
   refine Wq [10] ?_
   refine ZE ?_
   refine Ws ?_
   refine Zz 117 false ?_ (hi:=by rw [e3];rfl)
   refine Ws ?_
   refine Zd hf2 ?_
   refine Ws ?_
   refine Zz 127 false ?_ (hi:=by rw [e4];rfl)
   refine Ws ?_
   refine Wm [blk pb 161 (baseL d pv s m op false),blk b8 83 (spL s'),blk b5 60 (bmL m2)] ?_
   refine Wq [0,1,2] ?_
   refine Zm 3 (h:=fun _ _ qK=>by exact Zlg qK (hv:=by exact baseL_tab d pv s m op false) (hl:=by exact tabL_length)) (k:=?_)
   refine Wq [4,5,6] ?_
   refine Zm 7 (h:=fun _ _ qK=>by exact Zl qK (hv:=by exact baseL_d)) (k:=?_)
   refine Zm 8 (h:=fun _ _ qK=>by exact Zla (cs:=spL s') qK (hl:=by rfl)) (k:=?_)
   refine Zm 9 (h:=fun _ _ qK=>by exact Zla (cs:=bmL m2) qK (hl:=by exact bmL_len hm2)) (k:=?_)
   refine ZA 10 ?_
   refine Zcs hba ?_
   rintro r9 H9 ⟨pb2,pv2,rfl,rfl⟩
   refine Wap ?_
   refine Zw ?_
   refine Wq [11,12,13,14,15] ?_
   refine ZE ?_
   refine Ws ?_
   refine Zz 146 false ?_
   refine Ws ?_
   refine Zla (cs:=baseL d pv2 s' m2 false false) ?_ (hl:=by exact baseL_len hm2)
   refine Ws ?_
   refine ZSa (ys:=baseL d pv2 s' m2 false false) ?_ (hl:=by exact baseL_len hm2) (hc:=by exact baseL_len hm) (h1:=by exact baseL_one _ _ _ _ _ _)
   refine Ws ?_
   refine ZS ?_ (hi:=by exact(by decide:4<5))
   refine Zat (blk pt _ _) (blk pt 163 (txL pb tv a (h:Int) true)) ?_
   refine Ws ?_
   exact Zfn [blk pt 163 (txL pb tv a (h:Int) true),blk pb 161 (baseL d pv2 s' m2 false false),blk pv2 146 (viewL d ⟨R4.1,s.gen+1,m2,m2⟩),DSK d R4.1] (hq:=by exact⟨pv2,rfl,rfl⟩)
def mu4 (h:Nat):Nat:=if h=1 then 4 else 1
theorem mu4_lim (h:Nat):mu4 (h+1)≤limN h:=by
 rw [mu4,limN]
 by_cases c:h=0
 ·rw [if_pos (by omega),if_pos c];decide
 ·rw [if_neg (by omega),if_neg c];decide
theorem low_sum {S:DS}{h:Nat}: ∀(D:List Int),(∀d∈D,4≤(wkE S h d).length)→4*D.length≤(D.flatMap (wkE S h)).length
 | [],_=>Nat.zero_le _
 | d::D,hd=>by
  have h1:=hd d (List.mem_cons_self ..)
  have h2:=low_sum D (fun z hz=>hd z (mCm _ hz))
  rw [List.flatMap_cons,lAp,lCn];omega
theorem low4 {S:DS}{k:Nat}: ∀(h:Nat) (a:Int),tkG S k mu4 h (mu4 h) a→4≤(wkE S h a).length
 | 0,_,g=>g.elim
 | h+1,a,g=>by
  obtain⟨_,_,_,g3,⟨g4,g5,g6⟩,g7,g8⟩:=g
  rw [wkE,lAp]
  by_cases h0:h=0
  ·subst h0
   have:4≤(rdN S a (decide (0=0))).E.length:=g5
   omega
  ·rw [dFf h0] at g4 g7 ⊢
   have h1:1≤(rdN S a false).D.length:=g4
   have h2:=low_sum _ (fun d hd=>low4 h d (g7 d hd))
   omega
theorem ti_low {k:Nat}{O R:List Nat}{v:VS}{a:Int}{h:Nat}{E:List ENT}(ti:TI k mu4 O R v a h E)(hE:E.length≤7):h≤1:=by
 rcases ti.g with h0 | g
 ·omega
 ·rcases h with _ | _ | h
  ·omega
  ·omega
  ·have hEe:=ti.ents
   obtain⟨_,_,_,g3,⟨g4,g5,g6⟩,g7,g8⟩:=g
   have hd1:decide (h+1=0)=false:=rfl
   rw [hd1] at g5 g7
   have h1:2≤(rdN v.S a false).D.length:=by
    rw [rmin,if_neg (by omega)] at g5
    exact g5
   have h2:=low_sum _ (fun d hd=>low4 (h+1) d (g7 d hd))
   rw [wkE,hd1] at hEe
   have h3:=congrArg List.length hEe
   rw [lAp] at h3
   omega
def gX:ENT:=⟨(1,5),6,2,9,2,0,0⟩
theorem fre_all (k:Nat)(h:2≤k):Fre k [] [] (k-2):=by
 refine⟨List.range' 2 (k-2),List.length_range',List.nodup_range',fun i hi=>⟨?_,List.not_mem_nil,List.not_mem_nil⟩⟩
 have:=List.mem_range'_1.1 hi
 omega
theorem fre_cons {k n:Nat}: ∀U:List Nat,Fre k [] [] (n+U.length)→Fre k U [] n
 | [],h=>h
 | t::U,h=>Fre.cons (fre_cons U (by rw [lCn] at h;rw [show n+1+U.length=n+(U.length+1) by omega];exact h))
theorem fre_few {k n:Nat}{U O:List Nat}(h:n+U.length+O.length+2≤k):Fre k U O n:=by
 obtain⟨l,h1,h2,h3⟩:=fre_cons (n:=n) (U++O) ((fre_all k (by omega)).le (by rw [lAp];omega))
 exact⟨l,h1,h2,fun i hi=>⟨(h3 i hi).1,fun c=>(h3 i hi).2.1 (mAl _ c),fun c=>(h3 i hi).2.1 (mAr _ c)⟩⟩
theorem wkC_pg (S:DS): ∀(h:Nat) (a:Int),wkC S h a=(pgN S h a).length
 | 0,_=>rfl
 | h+1,a=>by
  rw [wkC,pgN,lCn,Nat.add_comm]
  congr 1
  have e:wkC S h=fun d=>(pgN S h d).length:=funext (wkC_pg S h)
  rw [e,List.length_flatMap]
theorem pg_one (S:DS)(a:Int):(pgN S 1 a).length=1:=by
 have e:(rdN S a (decide (0=0))).D.flatMap (pgN S 0)= [] :=by
  rw [List.flatMap_eq_nil_iff];intro d _;rfl
 rw [pgN,e];rfl
theorem fm_cmt {k:Nat}(mu:Nat→Nat)(h:8≤k∧k≤512):CMT k mu (fmS k) (spF k) (fm1 k) 2 0 [] :=
 ⟨(fm_spec h).cm,rfl,rfl, .inl rfl,rfl,⟨List.Pairwise.nil,(fun e he=>by cases he)⟩,by decide,(fun x hx=>by cases hx)⟩
theorem fm_free {k:Nat}(h:8≤k∧k≤512):freeM (fm1 k)=k-3:=by
 have:=(fm_spec h).cm.mok.free
 simp only [lCn,List.length_nil] at this
 omega
def xS:ENT:=⟨(1,0),0,0,0,1,0,0⟩
def tS:List UInt8:= [97,98,99]
theorem stays_spec {S:DS}{m:BM}{s:SP}{k:Nat}(c0:CMT k mu4 S s m 2 0 [])(hk16:16≤k)(hg1:s.gen+1<1000000000)(ha0:s.addr=0): ∃t m2 v2 a2 h2 t3 m3 m4,PutR k mu4 S s m 2 0 [] ⟨S,s.gen+1,m,m⟩ s.addr 0 [] xS tS t m2 v2 a2 h2∧CmG v2 s m m3 m4 a2 h2 t3∧
  CMT k mu4 (cmS v2.S (spN s a2 h2 t3) m4) (spN s a2 h2 t3) m4 t3 h2 [entT xS (t:Int) tS] ∧txE (cmS v2.S (spN s a2 h2 t3) m4) (entT xS (t:Int) tS)=tS:=by
 have X0:=c0.begin
 have hU:bsU S s 2 0 [] = [2] :=rfl
 have hW0:S.W.length≤5000:=c0.cm.W.1
 have htl:(tS.length+255)/256=1:=by decide
 rcases put_spec (x:=xS) (text:=tS) mu4_lim X0 (by decide) ⟨⟨by decide,by decide⟩,⟨by decide,by decide⟩⟩ (by decide) with ⟨t,m2,v2,a2,h2,P⟩ | ⟨_,hno⟩ | ⟨t,m2,_,_,hF⟩
 ·have hE:insE [] (entT xS (t:Int) tS)= [entT xS (t:Int) tS] :=rfl
  have X2:=P.xi
  rw [hE] at X2
  have hW:=P.W
  rw [htl] at hW
  have hW':v2.S.W.length≤5064:=by
   have e:(⟨S,s.gen+1,m,m⟩:VS).S.W.length≤5000:=hW0
   omega
  rcases commit_spec X2 (Nat.le_trans hW' (by decide)) hg1 with ⟨t3,m3,m4,C,D,_,T⟩ | ⟨_,_,_,_,hF⟩
  ·exact⟨t,m2,v2,a2,h2,t3,m3,m4,P,C,D,by rw [T _ (List.mem_singleton.2 rfl)];exact P.txt⟩
  ·refine absurd (fre_few ?_) hF
   have hlow:h2≤1:=ti_low X2.ti (by show 1≤7;decide)
   have hp:(pgN v2.S h2 a2).length≤1:=by
    rcases(show h2=0∨h2=1 by omega) with q | q
    ·rw [q];exact Nat.zero_le _
    ·rw [q,pg_one];exact Nat.le_refl _
   have htx:(txs [entT xS (t:Int) tS]).length=1:=by
    show (txP (entT xS (t:Int) tS)++ []).length=1
    rw [List.append_nil,txP,runL,List.length_range',nE_T,htl]
   rw [lAp,hU,htx]
   show 1+((pgN v2.S h2 a2).length+1)+1+2≤k
   omega
 ·refine absurd (fun i h1 h2=>?_) (hno 3 (by rw [htl];omega))
  rw [htl] at h2
  have hi:i=3:=by omega
  show bothAt m m i=false
  cases hb:bothAt m m i with
  | false=>rfl
  | true=>
   rcases(both_use c0.cm.mok c0.cm.mok i).1 hb with q | q | q
   ·rw [hi] at q;exact absurd q (by decide)
   ·rw [hU,hi] at q;exact absurd q (by decide)
   ·rw [hU,hi] at q;exact absurd q (by decide)
 ·rcases hF with hF | hF
  ·refine absurd (fre_few ?_) hF
   rw [hU,htl]
   simp only [pgN,lAp,runL,List.length_range',lCn,List.length_nil,txs,List.flatMap_nil]
   omega
  ·cases hF
theorem CMT.walk {k:Nat}{mu:Nat→Nat}{S:DS}{s:SP}{m:BM}{b h:Nat}{E:List ENT}(c:CMT k mu S s m b h E):(h=0∨wkG S h s.addr)∧wkC S h s.addr≤1000000∧(wkE S h s.addr).length≤1000000:=by
 have hk:=c.cm.k8
 have hf:=c.cm.mok.free
 rw [bsU,lAp] at hf
 refine⟨c.g.imp id (fun tg=>tk_wkG hk.2 h (rmin h) s.addr tg),by rw [wkC_pg];omega, ?_⟩
 rcases c.g with h0 | tg
 ·subst h0;exact Nat.zero_le _
 ·have h1:=tk_len h (rmin h) s.addr tg
  omega
theorem txn_PutX {k:Nat}{mu:Nat→Nat}{S0:DS}{s:SP}{m:BM}{b h0:Nat}{E0:List ENT}{v:VS}{a:Int}{h:Nat}{E:List ENT}{x:ENT}{text:List UInt8}{t:Nat}{m2:BM}{v2:VS}{a2:Int}{h2:Nat}(hmu: ∀h,mu (h+1)≤limN h)(X:TXI k mu S0 s m b h0 E0 v a h E)(P:PutR k mu S0 s m b h0 E0 v a h E x text t m2 v2 a2 h2)
  (hok:entOk (entT x 2 text)=true) (hR:i64R x.key.2∧i64R x.fin) (hc:chkE E x=0) (hW:v.S.W.length≤500000) (pt pb tv d pv:Nat) (op:Bool) (tx:Value) (h1:PH) (hrd:Rd h1 tx text.length (B8 text)):
  Gv.Spec Tryz.prog 38 #[.pointer (some ⟨pt,0,none⟩),entV x,tx] [blk pt 163 (txL pb tv a (h:Int) false),blk pb 161 (baseL d pv s m op false),blk tv 146 (viewL d v),DSK d v.S,Ex h1]
  (fun r H'=>r= .int .i64 0∧H'= [blk pt 163 (txL pb tv a2 (h2:Int) false),blk pb 161 (baseL d pv s m op false),blk tv 146 (viewL d v2),DSK d v2.S,Ex h1]):=by
 have T:=P.mid
 have hv:=X.ti.vg
 have hbd:=(ent_bounds hok).2.1
 have hl:(entT x 2 text).len=(text.length:Int):=rfl
 rw [hl] at hbd
 have hpn:pagesE (text.length:Int)=(((text.length+255)/256:Nat):Int):=by rw [pagesE];omega
 have hk:=hv.k8
 have hfit:=T.fit
 have hom:m.u.length=512:=by rw [←X.old];exact hv.o.len
 have hT:=T.tk
 rw [X.old, ←hpn] at hT
 have hcr:(crcSum text).toNat<4294967296:=(crcSum text).toNat_lt
 have hTW:=T.W
 have hf:=hv.m.free
 rw [lAp] at hf
 have hlen:(wkE v.S h a).length≤1000000:=by
  rcases X.ti.g with q | tg
  ·subst q;exact Nat.zero_le _
  ·have h1:=tk_len h (rmin h) a tg
   omega
 refine txn_Put pt pb tv d pv v a h s m op x tx text h1 hrd m2 t v2 a2 h2 hv.ok (by omega) hom X.ti.h5 (X.ti.g.imp id (fun tg=>tk_wkG hk.2 h (rmin h) a tg)) hlen hok (by rw [X.ti.ents];exact hc) hT T.len T.rm T.p (by omega) T.w ?_ P.i
 exact iG_of hmu T.ti (entT_ok hok hfit.1 (by rw [hpn];omega)) ⟨hR.1,hR.2,hcr⟩ (by omega)
theorem law16_allX {k:Nat}{mu:Nat→Nat}{S:DS}{s:SP}{m:BM}{b h:Nat}{E:List ENT}(c:CMT k mu S s m b h E)(pb d pv:Nat)(g:Nat)(hg:g<1000000000)(op:Bool):
  Gv.Spec Tryz.prog 39 #[.pointer (some ⟨pb,0,none⟩)] [blk pb 161 (baseL d pv s m op false),blk pv 146 (viewL d ⟨S,g,m,m⟩),DSK d S]
  (fun r H'=> ∃A cc,r= .tuple #[.slice A E.length cc, .bool true] ∧H'= [blk pb 161 (baseL d pv s m op false),blk pv 146 (viewL d ⟨S,g,m,m⟩),DSK d S,own 102 4 (.slice A E.length cc) E.length (CL S E)]):=by
 obtain⟨w1,w2,w3⟩:=c.walk
 have hs:=okS_spec c.cm.sok
 have hal:=law16_all pb d pv ⟨S,g,m,m⟩ s m op c.cm.mok.len (c.cm.view g (by omega)).ok c.cm.on (by show S.A.length%256=0;rw [c.cm.len,Nat.mul_mod_left]) (by show S.W.length≤1000000;have:=c.cm.W.1;omega) h c.h5 c.hh w1 w2 hs.1 w3 (by
  intro x hx
  have hx':x∈wkE S h s.addr:=hx
  rw [c.ents] at hx'
  exact c.tx x hx')
 have e:wkE (⟨S,g,m,m⟩:VS).S h s.addr=E:=c.ents
 rw [e] at hal
 exact hal
set_option maxRecDepth 4000 in
theorem law16_stays:SpecR Tryz.prog 30 #[] (fun _=>True) (fun r H'=>r= .bool true∧H'= []):=by
 refine SpecR.of (fun w _=>?_)
 refine Calls.enter Tryz.func30 rfl rfl rfl (St.rebase w) ?_
 simp only [argSlots]
 have h8:8≤16∧16≤512:=by decide
 have hfr:=fm_free h8
 have hfo:=fun d=>txn_Format d 16 h8
 have c0:=fm_cmt mu4 h8
 have hs0:spF 16=⟨1,0,0,2,16⟩:=rfl
 obtain⟨S,hS⟩: ∃S,S=fmS 16:=⟨_,rfl⟩
 obtain⟨m,hm⟩: ∃m,m=fm1 16:=⟨_,rfl⟩
 obtain⟨s,hs⟩: ∃s,s=spF 16:=⟨_,rfl⟩
 rw [←hS, ←hm, ←hs] at c0
 rw [←hm] at hfr
 simp only [←hS, ←hm, ←hs] at hfo
 rw [←hs] at hs0
 have hsg:s.gen=1:=by rw [hs0]
 have hsa:s.addr=0:=by rw [hs0]
 have hsh:s.height=0:=by rw [hs0]
 obtain⟨t,m2,v2,a2,h2,t3,m3,m4,P,C,D,T⟩:=stays_spec c0 (by decide) (by rw [hsg];decide) hsa
 have hgen1:(1:Nat)=s.gen:=hsg.symm
 refine Ws ?_
 refine Zcr (disk_NewD 16 h8) ?_
 rintro r1 H1 ⟨d,rfl,rfl⟩
 refine Wap ?_
 refine Ws ?_
 refine Zcs (hfo d) ?_
 rintro r2 H2 ⟨pb,pv,rfl,rfl⟩
 refine Wap ?_
 refine Ws ?_
 refine Zd (base_Free pb d pv s m false false c0.cm.mok.len) ?_
 refine Ws ?_
 have hbe:=base_Begin pb d pv S s m (c0.cm.view (s.gen+1) (by rw [hsg];decide)).ok (c0.cm.mok.right h8) (by rw [c0.cm.div];exact c0.cm.mok.p)
 refine Zcs hbe ?_
 rintro r4 H4 ⟨pt,tv,rfl,rfl⟩
 refine Wap ?_
 refine Ws ?_
 refine Zbu (ys:= [.int .i64 1, .int .i64 0]) ?_
 refine Ws ?_
 refine Zbu (ys:=entL xS) ?_
 refine Ws ?_
 (refine Zli (ys:=B8 tS) ?_;intro vl)
 refine Ws ?_
 refine ZoconvSS ?_ (he:=by exact Tryz.underlying5) (hm:=by decide)
 refine Tri.open (A:=ro vl 3 (B8 tS)) Wp (fun hx hrx=>?_)
 have hrx:Rd hx vl tS.length (B8 tS):=hrx
 have hE:insE [] (entT xS (t:Int) tS)= [entT xS (t:Int) tS] :=rfl
 have X0:=c0.begin
 have hWS:S.W.length≤5000:=c0.cm.W.1
 have hput:=txn_PutX mu4_lim X0 P (by decide) ⟨⟨by decide,by decide⟩,⟨by decide,by decide⟩⟩ (by decide) (by show S.W.length≤500000;omega) pt pb tv d pv true vl hx hrx
 refine Zat (blk pt _ _) (blk pt 163 (txL pb tv s.addr ((0:Nat):Int) false)) ?_ (e:=by rw [hsh];rfl)
 refine Ws ?_
 refine Zd hput ?_
 refine Ws ?_
 refine Zcs (txn_Commit pt pb tv d pv v2 a2 h2 s m m3 m4 true t3 C) ?_
 rintro r6 H6 ⟨pv2,rfl,rfl⟩
 refine Wap ?_
 refine Ws ?_
 have hDg:(spN s a2 h2 t3).gen=2:=by show s.gen+1=2;rw [hsg]
 obtain⟨s2,hs2⟩: ∃s2,s2=spN s a2 h2 t3:=⟨_,rfl⟩
 rw [←hs2] at D T hDg
 obtain⟨S2,hS2⟩: ∃S2,S2=cmS v2.S s2 m4:=⟨_,rfl⟩
 refine Zat (DSK d _) (DSK d S2) ?_ (e:=by rw [hS2,hs2])
 rw [←hS2] at D T
 refine Zcs (txn_Mount d D.cm) ?_
 rintro r7 H7 ⟨pb2,pv3,rfl,rfl⟩
 refine Wap ?_
 refine Ws ?_
 refine Zcs (law16_allX D pb2 d pv3 s2.gen (by rw [hDg];decide) false) ?_
 rintro r8 H8 ⟨A,cc,rfl,rfl⟩
 refine Wap ?_
 refine Ws ?_
 refine Zz 50 true ?_
 refine Ws ?_
 refine Zz 54 true ?_
 refine Ws ?_
 refine Zz 58 true ?_ (hi:=by exact dTt (by rw [hfr];rfl))
 refine Ws ?_
 refine Zz 62 true ?_
 refine Ws ?_
 refine Zz 66 true ?_
 refine Ws ?_
 refine Zz 70 true ?_
 refine Ws ?_
 refine Zz 74 true ?_
 refine Ws ?_
 refine Zz 77 true ?_
 refine Ws ?_
 refine Zz 82 true ?_
 refine Ws ?_
 have hcell:(CL S2 [entT xS (t:Int) tS])[0*4+3]? =some (.string ⟨tS.toArray⟩):=by
  show some (Value.string ⟨(txE S2 (entT xS (t:Int) tS)).toArray⟩)=_
  rw [T]
 refine Zix (j:=0) ?_ (hj:=by rfl) (hlt:=by exact Nat.one_pos)
 refine Ws ?_
 refine Zlo ?_ (hv:=by exact hcell)
 refine Ws ?_
 refine Zz 89 true ?_ (hi:=by exact dTt rfl)
 refine Ws ?_
 refine Zd (base_Super pb2 d pv3 s2 m4 false false) ?_
 refine Ws ?_
 refine Zv 91 (.agg (spL s2).toArray) ?_ (hv:=by rfl)
 refine Zofield (t:=22) (v:= .int .u64 (s2.gen:Int)) ?_ (hu:=by exact Tryz.underlying83)
 refine Ws ?_
 refine Zz 0 true ?_ (hi:=by exact dTt (by rw [hDg];rfl))
 exact Zfr (hq:=by simp only [tupled];skip)
end Go.Proofs.YtcglabmlhljkmaaGreat
namespace Go.Proofs.YtcglabmlhljkmaaGreat
open Go Go.Shelf
def soR:Ren where
 f x:=match x with
  | 189=>73
  | 125=>120
  | 257=>119
  | 128=>163
  | 129=>164
  | 294=>154
  | 295=>155
  | 296=>156
  | 297=>157
  | 298=>158
  | 299=>159
  | 216=>160
  | 300=>161
  | 301=>162
  | 328=>189
  | 329=>190
  | 330=>191
  | 331=>192
  | 332=>193
  | 215=>194
  | 343=>207
  | n=>n
 t x:=match x with
  | 28=>57
  | 3=>3
  | 46=>150
  | 0=>0
  | 51=>32
  | 53=>22
  | 4=>4
  | 183=>249
  | 182=>248
  | 131=>253
  | 5=>5
  | 9=>9
  | 218=>280
  | 222=>284
  | 228=>295
  | 229=>296
  | n=>n
 g n:=n
theorem soLays:Lays.n189 Tryz.prog soR where
 mixed:=rfl
 f125:=Tryz.func120.trans (congrArg some (Eq.refl (Body.n125 soR)))
 f128:=Tryz.func163.trans (congrArg some (Eq.refl (Body.n128 soR)))
 f129:=Tryz.func164.trans (congrArg some (Eq.refl (Body.n129 soR)))
 f189:=Tryz.func73.trans (congrArg some (Eq.refl (Body.n189 soR)))
 f215:=Tryz.func194.trans (congrArg some (Eq.refl (Body.n215 soR)))
 f216:=Tryz.func160.trans (congrArg some (Eq.refl (Body.n216 soR)))
 f257:=Tryz.func119.trans (congrArg some (Eq.refl (Body.n257 soR)))
 f294:=Tryz.func154.trans (congrArg some (Eq.refl (Body.n294 soR)))
 f295:=Tryz.func155.trans (congrArg some (Eq.refl (Body.n295 soR)))
 f296:=Tryz.func156.trans (congrArg some (Eq.refl (Body.n296 soR)))
 f297:=Tryz.func157.trans (congrArg some (Eq.refl (Body.n297 soR)))
 f298:=Tryz.func158.trans (congrArg some (Eq.refl (Body.n298 soR)))
 f299:=Tryz.func159.trans (congrArg some (Eq.refl (Body.n299 soR)))
 f300:=Tryz.func161.trans (congrArg some (Eq.refl (Body.n300 soR)))
 f301:=Tryz.func162.trans (congrArg some (Eq.refl (Body.n301 soR)))
 f328:=Tryz.func189.trans (congrArg some (Eq.refl (Body.n328 soR)))
 f329:=Tryz.func190.trans (congrArg some (Eq.refl (Body.n329 soR)))
 f330:=Tryz.func191.trans (congrArg some (Eq.refl (Body.n330 soR)))
 f331:=Tryz.func192.trans (congrArg some (Eq.refl (Body.n331 soR)))
 f332:=Tryz.func193.trans (congrArg some (Eq.refl (Body.n332 soR)))
 f343:=Tryz.func207.trans (congrArg some (Eq.refl (Body.n343 soR)))
 t0:=Tryz.underlying0
 a0:=Tryz.isAgg0
 z0:=Tryz.sizeOf0
 v0:=Tryz.zeroValue0
 t3:=Tryz.underlying3
 a3:=Tryz.isAgg3
 z3:=Tryz.sizeOf3
 v3:=Tryz.zeroValue3
 t4:=Tryz.underlying4
 a4:=Tryz.isAgg4
 z4:=Tryz.sizeOf4
 v4:=Tryz.zeroValue4
 t5:=Tryz.underlying5
 a5:=Tryz.isAgg5
 z5:=Tryz.sizeOf5
 v5:=Tryz.zeroValue5
 t9:=Tryz.underlying9
 a9:=Tryz.isAgg9
 z9:=Tryz.sizeOf9
 v9:=Tryz.zeroValue9
 t28:=Tryz.underlying57
 a28:=Tryz.isAgg57
 z28:=Tryz.sizeOf57
 v28:=Tryz.zeroValue57
 t46:=Tryz.underlying150
 a46:=Tryz.isAgg150
 z46:=Tryz.sizeOf150
 v46:=Tryz.zeroValue150
 t51:=Tryz.underlying32
 a51:=Tryz.isAgg32
 z51:=Tryz.sizeOf32
 v51:=Tryz.zeroValue32
 t53:=Tryz.underlying22
 a53:=Tryz.isAgg22
 z53:=Tryz.sizeOf22
 v53:=Tryz.zeroValue22
 t131:=Tryz.underlying253
 a131:=Tryz.isAgg253
 z131:=Tryz.sizeOf253
 v131:=Tryz.zeroValue253
 t182:=Tryz.underlying248
 a182:=Tryz.isAgg248
 z182:=Tryz.sizeOf248
 v182:=Tryz.zeroValue248
 t183:=Tryz.underlying249
 a183:=Tryz.isAgg249
 z183:=Tryz.sizeOf249
 v183:=Tryz.zeroValue249
 t218:=Tryz.underlying280
 a218:=Tryz.isAgg280
 z218:=Tryz.sizeOf280
 v218:=Tryz.zeroValue280
 t222:=Tryz.underlying284
 a222:=Tryz.isAgg284
 z222:=Tryz.sizeOf284
 v222:=Tryz.zeroValue284
 t228:=Tryz.underlying295
 a228:=Tryz.isAgg295
 z228:=Tryz.sizeOf295
 v228:=Tryz.zeroValue295
 t229:=Tryz.underlying296
 a229:=Tryz.isAgg296
 z229:=Tryz.sizeOf296
 v229:=Tryz.zeroValue296
end Go.Proofs.YtcglabmlhljkmaaGreat
namespace Go.Proofs.YtcglabmlhljkmaaGreat
open Go Go.RowKit Go.Gv
def sortI (xs:List Int):List Int:=xs.mergeSort fun x y=>decide (x≤y)
theorem sortI_nil:sortI [] = [] :=by rw [sortI,List.mergeSort_nil]
theorem sortI_perm (xs:List Int):(sortI xs).Perm xs:=List.mergeSort_perm xs _
theorem sortI_len (xs:List Int):(sortI xs).length=xs.length:=(sortI_perm xs).length_eq
theorem slices_Sort (A:Option Addr)(c:Nat)(xs:List Int)(m:Nat)(hx:xs.length=m)(hm:0<m∧m≤1000000):
  Gv.Spec Tryz.prog 73 #[.slice A m c] [own 3 1 (.slice A m c) m (NL xs)]
  (fun r H'=>r= .tuple #[] ∧H'= [own 3 1 (.slice A m c) m (NL (sortI xs))]):=fun w0 w H hw=>by
 have hw1:St w0 w (own 3 1 (.slice A m c) m (NL xs)::H):=hw
 obtain⟨s,hA⟩:=hw1.2.head
 rcases hA.2 with ⟨_,h0⟩ | ⟨g,cap,cur,hv,h2,h3,h4,h5,h6⟩
 ·omega
 ·cases hv
  have hb:=(res_some h2).2
  have hlt:g<w.heap.size:=(Array.getElem?_eq_some_iff.1 hb).1
  have ht:cur.toList.take xs.length=xs.map (Value.int .i64):=by rw [hx];rw [Nat.mul_one] at h6;exact h6
  have hc:=Any.slices_Sort_int soLays g 0 c xs w (holds_of_blockI hb ht) hlt (by omega)
  rw [hx] at hc
  refine Calls.mono hc ?_
  rintro e w' ⟨rfl,n,os,rfl⟩
  refine⟨_,⟨rfl,rfl⟩, ?_⟩
  have ho:=ownsRow_sortedI (base:=0) (n:=n) (os:=os) (ss:=xs) (ts:=sortI xs) (sortI_len xs) (Nat.zero_le _) hb (by omega) h4 h5
  rw [hx] at ho
  exact St.grown hw1 ho (.inl rfl) (grownBy_sortedI _)
def adP (P:List (Int×GOT)):List Int:=P.map (·.1)
theorem adP_snoc {P:List (Int×GOT)}{k:Nat}{q:Int×GOT}(h:P[k]? =some q):adP (P.take (k+1))=adP (P.take k)++ [q.1] :=by
 rw [adP,adP,List.take_add_one,h];simp
theorem tree_pages1 (a:Int)(nv:Value)(cs:List Value)(hn:nv= .agg cs.toArray)(o:List Int)(b7:Nat)(A':Option Addr)(c':Nat)(hb:o.length≤1000000):
  Gv.Spec Tryz.prog 72 #[.int .i64 a,nv, .pointer (some ⟨b7,0,none⟩)]
   ([blk b7 57 [.slice A' o.length c'],own 3 1 (.slice A' o.length c') o.length (NL o)] ++ [])
   (fun _ H'=> ∃z:Option Addr×Nat,H'= [blk b7 57 [.slice z.1 (o++ [a]).length z.2],own 3 1 (.slice z.1 (o++ [a]).length z.2) (o++ [a]).length (NL (o++ [a]))] ++ []):=by
 subst hn
 refine Gv.Spec.of (fun w h0 hw=>?_)
 refine Calls.enter Tryz.func72 rfl rfl rfl hw ?_
 simp only [argSlots]
 refine Wap ?_
 refine Ws ?_
 (refine Wbx ?_;intro b4)
 refine Ws ?_
 (refine Zli (ys:= [.int .i64 a]) ?_;intro va)
 refine Ws ?_
 refine Zap (m2:=1) (news:= [.int .i64 a]) ?_ (hr:=by exact rdw_own (v:=va) Wp) (hl:=by rfl) (h1:=by exact(by intro y hy;rw [List.mem_singleton.1 hy];rfl))
 intro vr
 (refine Tri.shape (e:=3) (size:=1) (v:=vr) Wp ?_;rintro ⟨A2,c2,rfl⟩)
 refine Ws ?_
 refine ZS ?_ (hi:=by exact(by decide:0<1))
 have hl':(o++ [a]).length=o.length+1:=lAp
 refine Zat (own 3 1 (.slice A2 (o.length+1) c2) _ _) (own 3 1 (.slice A2 (o++ [a]).length c2) (o++ [a]).length (NL (o++ [a]))) ?_ (e:=by rw [NL_snoc,hl'])
 refine Zat (blk b7 _ _) (blk b7 57 [.slice A2 (o++ [a]).length c2]) ?_ (e:=by rw [hl'];rfl)
 refine Ws ?_
 refine Zfn [blk b7 57 [.slice A2 (o++ [a]).length c2],own 3 1 (.slice A2 (o++ [a]).length c2) (o++ [a]).length (NL (o++ [a]))] (hq:=?_)
 exact⟨(A2,c2),rfl⟩
def pagI (b7:Nat)(P:List (Int×GOT))(k:Nat):Atom:=Gv.exA (fun z:Option Addr×Nat=>Gv.star [blk b7 57 [.slice z.1 (adP (P.take k)).length z.2],own 3 1 (.slice z.1 (adP (P.take k)).length z.2) (adP (P.take k)).length (NL (adP (P.take k)))])
section
variable {P:Program} {w0:World} {n:NT} {L:Slots} {H H':List Atom} {G:Act→World→Prop}
theorem to_pagI {b7:Nat}{Q:List (Int×GOT)}(p:Pulls H [blk b7 57 [.slice none 0 0],own 3 1 (.slice none 0 0) 0 []] H')(h:Tri w0 G n L (pagI b7 Q 0::H')):Tri w0 G n L H:=
 Tri.toExA (P:=Tryz.prog) (A:=fun z:Option Addr×Nat=> [blk b7 57 [.slice z.1 (adP (Q.take 0)).length z.2],own 3 1 (.slice z.1 (adP (Q.take 0)).length z.2) (adP (Q.take 0)).length (NL (adP (Q.take 0)))]) (none,0) p h
theorem of_pagI {b7 k:Nat}{Q:List (Int×GOT)}{es:List Int}(he:adP (Q.take k)=es)(p:Pull H (pagI b7 Q k) H')(h: ∀A c,Tri w0 G n L ([blk b7 57 [.slice A es.length c],own 3 1 (.slice A es.length c) es.length (NL es)] ++H')):Tri w0 G n L H:=by
 subst he
 exact Tri.exA p (fun z=>Tri.unstar .head (h z.1 z.2))
end
theorem spec_frame {P:Program}{f:FuncId}{args:Array Value}{Pre Post F:List Atom}(h:Gv.Spec P f args Pre (fun _ H'=>H'=Post)):Gv.Spec P f args (Pre++F) (fun _ H'=>H'=Post++F):=fun w0 w H hw=>by
 rw [aAs] at hw
 refine(h w0 w (F++H) hw).mono ?_
 intro e w' he
 cases e with
 | returned v=>
  obtain⟨H',rfl,h3⟩:=he
  exact⟨_,rfl,by rw [aAs];exact h3⟩
 | panicked c=>exact he
 | outgrown=>exact he
theorem pag_spec (b7:Nat)(Q:List (Int×GOT))(hb:Q.length≤1000000)(k:Nat)(q:Int×GOT)(hq:Q[k]? =some q)(A:Option Addr)(c:Nat)(B:Option Addr)(b:Nat)(C:Option Addr)(e:Nat):
  Gv.Spec Tryz.prog 72 ([Value.int .i64 q.1,ndW q.2.leaf (.slice A q.2.E.length c) (.slice B q.2.K.length b) (.slice C q.2.D.length e)] ++ [Value.pointer (some ⟨b7,0,none⟩)]).toArray [pagI b7 Q k,own 40 8 (.slice A q.2.E.length c) q.2.E.length (EL q.2.E)] (fun _ H'=>H'= [pagI b7 Q (k+1),own 40 8 (.slice A q.2.E.length c) q.2.E.length (EL q.2.E)]):=by
 have hs:=adP_snoc hq
 have hbb:(adP (Q.take k)).length≤1000000:=by rw [adP,List.length_map,lTk];omega
 have:=spec_exA (P:=Tryz.prog) (f:=72) (A:=fun z:Option Addr×Nat=> [blk b7 57 [.slice z.1 (adP (Q.take k)).length z.2],own 3 1 (.slice z.1 (adP (Q.take k)).length z.2) (adP (Q.take k)).length (NL (adP (Q.take k)))])
  (B:=fun z:Option Addr×Nat=> [blk b7 57 [.slice z.1 (adP (Q.take k)++ [q.1]).length z.2],own 3 1 (.slice z.1 (adP (Q.take k)++ [q.1]).length z.2) (adP (Q.take k)++ [q.1]).length (NL (adP (Q.take k)++ [q.1]))])
  (fun z=>tree_pages1 q.1 (ndW q.2.leaf (.slice A q.2.E.length c) (.slice B q.2.K.length b) (.slice C q.2.D.length e)) (ndLL q.2.leaf (.slice A q.2.E.length c) (.slice B q.2.K.length b) (.slice C q.2.D.length e)) rfl (adP (Q.take k)) b7 z.1 z.2 hbb)
 rw [←hs] at this
 exact spec_frame (F:= [own 40 8 (.slice A q.2.E.length c) q.2.E.length (EL q.2.E)]) this
theorem adP_pg (S:DS)(k:Nat)(mu:Nat→Nat): ∀(h m:Nat) (a:Int),tkG S k mu h m a→adP (wkP S h a)=(pgN S h a).map (fun p:Nat=>(p:Int))
 | 0,_,_,g=>g.elim
 | h+1,m,a,g=>by
  obtain⟨⟨p,hp,_⟩,_,_,_,_,g5,_⟩:=g
  rw [adP,wkP,pgN,List.map_cons,List.map_cons]
  congr 1
  ·show a=((a.toNat:Nat):Int);omega
  ·rw [List.map_flatMap,List.map_flatMap]
   exact flat_congr (fun d hd=>adP_pg S k mu h (mu h) d (g5 d hd))
theorem tree_Pages (pv d:Nat)(v:VS)(hv:v.ok)(hl:v.S.W.length≤1000000)(h:Nat)(a:Int)(hh:h≤5)(hg:h=0∨wkG v.S h a)(Z:List Int)(hZ:adP (wkP v.S h a)=Z)(hlen:h≠0→0<Z.length∧Z.length≤1000000):
  Gv.Spec Tryz.prog 25 #[.pointer (some ⟨pv,0,none⟩),rootV a (h:Int)] [blk pv 146 (viewL d v),DSK d v.S]
  (fun r H'=> ∃A c,r= .tuple #[.slice A Z.length c, .int .i64 0] ∧H'= [blk pv 146 (viewL d v),DSK d v.S,own 3 1 (.slice A Z.length c) Z.length (NL (sortI Z))]):=by
 refine Gv.Spec.of (fun w h0 hw=>?_)
 refine Calls.enter Tryz.func25 rfl rfl rfl hw ?_
 simp only [argSlots]
 refine Wap ?_
 refine Ws ?_
 (refine Wbx ?_;intro b3)
 refine Ws ?_
 refine Zla (cs:=rootL a (h:Int)) ?_ (hl:=by rfl)
 refine Ws ?_
 refine Zcv (view_may pv a h hh) ?_
 refine Ws ?_
 refine Zz 14 false ?_
 refine Ws ?_
 rcases Nat.eq_zero_or_pos h with h00 | hpos
 ·subst h00
  have hZ0:Z= [] :=hZ.symm
  subst hZ0
  refine Zz 18 true ?_
  refine Ws ?_
  (with_reducible apply Tri.ownNil 3 1)
  exact Zfn [blk pv 146 (viewL d v),DSK d v.S,own 3 1 (.slice none 0 0) 0 []] (hq:=by exact⟨none,0,rfl,by rw [sortI_nil];rfl⟩)
 ·have hg':wkG v.S h a:=by rcases hg with q | q;omega;exact q
  obtain⟨hZ1,hZ2⟩:=hlen (by omega)
  have hPl:(wkP v.S h a).length=Z.length:=by rw [←hZ,adP,List.length_map]
  have heach:=tree_each pv d v hv hl h a hg' (by omega) 72
  generalize wkP v.S h a=P at hZ hPl heach
  refine Zz 18 false ?_ (hi:=by exact dFf (by omega))
  refine Ws ?_
  refine Zal fun b7=>?_
  refine Ws ?_
  refine ZomakeFunc (vs:= [.pointer (some ⟨b7,0,none⟩)]) ?_ (hc:=by exact⟨rfl,trivial⟩)
  refine Ws ?_
  have hcall:=heach [.pointer (some ⟨b7,0,none⟩)] (pagI b7 P) (pag_spec b7 P (by omega))
  (with_reducible apply Tri.ownNil 3 1)
  refine Zat (blk b7 _ _) (blk b7 57 [.slice none 0 0]) ?_
  refine to_pagI (b7:=b7) (Q:=P) Wps ?_
  refine Zd hcall ?_
  refine of_pagI (he:=show adP (P.take P.length)=Z by rw [List.take_length];exact hZ) Wp (fun A c=>?_)
  refine Wap ?_
  refine Ws ?_
  refine Zz 28 false ?_
  refine Ws ?_
  refine Zd (slices_Sort A c Z Z.length rfl ⟨hZ1,hZ2⟩) ?_
  refine Ws ?_
  exact Zfn [blk pv 146 (viewL d v),DSK d v.S,own 3 1 (.slice A Z.length c) Z.length (NL (sortI Z))] (hq:=by exact⟨A,c,rfl,rfl⟩)
def mkV (W:List Nat)(j:Nat):List Value:=(mkT W j).map .bool
theorem mkV_len (W:List Nat)(j:Nat):(mkV W j).length=512:=by rw [mkV,List.length_map,mkT_len]
theorem mkV_get {W:List Nat}{j p:Nat}(hn:W.Nodup)(h5: ∀p∈W,p<512)(h:W[j]? =some p):(mkV W j)[0+p*1]? =some (.bool false):=by
 have hp:=h5 p (List.mem_of_getElem? h)
 rw [Nat.zero_add,Nat.mul_one,mkV,List.getElem?_map,mkT_get hp,mkT_no hn h5 h];rfl
theorem mkV_set {W:List Nat}{j p:Nat}(h:W[j]? =some p):(mkV W j).set (0+p*1) (.bool true)=mkV W (j+1):=by
 rw [Nat.zero_add,Nat.mul_one,mkV,mkV, ←mkT_succ h,List.map_set]
theorem mkV_zero (W:List Nat):List.replicate 512 (Value.bool false)=mkV W 0:=by
 show _=(mkU (W.take 0).reverse).map Value.bool
 show _=(List.replicate 512 false).map Value.bool
 rw [List.map_replicate]
theorem bool_alk {u:List Bool}(h:u.length=512):Alk (List.replicate 512 (.bool false)) (u.map Value.bool):=Alk.rep (fun _=>rfl) 512 _ h
set_option maxRecDepth 4000 in
theorem law16_sound {k:Nat}{mu:Nat→Nat}{S:DS}{s:SP}{m:BM}{b h:Nat}{E:List ENT}(c:CMT k mu S s m b h E)(pb d pv:Nat)(op:Bool):
  Gv.Spec Tryz.prog 40 #[.pointer (some ⟨d,0,none⟩), .pointer (some ⟨pb,0,none⟩)] [blk pb 161 (baseL d pv s m op false),DSK d S]
  (fun r H'=>r= .bool true∧H'= [blk pb 161 (baseL d pv s m op false),DSK d S]):=by
 refine Gv.Spec.of (fun w h0 hw=>?_)
 refine Calls.enter Tryz.func40 rfl rfl rfl hw ?_
 simp only [argSlots]
 refine Wap ?_
 have hgen:=c.cm.gen
 have hok:S.ok:=c.cm.on.1
 have hWl:S.W.length≤5000:=c.cm.W.1
 have hbs:=okS_spec c.cm.sok
 have hrd:=page_Read d S s.bitmap 66 hok (by omega) (by omega)
 rw [c.cm.map] at hrd
 have hbl:(mpP s.bitmap s.gen m).b=putM m:=rfl
 dsimp only at hrd
 rw [hbl] at hrd
 have hrm:=c.cm.mok.right c.cm.k8
 have hml:=c.cm.mok.len
 have hvk:(⟨S,s.gen,m,m⟩:VS).ok:=(c.cm.view s.gen (by omega)).ok
 have hpp:m.p=((S.A.length/256:Nat):Int):=by rw [c.cm.div];exact c.cm.mok.p
 have hop:=tree_Open d ⟨S,s.gen,m,m⟩ hvk hrm hrm hpp hpp
 obtain⟨hw1,hw2,hw3⟩:=c.walk
 have hsh:=c.hh
 have hEl:E.length≤1000000:=by rw [←c.ents];exact hw3
 have hPl:(pgN S h s.addr).length≤1000000:=by
  have h1:=c.cm.mok.free
  have h2:=c.cm.k8
  rw [bsU,lAp] at h1
  omega
 have hpa:=fun pv=>tree_Pages pv d ⟨S,s.gen,m,m⟩ hvk (by show S.W.length≤1000000;omega) h s.addr c.h5 hw1 _ rfl (fun hne=>by
  have tg:=c.g.resolve_left hne
  show 0<(adP (wkP S h s.addr)).length∧(adP (wkP S h s.addr)).length≤1000000
  rw [adP_pg S k mu h (rmin h) s.addr tg,List.length_map]
  obtain⟨g,rfl⟩: ∃g,h=g+1:=⟨h-1,by omega⟩
  exact⟨by rw [pgN];exact Nat.succ_pos _,hPl⟩)
 have hal:=fun pv=>tree_All pv d ⟨S,s.gen,m,m⟩ hvk (by show S.W.length≤1000000;omega) h s.addr c.h5 hw1 (by show (wkE S h s.addr).length≤1000000;exact hw3)
 dsimp only at hop hpa hal
 rw [c.ents] at hal
 have hadp:adP (wkP S h s.addr)=(pgN S h s.addr).map (fun p:Nat=>(p:Int)):=by
  rcases Nat.eq_zero_or_pos h with hz | hz
  ·rw [hz];rfl
  ·exact adP_pg S k mu h (rmin h) s.addr (c.g.resolve_left (by omega))
 rw [hadp] at hpa
 have hbb:=c.bb
 have hb5:2≤b∧b<k:=by
  refine c.cm.mok.rng b ?_
  rw [bsU];exact mAr _ (List.mem_cons_self ..)
 have hk8:=c.cm.k8
 have hfree:=c.cm.mok.free
 refine Ws ?_
 refine Zcv crc_New ?_
 refine Ws ?_
 refine Zal fun b5=>?_
 refine Ws ?_
 refine ZSa (ys:=tabL) ?_ (hl:=by exact tabL_length) (hc:=by exact List.length_replicate) (h1:=by exact tabL_one)
 refine Ws ?_
 refine Zd (base_Super pb d pv s m op false) ?_
 refine Ws ?_
 refine Zal fun b6=>?_
 refine Ws ?_
 refine ZSa (ys:=spL s) ?_ (h1:=by exact spL_one s)
 refine Ws ?_
 refine Zla (cs:=tabL) ?_ (hl:=by exact tabL_length)
 refine Ws ?_
 refine Zcs hrd ?_
 rintro r2 H2 ⟨A,cc,rfl,rfl⟩
 refine Wap ?_
 refine Ws ?_
 refine Zal fun b7=>?_
 refine Ws ?_
 refine ZSa (ys:=pgL (mpP s.bitmap s.gen m) (.slice A (putM m).length cc)) ?_ (h1:=by exact pgL_one _ A _ cc)
 refine Ws ?_
 have hgt:=bm_Get (.slice A (putM m).length cc) (putM m)
 rw [got_back hml hrm] at hgt
 dsimp only at hgt
 refine Zcv hgt ?_ (hpre:=by exact rdw_own (v:= .slice A (putM m).length cc) Wp)
 refine Ws ?_
 refine Zal fun b8=>?_
 refine Ws ?_
 refine ZSa (ys:=bmL m) ?_ (hl:=by exact bmL_len hml) (hc:=by exact z513f) (h1:=by exact bmL_one _)
 refine Ws ?_
 refine Zla (cs:=tabL) ?_ (hl:=by exact tabL_length)
 refine Ws ?_
 refine Zla (cs:=bmL m) ?_ (hl:=by exact bmL_len hml)
 refine Ws ?_
 refine Zla (cs:=bmL m) ?_ (hl:=by exact bmL_len hml)
 refine Ws ?_
 refine Zcs hop ?_
 rintro r3 H3 ⟨tv,rfl,rfl⟩
 refine Wap ?_
 refine Ws ?_
 refine Zz 51 false ?_
 refine Ws ?_
 refine Zz 55 false ?_
 refine Ws ?_
 refine Zz 58 false ?_
 refine Ws ?_
 refine Zlg (ys:=rootL s.addr (h:Int)) ?_ (hv:=by rw [←hsh];rfl) (hl:=by rfl)
 refine Ws ?_
 refine Zcs (hpa tv) ?_
 rintro r4 H4 ⟨A4,c4,rfl,rfl⟩
 refine Wap ?_
 obtain⟨ys,hys0⟩: ∃ys,ys=sortI ((pgN S h s.addr).map (fun p:Nat=>(p:Int))):=⟨_,rfl⟩
 have hys:ys.Perm ((pgN S h s.addr).map (fun p:Nat=>(p:Int))):=by rw [hys0];exact sortI_perm _
 rw [←hys0]
 clear hys0
 obtain⟨zs,rfl,hzp⟩:=perm_nat hys
 have hzl:((pgN S h s.addr).map (fun p:Nat=>(p:Int))).length=zs.length:=by rw [List.length_map,hzp.length_eq]
 rw [hzl]
 obtain⟨hnd,hlt5,hmk,hfr⟩:=c.snd hzp
 have hWlen:=sndW_len b zs E
 have hW0:(sndW b zs E)[0]? =some 0:=rfl
 have hW1:(sndW b zs E)[1]? =some 1:=rfl
 have hW2:(sndW b zs E)[2]? =some b:=rfl
 have hWz: ∀i p,zs[i]? =some p→(sndW b zs E)[3+i]? =some p:=fun i p hp=>sndW_z hp
 have hWt: ∀j x,j<E.length→x<nE (E.getD j ent0)→(sndW b zs E)[3+zs.length+(txs (E.take j)).length+x]? =some ((E.getD j ent0).addr.toNat+x):=fun j x=>sndW_t
 have hEb: ∀j,j<E.length→(2≤(E.getD j ent0).addr∧(E.getD j ent0).addr≤511)∧(1≤(E.getD j ent0).len∧(E.getD j ent0).len≤65535):=fun j hj=>by
  refine(c.tx _ ?_).bounds
  rw [gDe,gEe hj]
  exact List.getElem_mem hj
 obtain⟨W,hW⟩: ∃W,W=sndW b zs E:=⟨_,rfl⟩
 rw [←hW] at hnd hlt5 hmk hfr hWlen hW0 hW1 hW2 hWz hWt
 clear hW hpa hys hadp
 refine Ws ?_
 refine Zlg (ys:=rootL s.addr (h:Int)) ?_ (hv:=by rw [←hsh];rfl) (hl:=by rfl)
 refine Ws ?_
 refine Zcs (hal tv) ?_
 rintro r5 H5 ⟨A5,c5,rfl,rfl⟩
 refine Wap ?_
 refine Ws ?_
 refine Zal fun b17=>?_
 refine Zat (blk b17 _ _) (blk b17 58 (mkV W 0)) ?_ (e:=by rw [←mkV_zero W])
 refine Ws ?_
 refine Wm [blk b6 83 (spL s)] ?_
 refine Wq [0] ?_
 refine Zm 1 (h:=fun _ _ qK=>by exact Zl (v:= .int .i64 (b:Int)) qK (hv:=by rw [←hbb];rfl)) (k:=?_)
 refine Zm 2 (h:=fun _ _ qK=>by exact Zia (j:=0) qK (hj:=by rfl) (hlt:=by decide)) (k:=?_)
 refine ZA 3 ?_
 refine ZS ?_ (hi:=by rw [mkV_len];decide)
 refine Zat (blk b17 _ _) (blk b17 58 (mkV W 1)) ?_ (e:=by rw [mkV_set hW0])
 refine Zw ?_
 refine Zm 4 (h:=fun _ _ qK=>by exact Zia (j:=1) qK (hj:=by rfl) (hlt:=by decide)) (k:=?_)
 refine ZA 5 ?_
 refine ZS ?_ (hi:=by rw [mkV_len];decide)
 refine Zat (blk b17 _ _) (blk b17 58 (mkV W 2)) ?_ (e:=by rw [mkV_set hW1])
 refine Zw ?_
 refine Zm 6 (h:=fun _ _ qK=>by exact Zia (j:=b) qK (hj:=by rfl) (hlt:=by omega)) (k:=?_)
 refine ZA 7 ?_
 refine ZS ?_ (hi:=by rw [mkV_len];omega)
 refine Zat (blk b17 _ _) (blk b17 58 (mkV W 3)) ?_ (e:=by rw [mkV_set hW2])
 refine Zw ?_
 refine ZE ?_
 refine Ws ?_
 (refine Wl (α:={ i:Nat//i≤zs.length }) (fun z=>zs.length-z.1) (fun z=> [(0, .pointer (some ⟨d,0,none⟩)),(1, .pointer (some ⟨pb,0,none⟩)),(9, .pointer (some ⟨b8,0,none⟩)),(13, .slice A4 zs.length c4),(14, .int .i64 0),(15, .slice A5 E.length c5),(16, .int .i64 0),(17, .pointer (some ⟨b17,0,none⟩)),(18, .int .i64 ((3+z.1:Nat):Int)),(19, .int .i64 (z.1:Int))]) (fun z=> [blk b17 58 (mkV W (3+z.1)),blk b8 60 (bmL m),own 3 1 (.slice A4 zs.length c4) zs.length (NL (zs.map (fun p:Nat=>(p:Int)))),own 40 8 (.slice A5 E.length c5) E.length (EL E),blk pb 161 (baseL d pv s m op false),DSK d S,Ex h0]) ⟨0,Nat.zero_le _⟩ ?_;rintro ⟨i,hi⟩ mx hmx;(try dsimp only at hmx ⊢))
 refine Ws ?_
 (refine Wcd ?_ ?_<;>intro hc1)
 ·have hil:i<zs.length:=by omega
  have hil':i+1≤zs.length:=hil
  obtain⟨p,hp⟩: ∃p,zs[i]? =some p:=⟨zs[i],gEe hil⟩
  have hWi:=hWz i p hp
  have hp5:=hlt5 p (List.mem_of_getElem? hWi)
  have hNi:(NL (zs.map (fun p:Nat=>(p:Int))))[i]? =some (.int .i64 (p:Int)):=by rw [nl_get,List.getElem?_map,hp];rfl
  refine Ws ?_
  refine Zix (j:=i) ?_ (hj:=by rfl) (hlt:=by exact hil)
  refine Ws ?_
  refine Zlo (j:=i*1) ?_ (hv:=by exact(by rw [Nat.mul_one];exact hNi))
  refine Ws ?_
  refine Zl ?_ (hv:=by exact mkV_get hnd hlt5 hWi)
  refine Ws ?_
  refine Zix (j:=i) ?_ (hj:=by rfl) (hlt:=by exact hil)
  refine Ws ?_
  refine Zlo (j:=i*1) ?_ (hv:=by exact(by rw [Nat.mul_one];exact hNi))
  refine Ws ?_
  refine ZS ?_ (hi:=by rw [mkV_len];omega)
  refine Zat (blk b17 _ _) (blk b17 58 (mkV W (3+(i+1)))) ?_ (e:=by rw [mkV_set hWi];rfl)
  refine Ws ?_
  refine Zi 18 ((3+(i+1):Nat):Int) ?_ (hi:=by omega)
  refine Zi 19 ((i+1:Nat):Int) ?_ (hi:=by omega)
  exact Zag ⟨i+1,hil'⟩
 ·have hil:i=zs.length:=by omega
  subst hil
  refine Ws ?_
  have ht0:3+zs.length=3+zs.length+(txs (E.take 0)).length:=rfl
  refine Zi 18 ((3+zs.length+(txs (E.take 0)).length:Nat):Int) ?_ (hi:=by rfl)
  refine Zat (blk b17 _ _) (blk b17 58 (mkV W (3+zs.length+(txs (E.take 0)).length))) ?_
  (refine Wl (α:={ j:Nat//j≤E.length }) (fun z=>E.length-z.1) (fun z=> [(0, .pointer (some ⟨d,0,none⟩)),(1, .pointer (some ⟨pb,0,none⟩)),(9, .pointer (some ⟨b8,0,none⟩)),(14, .int .i64 0),(15, .slice A5 E.length c5),(16, .int .i64 0),(17, .pointer (some ⟨b17,0,none⟩)),(18, .int .i64 ((3+zs.length+(txs (E.take z.1)).length:Nat):Int)),(20, .int .i64 (z.1:Int))]) (fun z=> [blk b17 58 (mkV W (3+zs.length+(txs (E.take z.1)).length)),blk b8 60 (bmL m),own 40 8 (.slice A5 E.length c5) E.length (EL E),blk pb 161 (baseL d pv s m op false),DSK d S,Ex h0]) ⟨0,Nat.zero_le _⟩ ?_;rintro ⟨j,hj⟩ mx hmx;(try dsimp only at hmx ⊢))
  refine Ws ?_
  (refine Wcd ?_ ?_<;>intro hc2)
  ·have hjl:j<E.length:=by omega
   have hjl':j+1≤E.length:=hjl
   have hWj:=hWt j
   obtain⟨x,hx⟩: ∃x,x=E.getD j ent0:=⟨_,rfl⟩
   have hxb:=hEb j hjl
   have htl:=txs_take_len hjl
   have hadr:(EL E)[j*8+3]? =some (.int .i64 (E.getD j ent0).addr):=EL_at E j hjl 3 (by decide)
   have h8:=EL_eight E j hjl
   rw [←hx] at hWj hxb htl hadr h8
   obtain⟨ad,had⟩: ∃ad:Nat,x.addr=(ad:Int):=⟨x.addr.toNat,by omega⟩
   have hpg:pagesE x.len=((nE x:Nat):Int):=by
    have:0≤pagesE x.len:=by rw [pagesE];omega
    rw [nE];omega
   have hadn:x.addr.toNat=ad:=by omega
   rw [hadn] at hWj
   rw [had] at hadr
   have hnE:nE x≤256:=by rw [pagesE] at hpg;omega
   obtain⟨base,hbase⟩: ∃base,base=3+zs.length+(txs (E.take j)).length:=⟨_,rfl⟩
   have hb1:3+zs.length+(txs (E.take (j+1))).length=base+nE x:=by rw [htl,hbase];omega
   rw [←hbase] at hWj
   have hn0:0≤nE x:=Nat.zero_le _
   have hbb2:base+nE x≤100000:=by
    rw [←hb1]
    have h1:(txs (E.take (j+1))).length≤(txs E).length:=by
     conv=>rhs;rw [←List.take_append_drop (j+1) E]
     rw [txs,txs,List.flatMap_append,lAp];omega
    omega
   simp only [←hbase]
   refine Ws ?_
   refine Zi 18 ((base+0:Nat):Int) ?_ (hi:=by rfl)
   refine Zat (blk b17 _ _) (blk b17 58 (mkV W (base+0))) ?_
   (refine Wl (α:={ y:Nat//y≤nE x }) (fun z=>nE x-z.1) (fun z=> [(0, .pointer (some ⟨d,0,none⟩)),(1, .pointer (some ⟨pb,0,none⟩)),(9, .pointer (some ⟨b8,0,none⟩)),(14, .int .i64 0),(15, .slice A5 E.length c5),(16, .int .i64 0),(17, .pointer (some ⟨b17,0,none⟩)),(18, .int .i64 ((base+z.1:Nat):Int)),(20, .int .i64 (j:Int)),(21, .int .i64 (z.1:Int))]) (fun z=> [blk b17 58 (mkV W (base+z.1)),blk b8 60 (bmL m),own 40 8 (.slice A5 E.length c5) E.length (EL E),blk pb 161 (baseL d pv s m op false),DSK d S,Ex h0]) ⟨0,hn0⟩ ?_;rintro ⟨y,hy⟩ mx hmx;(try dsimp only at hmx ⊢))
   refine Ws ?_
   refine Zix (j:=j) ?_ (hj:=by rfl) (hlt:=by exact hjl)
   refine Ws ?_
   refine Zlq (ys:=entL x) ?_ (hv:=by exact h8) (hl:=by rfl)
   refine Ws ?_
   refine Zcv (node_PagesE x ⟨by omega,hxb.2.2⟩) ?_
   refine Zi 108 ((nE x:Nat):Int) ?_ (hi:=by exact hpg)
   refine Ws ?_
   (refine Wcd ?_ ?_<;>intro hc3)
   ·have hyl:y<nE x:=by omega
    have hyl':y+1≤nE x:=hyl
    have hWy:=hWj y hjl hyl
    have hp5:=hlt5 _ (List.mem_of_getElem? hWy)
    refine Ws ?_
    refine Zix (j:=j) ?_ (hj:=by rfl) (hlt:=by exact hjl)
    refine Ws ?_
    refine Zlo (j:=j*8+3) ?_ (hv:=by exact hadr)
    refine Ws ?_
    refine Zl ?_ (hv:=by exact mkV_get hnd hlt5 hWy)
    refine Ws ?_
    refine Zix (j:=j) ?_ (hj:=by rfl) (hlt:=by exact hjl)
    refine Ws ?_
    refine Zlo (j:=j*8+3) ?_ (hv:=by exact hadr)
    refine Ws ?_
    refine ZS ?_ (hi:=by rw [mkV_len];omega)
    refine Zat (blk b17 _ _) (blk b17 58 (mkV W (base+(y+1)))) ?_ (e:=by rw [mkV_set hWy];rfl)
    refine Ws ?_
    refine Zi 18 ((base+(y+1):Nat):Int) ?_ (hi:=by omega)
    refine Zi 21 ((y+1:Nat):Int) ?_ (hi:=by omega)
    exact Zag ⟨y+1,hyl'⟩
   ·have hyl:y=nE x:=by omega
    refine Ws ?_
    refine Zi 18 ((3+zs.length+(txs (E.take (j+1))).length:Nat):Int) ?_ (hi:=by rw [hb1,hyl])
    refine Zat (blk b17 _ _) (blk b17 58 (mkV W (3+zs.length+(txs (E.take (j+1))).length))) ?_ (e:=by rw [hb1,hyl])
    refine Zi 20 ((j+1:Nat):Int) ?_ (hi:=by omega)
    exact Zag ⟨j+1,hjl'⟩
  ·have hjl:j=E.length:=by omega
   subst hjl
   rw [List.take_length, ←hWlen]
   refine Ws ?_
   refine Zz 133 true ?_
   refine Ws ?_
   refine Zz 137 true ?_
   refine Ws ?_
   refine Zlg (ys:=m.u.map .bool) ?_ (hv:=by exact bmL_drop m hml) (hl:=by rw [List.length_map];exact hml)
   refine Ws ?_
   refine Zla (cs:=mkV W W.length) ?_ (hl:=by exact mkV_len _ _)
   refine Ws ?_
   refine ZoeqlA (r:=true) ?_ (hax:=by exact bool_alk hml) (hay:=by exact bool_alk (mkT_len _ _)) (hr:=by exact⟨fun _=>by rw [mkV,hmk],fun _=>rfl⟩)
   refine Ws ?_
   refine Zd (base_Free pb d pv s m op false hml) ?_
   refine Ws ?_
   refine Zd (disk_PagesD d S hok) ?_
   have hdv:=c.cm.div
   refine Ws ?_
   refine Zz 4 true ?_ (hi:=by exact dTt (by rw [hdv];omega))
   refine Ws ?_
   exact Zfn [blk pb 161 (baseL d pv s m op false),DSK d S] (hq:=by exact⟨rfl,rfl⟩)
theorem putAt_out (A:List UInt8)(p:Nat)(b:List UInt8)(j:Nat)(h:p+b.length≤A.length)(hj:j<p∨p+b.length≤j):(putAt A p b)[j]? =A[j]? :=by
 unfold putAt
 have hlt:(A.take p).length=p:=by rw [lTk];omega
 rcases hj with hj | hj
 ·rw [aAs,List.getElem?_append_left (by omega),List.getElem?_take,if_pos hj]
 ·rw [List.getElem?_append_right (by rw [lAp];omega),List.getElem?_drop,lAp,hlt]
  congr 1;omega
theorem keepTo_out {A:List UInt8}{i:Nat}{b:List UInt8}{atoms:UInt8}(hi:i*64+64≤A.length)(hb:b.length=64)(j:Nat)(hj:j<i*64∨i*64+64≤j): ∀k,k≤8→(keepTo A i b atoms k)[j]? =A[j]?
 | 0,_=>rfl
 | k+1,hk=>by
  have ih:=keepTo_out hi hb j hj k (by omega) (atoms:=atoms)
  have hl:((b.drop (k*8)).take 8).length=8:=by rw [lTk,lDp];omega
  have hkl:=keepTo_length hi hb k (by omega) (atoms:=atoms)
  rw [keepTo];split
  ·rw [putAt_out _ _ _ _ (by omega) (by omega),ih]
  ·exact ih
theorem keepM_out {A:List UInt8}{i:Nat}{b:List UInt8}{f:Bool×UInt8}(hi:i*64+64≤A.length)(hb:b.length=64)(j:Nat)(hj:j<i*64∨i*64+64≤j):(keepM A i b f)[j]? =A[j]? :=by
 unfold keepM;split
 ·exact keepTo_out hi hb j hj 8 (Nat.le_refl _)
 ·rfl
theorem crashTo_out {A:List UInt8}{W:List WW}{F:List (Bool×UInt8)}(hW:WOk A.length W)(j:Nat)(hj: ∀x∈W,j<x.i*64∨x.i*64+64≤j): ∀k,(crashTo A W F k)[j]? =A[j]?
 | 0=>rfl
 | k+1=>by
  have ih:=crashTo_out hW j hj k (F:=F)
  have hl:=crashTo_length hW k (F:=F)
  rw [crashTo];split
  ·rename_i x f hx hf
   have hm:=List.mem_of_getElem? hx
   obtain⟨h1,h2⟩:=hW x hm
   rw [keepM_out (by omega) h2 j (hj x hm),ih]
  ·exact ih
def wl (i:Nat):List (List UInt8)→List (Nat×List UInt8)
 | [] => []
 | b::bs=>(i,b)::wl (i+1) bs
theorem DS.wrs_W: ∀(bs:List (List UInt8)) (S:DS) (i:Nat),S.off=false→S.till= -1→(∀b∈bs,b.length=64)→i*64+bs.length*64≤S.A.length→S.wrs (i:Int) bs=(⟨S.A,S.W++wl i bs,false, -1⟩,0)
 | [],S,i,h1,h2,_,_=>by
  obtain⟨A,W,off,till⟩:=S
  simp only at h1 h2
  subst h1;subst h2
  show (_,0)=_
  rw [wl,List.append_nil]
 | b::bs,S,i,h1,h2,hb,hi=>by
  rw [lCn] at hi
  have e:S.wr (i:Int) b=(⟨S.A,S.W++ [(i,b)],false, -1⟩,0):=by
   rw [DS.wr,h1,mayD_of (show i*64+64≤S.A.length by omega),if_neg (by simp),if_neg (by rw [hb b (List.mem_cons_self ..)];simp),h2,if_neg (by simp)]
   obtain⟨A,W,off,till⟩:=S
   simp only at h1 h2
   subst h1;subst h2
   rfl
  show (if(S.wr (i:Int) b).2=0 then(S.wr (i:Int) b).1.wrs ((i:Int)+1) bs else S.wr (i:Int) b)=_
  rw [e]
  simp only [if_true]
  have:=DS.wrs_W bs ⟨S.A,S.W++ [(i,b)],false, -1⟩ (i+1) rfl rfl (fun c hc=>hb c (mCm _ hc)) (by show (i+1)*64+bs.length*64≤S.A.length;omega)
  rw [show ((i:Int)+1)=((i+1:Nat):Int) by omega,this]
  simp [wl]
theorem fl_W {S:DS}(h:S.fl.2=0):S.fl.1.W.length=0:=by
 rw [DS.fl] at h ⊢
 by_cases h1:S.off=true
 ·rw [if_pos h1] at h;cases h
 ·rw [if_neg h1] at h ⊢
  by_cases h2:S.till=0
  ·rw [if_pos h2] at h;cases h
  ·rw [if_neg h2];rfl
theorem flW_out: ∀(W:List (Nat×List UInt8)) (A:List UInt8) (j:Nat),(∀x∈W,x.1*64+64≤A.length∧x.2.length=64)→(∀x∈W,j<x.1*64∨x.1*64+64≤j)→(flW A W)[j]? =A[j]?
 | [],A,j,_,_=>rfl
 | x::W,A,j,h,hj=>by
  have hx:=h x (List.mem_cons_self ..)
  have hl:=putAt_length A (x.1*64) x.2 (by omega)
  have hj1:=hj x (List.mem_cons_self ..)
  show (flW (putAt A (x.1*64) x.2) W)[j]? =_
  rw [flW_out W _ j (fun y hy=>by rw [hl];exact h y (mCm _ hy)) (fun y hy=>hj y (mCm _ hy))]
  exact putAt_out A _ _ j (by omega) (by omega)
theorem pg_ext {A B:List UInt8}{p:Nat}(h: ∀i,i<256→A[p*256+i]? =B[p*256+i]?):pgAt A p=pgAt B p:=by
 show (A.drop (p*256)).take 256=(B.drop (p*256)).take 256
 apply List.ext_getElem?
 intro i
 rw [List.getElem?_take,List.getElem?_take]
 split
 ·rename_i hi
  rw [List.getElem?_drop,List.getElem?_drop,h i hi]
 ·rfl
theorem off_page {x p i:Nat}(h:x/4≠p)(hi:i<256):p*256+i<x*64∨x*64+64≤p*256+i:=by omega
theorem pg_wait {S:DS}(h:S.ok){p:Nat}(hw: ∀x∈S.W,x.1/4≠p):pgAt S.V p=pgAt S.A p:=pg_ext (fun i hi=>flW_out _ _ _ h.2.2 (fun x hx=>off_page (hw x hx) hi))
theorem cr_wok {S:DS}(h:S.ok):WOk S.A.length (S.W.map fun x=>(⟨x.1,undef,x.2⟩:WW)):=fun x hx=>by
 obtain⟨y,hy,rfl⟩:=List.mem_map.1 hx
 exact h.2.2 y hy
theorem cr_len {S:DS}(h:S.ok)(F:List (Bool×UInt8)):(S.cr F).A.length=S.A.length:=crashTo_length (cr_wok h) _
theorem cr_on {S:DS}(h:S.ok)(F:List (Bool×UInt8)):(S.cr F).on:=⟨⟨by rw [cr_len h];exact h.1,by show -1≤(-1:Int)∧(-1:Int)≤_;omega,fun x hx=>by cases hx⟩,rfl,rfl⟩
theorem cr_page {S:DS}(h:S.ok)(F:List (Bool×UInt8)){p:Nat}(hw: ∀x∈S.W,x.1/4≠p):pgAt (S.cr F).V p=pgAt S.A p:=pg_ext (fun i hi=>crashTo_out (cr_wok h) _ (fun x hx=>by
 obtain⟨y,hy,rfl⟩:=List.mem_map.1 hx
 exact off_page (hw y hy) hi) _)
theorem CMT.moved {k:Nat}{mu:Nat→Nat}{S S':DS}{s:SP}{m:BM}{b h:Nat}{E:List ENT}(c:CMT k mu S s m b h E)(on:S'.on)(hl:S'.A.length=S.A.length)
  (hW:S'.W.length≤5000∧ ∀x∈S'.W,2≤x.1/4∧x.1/4∉bsU S s b h E) (hp: ∀p,p∈bsU S s b h E∨p<2→pgAt S'.V p=pgAt S.V p):
  CMT k mu S' s m b h E∧bsU S' s b h E=bsU S s b h E∧ ∀x∈E,txE S' x=txE S x:=by
 have hrd: ∀p∈pgN S h s.addr, ∀lf,rdN S' (p:Int) lf=rdN S (p:Int) lf:=fun p hm lf=>by
  have hU:p∈bsU S s b h E:=mAl _ hm
  have hr:=c.cm.mok.rng p hU
  exact rdN_pg c.cm.on on hl (by rw [c.cm.len];exact fitk hr.2) (hp p (.inl hU)) lf
 have hT:(h=0∨tkG S' k mu h (rmin h) s.addr)∧wkE S' h s.addr=wkE S h s.addr∧pgN S' h s.addr=pgN S h s.addr:=by
  rcases c.g with h0 | g
  ·subst h0;exact⟨.inl rfl,rfl,rfl⟩
  ·obtain⟨g1,g2,g3⟩:=tk_moved h (rmin h) s.addr g hrd
   exact⟨.inr g1,g2,g3⟩
 have hU:bsU S' s b h E=bsU S s b h E:=by rw [bsU,bsU,hT.2.2]
 have htx: ∀x∈E,TxE S' x∧txE S' x=txE S x:=fun x hx=>(c.tx x hx).same hl (fun p hpx=>hp p (.inl (mAr _ (mCm _ (List.mem_flatMap.2 ⟨x,hx,hpx⟩)))))
 refine⟨⟨⟨c.cm.k8,on,by rw [hl];exact c.cm.len,by rw [hU];exact hW,c.cm.sok,c.cm.pages,c.cm.gen, ?_,inv_same c.cm.old (fun a ha=>hp a (.inr ha)),by rw [hU];exact c.cm.mok, ?_⟩,c.bb,c.hh,hT.1,by rw [hT.2.1];exact c.ents,c.ord,c.h5,fun x hx=>(htx x hx).1⟩,hU,fun x hx=>(htx x hx).2⟩
 ·rw [hp _ (.inr (Nat.mod_lt _ (by decide)))];exact c.cm.sup
 ·obtain⟨b',h1,h2,h3⟩:=c.cm.bit
  exact⟨b',h1,by rw [hU];exact h2,by rw [hp _ (.inl h2)];exact h3⟩
theorem TXI.still {k:Nat}{mu:Nat→Nat}{S0:DS}{s:SP}{m:BM}{b h0:Nat}{E0:List ENT}{v:VS}{a:Int}{h:Nat}{E:List ENT}(X:TXI k mu S0 s m b h0 E0 v a h E)(hW:v.S.W.length≤5000):
  CMT k mu v.S s m b h0 E0∧bsU v.S s b h0 E0=bsU S0 s b h0 E0∧ ∀x∈E0,txE v.S x=txE S0 x:=
 X.c.moved X.ti.vg.on (by rw [X.A]) ⟨hW,X.ti.vg.w⟩ (fun p hp=>(X.sm p hp).1)
theorem TXI.crash {k:Nat}{mu:Nat→Nat}{S0:DS}{s:SP}{m:BM}{b h0:Nat}{E0:List ENT}{v:VS}{a:Int}{h:Nat}{E:List ENT}(X:TXI k mu S0 s m b h0 E0 v a h E)(F:List (Bool×UInt8)):
  CMT k mu (v.S.cr F) s m b h0 E0∧bsU (v.S.cr F) s b h0 E0=bsU S0 s b h0 E0∧ ∀x∈E0,txE (v.S.cr F) x=txE S0 x:=by
 have hok:=X.ti.vg.on.1
 refine X.c.moved (cr_on hok F) (by rw [cr_len hok,X.A]) ⟨Nat.zero_le _,fun x hx=>by cases hx⟩ (fun p hp=>?_)
 have hw: ∀x∈v.S.W,x.1/4≠p:=fun x hx e=>by
  have h2:=X.ti.vg.w x hx
  rw [e] at h2
  rcases hp with q | q
  ·exact h2.2 q
  ·omega
 rw [cr_page hok F hw, ←pg_wait hok hw]
 exact(X.sm p hp).1
def bun (P:Nat→Bool):Nat→Nat
 | 0=>0
 | n+1=>bun P n+if P n=true then 1 else 0
def BU (m o:BM):Nat:=bun (bothAt m o) 512
def HiM (m o:BM)(M:Nat):Prop:= ∀j,M≤j→bothAt m o j=false
structure CtxL (k:Nat)(v:VS):Prop where
 k8:8≤k∧k≤512
 on:v.S.on
 len:v.S.A.length=k*256
 mp:v.m.p=(k:Int)
 ml:v.m.u.length=512
 ol:v.old.u.length=512
def lowV (k:Nat)(v v':VS):Prop:=CtxL k v→CtxL k v'∧v.S.W.length≤v'.S.W.length∧v'.old=v.old∧ ∀M,M≤k→HiM v.m v.old M→4*BU v.m v.old+(v'.S.W.length-v.S.W.length)≤4*M→
 HiM v'.m v'.old M∧4*BU v'.m v'.old≤4*BU v.m v.old+(v'.S.W.length-v.S.W.length)
theorem lowV.rfl {k:Nat}{v:VS}:lowV k v v:=fun c=>⟨c,Nat.le_refl _,Eq.refl _,fun M _ h1 _=>⟨h1,by omega⟩⟩
theorem lowV.trans {k:Nat}{v v' v'':VS}(h:lowV k v v')(h':lowV k v' v''):lowV k v v'':=fun c=>by
 obtain⟨c1,w1,o1,l1⟩:=h c
 obtain⟨c2,w2,o2,l2⟩:=h' c1
 refine⟨c2,Nat.le_trans w1 w2,o2.trans o1,fun M hk hM hb=>?_⟩
 obtain⟨a1,a2⟩:=l1 M hk hM (by omega)
 obtain⟨b1,b2⟩:=l2 M hk a1 (by omega)
 exact⟨b1,by omega⟩
theorem lo_sum {S:DS}{h n:Nat}: ∀(D:List Int),(∀d∈D,n≤(wkE S h d).length)→n*D.length≤(D.flatMap (wkE S h)).length
 | [],_=>Nat.zero_le _
 | d::D,hd=>by
  have h1:=hd d (List.mem_cons_self ..)
  have h2:=lo_sum D (fun z hz=>hd z (mCm _ hz))
  rw [List.flatMap_cons,lAp,lCn,Nat.mul_succ];omega
def mu3 (h:Nat):Nat:=if h=1 then 3 else 8
theorem mu3_lim (h:Nat):mu3 (h+1)≤limN h:=by
 rw [mu3,limN]
 by_cases h0:h=0
 ·rw [if_pos (by omega),if_pos h0];decide
 ·rw [if_neg (by omega),if_neg h0];exact Nat.le_refl _
theorem mu3_two (h:Nat):2≤mu3 (h+1):=by
 rw [mu3];split<;>decide
theorem mu3_one:mu3 1≤3:=Nat.le_refl _
def lo3:Nat→Nat
 | 0=>3
 | h+1=>8*lo3 h
theorem lo3_le {S:DS}{k:Nat}: ∀(h:Nat) (a:Int),tkG S k mu3 (h+1) (mu3 (h+1)) a→lo3 h≤(wkE S (h+1) a).length
 | h,a,g=>by
  obtain⟨_,_,_,g3,⟨g4,g5,g6⟩,g7,g8⟩:=g
  rw [wkE,lAp]
  cases h with
  | zero=>
   have:3≤(rdN S a (decide (0=0))).E.length:=g5
   show 3≤_
   omega
  | succ h=>
   rw [dFf (Nat.succ_ne_zero h)] at g5 g7 ⊢
   have h1:8≤(rdN S a false).D.length:=g5
   have h2:=lo_sum _ (fun d hd=>lo3_le h d (g7 d hd))
   have h3:lo3 h*8≤lo3 h*(rdN S a false).D.length:=Nat.mul_le_mul_left _ h1
   show 8*lo3 h≤_
   omega
theorem ti_few3 {k:Nat}{O R:List Nat}{v:VS}{a:Int}{h:Nat}{E:List ENT}(ti:TI k mu3 O R v a h E)(hE:E.length<48):h≤2∧(pgN v.S h a).length≤17:=by
 rcases ti.g with h0 | g
 ·subst h0;exact⟨by decide,by show 0≤17;decide⟩
 ·rcases h with _ | _ | _ | h
  ·exact⟨by decide,by show 0≤17;decide⟩
  ·refine⟨by decide, ?_⟩
   have e:(rdN v.S a (decide (0=0))).D.flatMap (pgN v.S 0)= [] :=by rw [List.flatMap_eq_nil_iff];intro d _;rfl
   show (a.toNat::(rdN v.S a (decide (0=0))).D.flatMap (pgN v.S 0)).length≤17
   rw [e];show 1≤17;decide
  ·refine⟨by decide, ?_⟩
   obtain⟨_,_,_,_,⟨_,_,g6⟩,_,_⟩:=g
   have h16:(rdN v.S a (decide (1=0))).D.length≤16:=g6
   have hs: ∀D:List Int,(D.flatMap (pgN v.S (0+1))).length=D.length:=fun D=>by
    induction D with
    | nil=>rfl
    | cons d D ih=>
     rw [List.flatMap_cons,lAp,ih,lCn]
     have e:(rdN v.S d (decide (0=0))).D.flatMap (pgN v.S 0)= [] :=by rw [List.flatMap_eq_nil_iff];intro d _;rfl
     have:(pgN v.S (0+1) d).length=1:=by rw [pgN,e];rfl
     omega
   rw [pgN,lCn,hs];omega
  ·exfalso
   have hEe:=congrArg List.length ti.ents
   obtain⟨_,_,_,g3,⟨g4,g5,g6⟩,g7,g8⟩:=g
   rw [dFf (Nat.succ_ne_zero (h+1))] at g5 g7
   have h2:2≤(rdN v.S a false).D.length:=g5
   have h3:lo3 (h+1)*(rdN v.S a false).D.length≤((rdN v.S a false).D.flatMap (wkE v.S (h+2))).length:=lo_sum _ (fun d hd=>lo3_le (h+1) d (g7 d hd))
   have h4:24≤lo3 (h+1):=by
    show 24≤8*lo3 h
    have: ∀h,3≤lo3 h:=fun h=>by
     induction h with
     | zero=>exact Nat.le_refl _
     | succ h ih=>show 3≤8*lo3 h;omega
    have:=this h
    omega
   have h5:lo3 (h+1)*2≤lo3 (h+1)*(rdN v.S a false).D.length:=Nat.mul_le_mul_left _ h2
   rw [wkE,dFf (Nat.succ_ne_zero (h+1)),lAp] at hEe
   omega
theorem bun_mem {P:Nat→Bool}: ∀(n:Nat) (L:List Nat),(∀p,p<n→P p=true→p∈L)→bun P n≤L.length
 | 0,L,_=>Nat.zero_le _
 | n+1,L,h=>by
  rw [bun]
  by_cases hn:P n=true
  ·have hm:=h n (Nat.lt_succ_self n) hn
   have ih:=bun_mem n (L.erase n) (fun p hp hP=>(List.mem_erase_of_ne (by omega)).2 (h p (by omega) hP))
   rw [List.length_erase_of_mem hm] at ih
   have:0<L.length:=List.length_pos_of_mem hm
   rw [if_pos hn];omega
  ·have ih:=bun_mem n L (fun p hp hP=>h p (by omega) hP)
   rw [if_neg hn];omega
theorem VG.bu {k:Nat}{U O:List Nat}{v:VS}(hv:VG k U O v):BU v.m v.old≤U.length+O.length+2:=by
 have h:=bun_mem (P:=bothAt v.m v.old) 512 (0::1::(U++O)) (fun p _ hp=>by
  rcases(both_use hv.m hv.o p).1 hp with c | c | c
  ·rcases p with _ | _ | p
   ·exact List.mem_cons_self ..
   ·exact mCm _ (List.mem_cons_self ..)
   ·omega
  ·exact mCm _ (mCm _ (mAl _ c))
  ·exact mCm _ (mCm _ (mAr _ c)))
 rw [lCn,lCn,lAp] at h
 exact h
def kR (i:Nat):KEY:=(((i%3:Nat):Int),(i:Int))
structure Put0 (S0:DS)(s:SP)(m:BM)(z i:Nat)(v:VS)(a:Int)(h:Nat)(E:List ENT):Prop where
 xi:TXI 300 mu3 S0 s m 2 0 [] v a h E
 n:E.length=i
 all: ∀y∈E, ∃j,j<i∧y.key=kR j∧y.fin=(j:Int)∧y.len=(z:Int)
 has: ∀j,j<i→ ∃y∈E,y.key=kR j
 hi:HiM v.m v.old (60+(z+255)/256*i)
 W:v.S.W.length≤100*i
theorem bun_up (P:Nat→Bool)(n:Nat): ∀j,bun P n≤bun P (n+j)
 | 0=>Nat.le_refl _
 | j+1=>by
  have:=bun_up P n j
  show bun P n≤bun P (n+j)+_
  omega
theorem run_pig {m o:BM}{n k:Nat}(hno: ∀t,t+n≤k→ ¬runF m o t n)(hn:n≤3): ∀j,2+3*j≤k→j≤bun (bothAt m o) (2+3*j)
 | 0,_=>Nat.zero_le _
 | j+1,h=>by
  have ih:=run_pig hno hn j (by omega)
  have e:2+3*(j+1)=2+3*j+1+1+1:=by omega
  rw [e,bun,bun,bun]
  have hc:bothAt m o (2+3*j)=true∨bothAt m o (2+3*j+1)=true∨bothAt m o (2+3*j+1+1)=true:=by
   apply Classical.byContradiction
   intro hc
   refine hno (2+3*j) (by omega) (fun i h1 h2=>?_)
   cases hb:bothAt m o i with
   | false=>rfl
   | true=>
    refine absurd ?_ hc
    rcases(show i=2+3*j∨i=2+3*j+1∨i=2+3*j+1+1 by omega) with q | q | q
    ·exact .inl (by rw [←q];exact hb)
    ·exact .inr (.inl (by rw [←q];exact hb))
    ·exact .inr (.inr (by rw [←q];exact hb))
  rcases hc with c | c | c<;>rw [if_pos c] <;>omega
theorem few_run {k:Nat}{U O:List Nat}{v:VS}(hv:VG k U O v){n:Nat}(hn:n≤3)(hk:200≤k)(hU:U.length+O.length≤62)(hno: ∀t,t+n≤k→ ¬runF v.m v.old t n):False:=by
 have h1:=run_pig hno hn 66 (by omega)
 have h2:=bun_up (bothAt v.m v.old) (2+3*66) 312
 have h3:=hv.bu
 rw [BU] at h3
 have e:2+3*66+312=512:=rfl
 rw [e] at h2
 omega
theorem put_room {k:Nat}{S0:DS}{s:SP}{m:BM}{b h0:Nat}{E0:List ENT}{v:VS}{a:Int}{h:Nat}{E:List ENT}{x:ENT}{text:List UInt8}(X:TXI k mu3 S0 s m b h0 E0 v a h E)
  (hok:entOk (entT x 2 text)=true) (hR:i64R x.key.2∧i64R x.fin) (hc:chkE E x=0) (hk:200≤k) (hn:text.length≤768) (hE:E.length<47) (hT:(txs E).length≤20) (hO:(bsU S0 s b h0 E0).length≤20):
  ∃t m2 v2 a2 h2,PutR k mu3 S0 s m b h0 E0 v a h E x text t m2 v2 a2 h2:=by
 have hn3:(text.length+255)/256≤3:=by omega
 rcases put_spec mu3_lim X hok hR hc with r | ⟨_,hno⟩ | ⟨t,m2,T,_,hF⟩
 ·exact r
 ·have hp:=(ti_few3 X.ti (by omega)).2
  exact(few_run X.ti.vg hn3 hk (by rw [lAp,lCn];omega) hno).elim
 ·exfalso
  obtain⟨q1,q2⟩:=ti_few3 T.ti (by omega)
  rcases hF with hF | hF
  ·refine hF (fre_few ?_)
   rw [lAp,lAp,runL,List.length_range',lCn]
   omega
  ·omega
theorem drop_room {k:Nat}{S0:DS}{s:SP}{m:BM}{b h0:Nat}{E0:List ENT}{v:VS}{a:Int}{h:Nat}{E:List ENT}{y:ENT}(X:TXI k mu3 S0 s m b h0 E0 v a h E)(hy:y∈E)(hW:v.S.W.length≤500000)
  (hk:200≤k) (hE:E.length<48) (hT:(txs E).length≤40) (hO:(bsU S0 s b h0 E0).length≤20): ∃v1 a1 h1 m3,DropR k mu3 S0 s m b h0 E0 v a h E y v1 a1 h1 m3:=by
 rcases drop_spec mu3_lim mu3_two mu3_one X hy hW with r | ⟨_,_,_,_,hF⟩
 ·exact r
 ·obtain⟨q1,q2⟩:=ti_few3 X.ti hE
  refine absurd (fre_few ?_) hF
  rw [lAp,lCn]
  omega
def xK:ENT:=⟨(5,0),0,0,0,1,0,0⟩
def tK:List UInt8:= [107,101,112,116]
structure Kept (S:DS)(s:SP)(m:BM)(b h:Nat)(y:ENT):Prop where
 c:CMT 200 mu3 S s m b h [y]
 key:y.key=(5,0)
 one:nE y=1
 txt:txE S y=tK
 gen:s.gen=2
theorem Kept.few {S:DS}{s:SP}{m:BM}{b h:Nat}{y:ENT}(K:Kept S s m b h y):(txs [y]).length=1∧(bsU S s b h [y]).length≤20:=by
 have ht:(txs [y]).length=1:=by
  show (txP y++ []).length=1
  rw [List.append_nil,txP,runL,List.length_range',K.one]
 have hp:=(ti_few3 (K.c.ti 0 (by decide)) (by show 1<48;decide)).2
 have hp':(pgN S h s.addr).length≤17:=hp
 refine⟨ht, ?_⟩
 rw [bsU,lAp,lCn,ht]
 omega
theorem Kept.to {S S':DS}{s:SP}{m:BM}{b h:Nat}{y:ENT}(K:Kept S s m b h y)(c:CMT 200 mu3 S' s m b h [y] ∧bsU S' s b h [y] =bsU S s b h [y] ∧ ∀x∈ [y],txE S' x=txE S x):Kept S' s m b h y:=
 ⟨c.1,K.key,K.one,by rw [c.2.2 y (List.mem_singleton.2 rfl)];exact K.txt,K.gen⟩
structure KeptR (S:DS)(s:SP)(m:BM)(b h:Nat)(y x:ENT)(text:List UInt8)(t:Nat)(m2:BM)(v2:VS)(a2:Int)(h2:Nat)(v3:VS)(a3:Int)(h3:Nat)(m3:BM):Prop where
 chk:chkE [y] x=0
 p:PutR 200 mu3 S s m b h [y] ⟨S,s.gen+1,m,m⟩ s.addr h [y] x text t m2 v2 a2 h2
 d:DropR 200 mu3 S s m b h [y] v2 a2 h2 [entT x (t:Int) text,y] y v3 a3 h3 m3
 xi:TXI 200 mu3 S s m b h [y] (mapV v3 m3) a3 h3 [entT x (t:Int) text]
 ne: [entT x (t:Int) text,y].find? (fun q=>decide (q.key=(5,0)))=some y
 W2:v2.S.W.length≤S.W.length+80
 W3:v3.S.W.length≤S.W.length+160
theorem Kept.put {S:DS}{s:SP}{m:BM}{b h:Nat}{y:ENT}(K:Kept S s m b h y){x:ENT}{text:List UInt8}(hok:entOk (entT x 2 text)=true)(hR:i64R x.key.2∧i64R x.fin)(hx:x.key.1<5)(hn:text.length≤768)(hW:S.W.length≤4000):
  ∃t m2 v2 a2 h2 v3 a3 h3 m3,KeptR S s m b h y x text t m2 v2 a2 h2 v3 a3 h3 m3:=by
 obtain⟨f1,f2⟩:=K.few
 have hne:y.key≠x.key:=fun e=>by
  have:=congrArg Prod.fst e
  rw [K.key] at this
  have h5:(5:Int)=x.key.1:=this
  omega
 have hc:chkE [y] x=0:=by
  have h1:decide (x.key.1=y.key.1)=false:=by
   rw [K.key]
   exact dFf (by show ¬x.key.1=(5:Int);omega)
  rw [chkE,if_neg (by rw [List.any_cons,dFf hne];simp),if_neg (by rw [List.any_cons,meetsE,h1];simp)]
 obtain⟨t,m2,v2,a2,h2,P⟩:=put_room K.c.begin hok hR hc (by decide) hn (by show 1<47;decide) (by rw [f1];decide) f2
 have hlk:lessK x.key y.key=true:=by
  rw [lessK,K.key,dTt (show x.key.1<((5,0):KEY).1 from hx)];rfl
 have hins:insE [y] (entT x (t:Int) text)= [entT x (t:Int) text,y] :=by
  have e:lessK (entT x (t:Int) text).key y.key=true:=hlk
  rw [insE,List.takeWhile_cons,List.dropWhile_cons,e];rfl
 have hpW:v2.S.W.length≤S.W.length+80:=by
  have:=P.W
  have e:(⟨S,s.gen+1,m,m⟩:VS).S.W.length=S.W.length:=rfl
  rw [e] at this
  omega
 have X2:=P.xi
 rw [hins] at X2
 have htx:(txs [entT x (t:Int) text,y]).length≤4:=by
  have e:txs [entT x (t:Int) text,y] =txP (entT x (t:Int) text)++txs [y] :=rfl
  rw [e,lAp,f1,txP,runL,List.length_range',nE_T]
  omega
 obtain⟨v3,a3,h3,m3,D⟩:=drop_room X2 (mCm _ (List.mem_singleton.2 rfl)) (by omega) (by decide) (by show 2<48;decide) (by omega) f2
 have hne2:(entT x (t:Int) text).key≠(5,0):=fun e=>by
  have:=congrArg Prod.fst e
  have h5:x.key.1=5:=this
  omega
 have hdel:delE [entT x (t:Int) text,y] y.key= [entT x (t:Int) text] :=by
  rw [delE,List.filter_cons,List.filter_cons,K.key,dFf hne2,dTt rfl];rfl
 have X3:=D.xi
 rw [hdel] at X3
 refine⟨t,m2,v2,a2,h2,v3,a3,h3,m3,hc,P,D,X3, ?_,hpW,by have:=D.W;omega⟩
 rw [List.find?_cons,List.find?_cons,dFf hne2,K.key,dTt rfl]
theorem kept_new {S:DS}{m:BM}{s:SP}(c0:CMT 200 mu3 S s m 2 0 [])(hW0:S.W.length=0)(hg:s.gen=1): ∃t m2 v2 a2 h2 t3 m3 m4,PutR 200 mu3 S s m 2 0 [] ⟨S,s.gen+1,m,m⟩ s.addr 0 [] xK tK t m2 v2 a2 h2∧CmG v2 s m m3 m4 a2 h2 t3∧
  Kept (cmS v2.S (spN s a2 h2 t3) m4) (spN s a2 h2 t3) m4 t3 h2 (entT xK (t:Int) tK)∧(cmS v2.S (spN s a2 h2 t3) m4).W.length=0:=by
 have hU:bsU S s 2 0 [] = [2] :=rfl
 have htl:(tK.length+255)/256=1:=by decide
 obtain⟨t,m2,v2,a2,h2,P⟩:=put_room (x:=xK) (text:=tK) c0.begin (by decide) ⟨⟨by decide,by decide⟩,⟨by decide,by decide⟩⟩ (by decide) (by decide) (by decide) (by decide) (by decide) (by rw [hU];decide)
 have hE:insE [] (entT xK (t:Int) tK)= [entT xK (t:Int) tK] :=rfl
 have X2:=P.xi
 rw [hE] at X2
 have hW:=P.W
 rw [htl] at hW
 have hW':v2.S.W.length≤64:=by
  have e:(⟨S,s.gen+1,m,m⟩:VS).S.W.length=0:=hW0
  rw [e] at hW
  exact hW
 have hone:nE (entT xK (t:Int) tK)=1:=by rw [nE_T,htl]
 rcases commit_spec X2 (Nat.le_trans hW' (by decide)) (by omega) with ⟨t3,m3,m4,C,D,_,T⟩ | ⟨_,_,_,_,hF⟩
 ·refine⟨t,m2,v2,a2,h2,t3,m3,m4,P,C,⟨D,rfl,hone,by rw [T _ (List.mem_singleton.2 rfl)];exact P.txt,by show s.gen+1=2;omega⟩, ?_⟩
  exact fl_W C.e4
 ·refine absurd (fre_few ?_) hF
  have hp:=(ti_few3 X2.ti (by show 1<48;decide)).2
  have htx:(txs [entT xK (t:Int) tK]).length=1:=by
   show (txP (entT xK (t:Int) tK)++ []).length=1
   rw [List.append_nil,txP,runL,List.length_range',hone]
  rw [lAp,hU,htx]
  show 1+((pgN v2.S h2 a2).length+1)+1+2≤200
  omega
end Go.Proofs.YtcglabmlhljkmaaGreat
namespace Go.Gv
open Go
section
variable {P:Program} {w0:World} {n:NT} {L:Slots} {H H':List Atom} {Q:Exit→Act→World→Prop} {K:Act→World→Prop} {d:Nat}
variable {ty:TypeId} {pos:String} {aft:Array Edge} {g:Option (Nat×Bool)}
theorem St.froze {w:World}{e:TypeId}{size m g' cap:Nat}{cur:Array Value}{xs:List Value}(hw:St w0 w (own e size (.slice (some ⟨g',0,none⟩) m cap) m xs::H))(hm:0<m)(hg:w.heap[g']? =some (.cells cur e (0,0))):
  St w0 (w.freeze ⟨g',cur.size,none⟩ 1) (ro (.slice (some ⟨g',0,none⟩) m cap) m xs::H):=by
 have hlt:g'<w.heap.size:=(Array.getElem?_eq_some_iff.1 hg).1
 obtain⟨s0,hA0⟩:=hw.2.head
 rcases hA0.2 with ⟨h0,_⟩ | ⟨g2,cap2,cur2,hv,h2,h3,h4,h5,h6⟩
 ·cases h0
 ·cases hv
  have hg2:=(res_some h2).2
  rw [hg] at hg2
  cases hg2
  have hfz:(w.freeze ⟨g',cur.size,none⟩ 1).heap[g']? =some (.cells cur e (cur.size,cur.size+1)):=by
   unfold World.freeze
   simp only [Nat.one_ne_zero,if_false,Array.getElem?_modify,if_true,hg,Option.map_some]
   rfl
  have hother: ∀b,b≠g'→(w.freeze ⟨g',cur.size,none⟩ 1).heap[b]? =w.heap[b]? :=by
   intro b hb
   unfold World.freeze
   simp only [Nat.one_ne_zero,if_false,Array.getElem?_modify]
   rw [if_neg (Ne.symm hb)]
  have hsz:(w.freeze ⟨g',cur.size,none⟩ 1).heap.size=w.heap.size:=by
   unfold World.freeze;simp
  refine hw.upd ⟨by unfold World.freeze;simp,by unfold World.freeze;simp,by unfold World.freeze;simp,by omega⟩ (fun s hs hA=>⟨⟨fun b=>b=g',fun b hb=>?_, ?_⟩,fun b hb _=>hother b (fun e=>hb ?_)⟩)
  ·subst hb
   rcases hA.2 with ⟨_,h0⟩ | ⟨g2,cap2,cur2,hv,q2,_⟩
   ·omega
   ·cases hv;exact⟨by omega, .inl (res_some q2).1⟩
  ·refine⟨_,cap,rfl,⟨h3,h4⟩,fun j u hu=>⟨_,rfl,cur,e,(cur.size,cur.size+1), ?_, ?_, ?_⟩⟩
   ·unfold res;simp only [if_true];exact hfz
   ·rw [Addr.add_lit]
   ·rw [Addr.add_lit]
    have e1:cur.toList.take (m*size)=xs:=h6
    rw [←e1,List.getElem?_take] at hu
    split at hu
    ·simpa using hu
    ·cases hu
  ·subst e
   rcases hA.2 with ⟨_,h0⟩ | ⟨g2,cap2,cur2,hv,q2,_⟩
   ·omega
   ·cases hv;exact(res_some q2).1
theorem o_strBytes {s t e:TypeId}{x:Operand}{l:List UInt8}[hs:TStr P s][ht:TSlice P t e](k: ∀v,Tri w0 K n ((d,v)::L) (ro v l.length (l.map fun c=> .int .u8 (c.toNat:Int))::H))(he:P.underlying e=some (.int .u8))(hl:0<l.length∧l.length≤1000000:=by omega)(hx:ev L x=some (.string ⟨l.toArray⟩):=by rfl)(hn:Nat.blt d n=true:=by rfl):
  Tri w0 (OpG P ⟨some d, .convert s t x,ty,pos,aft,g⟩ K Q) n L H:=
 Tri.valW rfl hn (fun a w ha hw=>by
  have hrun:=Lib.run_convert_string_bytes (P:=P) w s t e ⟨l.toArray⟩ hs.ok ht.ok he
  have hsz:(⟨l.toArray⟩:ByteArray).size=l.length:=by simp [ByteArray.size]
  have hge:=grownCap_ge w l.length 0 e
  have hle:=grownCap_le_maxLen w l.length 0 e (by unfold maxLen;omega)
  rw [hsz] at hrun
  refine⟨.slice (some ⟨w.heap.size,0,none⟩) l.length (grownCap w l.length 0 e),Lib.bytesWorld w e ⟨l.toArray⟩, ?_,fun a' ha'=>k _ a' _ ha' ?_⟩
  ·simp only [execOp,ha.eval hx,Sem.run_bind,hrun,Result.andThen_ok,Sem.run_pure]
  ·rw [Lib.bytesWorld]
   obtain⟨arr,harr⟩: ∃arr,arr=Lib.bytesCells w e ⟨l.toArray⟩:=⟨_,rfl⟩
   have hal:arr.size=grownCap w l.length 0 e:=by
    rw [harr,Lib.bytesCells,hsz]
    simp
    omega
   have hat:arr.toList.take (l.length*1)=l.map fun c=> .int .u8 (c.toNat:Int):=by
    rw [harr,Lib.bytesCells]
    simp
   rw [←harr]
   have ho:(w.drew.alloc (.cells arr e)).ownsRow 0 e 1 (.slice (some ⟨w.heap.size,0,none⟩) l.length (grownCap w l.length 0 e)) l.length (l.map fun c=> .int .u8 (c.toNat:Int)):=
    ⟨by simp, .inr ⟨w.heap.size,_,_,rfl,Nat.zero_le _,heap_alloc_new w.drew _,hge,hle,by rw [hal,Nat.mul_one],hat⟩⟩
   exact St.froze (St.newRow hw ho) hl.1 (Go.heap_alloc_new w.drew _))
end
end Go.Gv
namespace Go.Gv
open Go Go.RowKit
theorem below_of_st {w w':World}{H:List Atom}(h:St w w' (H++ [Ex (hp w)])):Below w.heap.size w w':=
 ⟨h.1.os,h.1.tape,h.1.output,h.1.size,(Sat.exhp (av:=fun _=>True) h.2).1⟩
def LawR (w:World):Value→World→Prop:=fun v w'=> ∃H',(fun v (_:List Atom)=>v= .bool true) v H'∧St w w' (H'++ [Ex (hp w)])
theorem law_calls {P:Program}{f:FuncId}{args:Array Value}{w:World}(h:Calls P f args w (Ret (LawR w))):Calls P f args w fun e w'=>e= .returned (.bool true)∧Below w.heap.size w w':=
 h.mono fun e w' he=>by
  cases e with
  | returned v=>obtain⟨H',rfl,hs⟩:=he;exact⟨rfl,below_of_st hs⟩
  | panicked c=>exact he.elim
  | outgrown=>exact he.elim
theorem fin_law {H R F:List Atom}(w:World)(p:Pulls H (F++ [Ex (hp w)]) R)(v:Value)(hv:v= .bool true): ∀w',St w w' H→LawR w v w':=fun w' hw=>⟨F,hv,(hw.pulls p).1,Sat.left (hw.pulls p).2⟩
end Go.Gv
namespace Go.Proofs.YtcglabmlhljkmaaGreat
open Go Go.RowKit Go.Gv
def xC (x:ACX)(c:Int):ENT:=⟨(ckS x.a1,ckT x.a2),ckE x.a2 x.a3,0,0,c,0,0⟩
def tC (x:ACX):List UInt8:=chB x.a3 (ckN x.a3)
theorem tC_len (x:ACX):1≤(tC x).length∧(tC x).length≤700:=by
 rw [tC,chB_len,ckN];omega
theorem ck_b (x:ACX):(0≤ckS x.a1∧ckS x.a1<3)∧(-200≤ckT x.a2∧ckT x.a2≤200)∧ckT x.a2≤ckE x.a2 x.a3∧ckE x.a2 x.a3≤300:=by
 have h1:=Int.tmod_lt_of_pos x.a2 (show (0:Int)<200 by decide)
 have h2:=Int.lt_tmod_of_pos x.a2 (show (0:Int)<200 by decide)
 rw [ckS,ckT,ckE];omega
theorem xC_ok (x:ACX){c:Int}(hc:1≤c∧c≤200):entOk (entT (xC x c) 2 (tC x))=true∧(i64R (xC x c).key.2∧i64R (xC x c).fin):=by
 have hl:=tC_len x
 obtain⟨h1,h2,h3,h4⟩:=ck_b x
 obtain⟨z,hz⟩: ∃z:Nat,z=(tC x).length:=⟨_,rfl⟩
 rw [←hz] at hl
 have e:entT (xC x c) 2 (tC x)=⟨(ckS x.a1,ckT x.a2),ckE x.a2 x.a3,2,(z:Int),c,0,(crcSum (tC x)).toNat⟩:=by rw [hz];rfl
 refine⟨?_, ?_, ?_⟩
 ·rw [e]
  simp only [entOk,keyOk,betw,pagesE,Bool.and_eq_true,decide_eq_true_eq]
  refine⟨⟨⟨⟨⟨⟨⟨?_, ?_⟩, ?_⟩, ?_⟩, ?_⟩, ?_⟩, ?_⟩, ?_⟩<;>(first | omega | exact dTt (by omega))
 ·show i64R (ckT x.a2)
  rw [i64R];omega
 ·show i64R (ckE x.a2 x.a3)
  rw [i64R];omega
theorem fmS_W {k:Nat}(h:8≤k∧k≤512):(fmS k).W.length=0:=by
 have e:fmS k=(fmD k).1.fl.1:=rfl
 rw [e]
 exact fl_W (fm_spec h).e5
theorem ck_one (a1 a2 a3:Int): ∀y∈ckL a1 a2 a3,y.oneCell'=true:=by
 intro q hq
 simp only [ckL,List.mem_cons,List.not_mem_nil,or_false] at hq
 rcases hq with rfl | rfl | rfl | rfl<;>rfl
structure ABS (s:SP)(m:BM)(b h:Nat)(y:ENT) where
 i:Nat
 S:DS
 pb:Nat
 pv:Nat
 K:Kept S s m b h y
 W:S.W.length≤160*i
 hi:i≤10
structure ABN (s:SP)(m:BM)(b h:Nat)(y:ENT)(i:Nat) where
 S:DS
 pb:Nat
 pv:Nat
 K:Kept S s m b h y
 W:S.W.length≤160*(i+1)
set_option maxRecDepth 8000 in
theorem txnAborts_walk (w:World)(v:Value)(cr:Bool)(row:List ACX)(hr:RdW w v row.length (AXL row))(hok: ∀x∈row,acxOk w x):Calls Tryz.prog 8 #[v, .bool cr] w (Ret (LawR w)):=by
 refine Calls.enter Tryz.func8 rfl rfl rfl (St.rebase w) ?_
 simp only [argSlots]
 have hrl:=hr.le
 have h8:8≤200∧200≤512:=by decide
 have hfo:=fun d=>txn_Format d 200 h8
 have c0:=fm_cmt mu3 h8
 have hW0:(fmS 200).W.length=0:=fmS_W h8
 have hs0:spF 200=⟨1,0,0,2,((200:Nat):Int)⟩:=rfl
 obtain⟨S,hS⟩: ∃S,S=fmS 200:=⟨_,rfl⟩
 obtain⟨m,hm⟩: ∃m,m=fm1 200:=⟨_,rfl⟩
 obtain⟨s,hs⟩: ∃s,s=spF 200:=⟨_,rfl⟩
 rw [←hS, ←hm, ←hs] at c0
 rw [←hS] at hW0
 simp only [←hS, ←hm, ←hs] at hfo
 rw [←hs] at hs0
 have hsg:s.gen=1:=by rw [hs0]
 have hsh:s.height=0:=by rw [hs0]
 have hsa:s.addr=0:=by rw [hs0]
 have hml:=c0.cm.mok.len
 have hgen1:(1:Nat)=s.gen:=hsg.symm
 have h200:((200:Nat):Int)=200:=rfl
 have hnew:=disk_NewD 200 h8
 rw [h200] at hnew
 obtain⟨t,m2,v2,a2,h2,t3,m3,m4,P,C,K0,hW4⟩:=kept_new c0 hW0 hsg
 have X0:=c0.begin
 refine Ws ?_
 refine Zcr hnew ?_
 rintro r1 H1 ⟨d,rfl,rfl⟩
 refine Wap ?_
 refine Ws ?_
 refine Zcs (hfo d) ?_
 rintro r2 H2 ⟨pb,pv,rfl,rfl⟩
 refine Wap ?_
 refine Ws ?_
 refine Zcv law16_stays ?_
 refine Ws ?_
 refine Zz 33 false ?_
 refine Ws ?_
 refine Zz 37 false ?_
 refine Ws ?_
 refine Zz 40 false ?_
 refine Ws ?_
 have hbe:=base_Begin pb d pv S s m (c0.cm.view (s.gen+1) (by omega)).ok (c0.cm.mok.right h8) (by rw [c0.cm.div];exact c0.cm.mok.p)
 refine Zcs hbe ?_
 rintro r4 H4 ⟨pt,tv,rfl,rfl⟩
 refine Wap ?_
 refine Ws ?_
 refine Zz 48 false ?_
 refine Ws ?_
 refine Zbu (ys:= [.int .i64 5, .int .i64 0]) ?_
 refine Ws ?_
 refine Zbu (ys:=entL xK) ?_
 refine Ws ?_
 (refine Zli (ys:=B8 tK) ?_;intro vl)
 refine Ws ?_
 refine ZoconvSS ?_ (he:=by exact Tryz.underlying5) (hm:=by decide)
 refine Tri.open (A:=ro vl 4 (B8 tK)) Wp (fun hx hrx=>?_)
 have hrx:Rd hx vl tK.length (B8 tK):=hrx
 have hput:=txn_PutX mu3_lim X0 P (by decide) ⟨⟨by decide,by decide⟩,⟨by decide,by decide⟩⟩ (by decide) (by show S.W.length≤500000;omega) pt pb tv d pv true vl hx hrx
 refine Zat (blk pt _ _) (blk pt 163 (txL pb tv s.addr ((0:Nat):Int) false)) ?_ (e:=by rw [hsh];rfl)
 refine Ws ?_
 refine Zd hput ?_
 refine Ws ?_
 refine Zz 57 false ?_
 refine Ws ?_
 refine Zcs (txn_Commit pt pb tv d pv v2 a2 h2 s m m3 m4 true t3 C) ?_
 rintro r6 H6 ⟨pv2,rfl,rfl⟩
 refine Wap ?_
 refine Ws ?_
 refine Zz 61 false ?_
 refine Ws ?_
 refine Zat (blk pv2 _ _) (blk pv2 146 (viewL d ⟨cmS v2.S (spN s a2 h2 t3) m4,(spN s a2 h2 t3).gen,m4,m4⟩)) ?_
 obtain⟨y,hy⟩: ∃y,y=entT xK (t:Int) tK:=⟨_,rfl⟩
 obtain⟨s2,hs2⟩: ∃s2,s2=spN s a2 h2 t3:=⟨_,rfl⟩
 obtain⟨S2,hS2⟩: ∃S2,S2=cmS v2.S s2 m4:=⟨_,rfl⟩
 rw [←hy, ←hs2] at K0
 rw [←hs2] at hW4
 rw [←hS2] at K0 hW4
 simp only [←hs2]
 simp only [←hS2]
 have hml4:=K0.c.cm.mok.len
 refine Zd (base_Free pb d pv2 s2 m4 false false hml4) ?_
 refine Ws ?_
 have hs2g:=K0.gen
 have hrm4:=K0.c.cm.mok.right h8
 have hh4:=K0.c.hh
 clear hS2 hs2 hy C P X0 hput hfo hbe c0
 (refine Wl (α:=ABS s2 m4 t3 h2 y) (fun q=>10-q.i) (fun q=> [(0,v),(1, .bool cr),(5, .pointer (some ⟨d,0,none⟩)),(7, .pointer (some ⟨q.pb,0,none⟩)),(11, .int .i64 (freeM m4:Int)),(12, .int .i64 (q.i:Int))]) (fun q=> [blk q.pb 161 (baseL d q.pv s2 m4 false false),blk q.pv 146 (viewL d ⟨q.S,s2.gen,m4,m4⟩),DSK d q.S,Ex (hp w)]) ⟨0,S2,pb,pv2,K0,by omega,by omega⟩ ?_;rintro ⟨i,S,pb,pv,K,hW,hi⟩ mx hmx;(try dsimp only at hmx ⊢))
 (try dsimp only)
 refine Ws ?_
 refine Zlr2 (hr:=hr) ?_
 refine Ws ?_
 (refine ZcB 68 ?_ ?_<;>intro hd1)
 ·have hd1':=of_decide_eq_true hd1
  have hil:i<row.length:=by omega
  refine Ws ?_
  (refine Wcd ?_ ?_<;>intro hd2)
  ·have hi10:i<10:=by omega
   obtain⟨x,hx⟩: ∃x,x=row[i]'hil:=⟨_,rfl⟩
   have hx7:=AXL_seven row i hil
   rw [←hx] at hx7
   obtain⟨hxk,hxu,hx2⟩:=hok x (by rw [hx];exact List.getElem_mem hil)
   have hxl:=tC_len x
   obtain⟨hxo,hxR⟩:=xC_ok x (c:=1) (by decide)
   obtain⟨hxs,_⟩:=ck_b x
   obtain⟨t1,m5,v5,a5,h5,v6,a6,h6,m6,R⟩:=K.put hxo hxR (by show ckS x.a1<5;omega) (by omega) (by omega)
   have hvok:=(K.c.cm.view (s2.gen+1) (by omega)).ok
   have hch:=law16_chunk x.a0 x.a1 x.a2 x.a3 x.a4 x.vk x.va (rdv_one hxk) (rdv_one hxu) hx2
   refine Ws ?_
   refine Zir (hr:=hr) (j:=i) ?_ (hj:=by rfl) (hlt:=by exact hil) (hl:=by rw [AXL_length];omega)
   refine Ws ?_
   refine Zlh (hr:=hr) ?_ (hv:=by exact hx7) (hl:=by rfl)
   refine Ws ?_
   refine Zcv hch ?_
   refine Ws ?_
   refine Zal fun b13=>?_
   refine Ws ?_
   refine ZSa (ys:=ckL x.a1 x.a2 x.a3) ?_ (h1:=by exact ck_one _ _ _)
   refine Ws ?_
   have hbe:=base_Begin pb d pv S s2 m4 hvok hrm4 (by rw [K.c.cm.div];exact K.c.cm.mok.p)
   refine Zcs hbe ?_
   rintro r8 H8 ⟨pu,tu,rfl,rfl⟩
   refine Wap ?_
   refine Ws ?_
   refine Zat (blk pu _ _) (blk pu 163 (txL pb tu s2.addr (h2:Int) false)) ?_ (e:=by rw [hh4])
   refine Zz 86 false ?_
   refine Ws ?_
   refine Zbu (ys:=keyL (xC x 1).key) ?_
   refine Ws ?_
   refine Zbu (ys:=entL (xC x 1)) ?_
   refine Ws ?_
   refine o_strBytes (l:=tC x) (fun vt=>?_) Tryz.underlying5
   refine Tri.open (A:=ro vt (tC x).length (B8 (tC x))) Wp (fun hz hrz=>?_)
   have hrz:Rd hz vt (tC x).length (B8 (tC x)):=hrz
   have hpu:=txn_PutX mu3_lim K.c.begin R.p hxo hxR R.chk (by show S.W.length≤500000;omega) pu pb tu d pv true vt hz hrz
   have hWv:=R.W2
   refine Ws ?_
   refine Zd hpu ?_
   refine Ws ?_
   refine Zz 102 false ?_
   refine Ws ?_
   refine Zbu (ys:=keyL (5,0)) ?_
   refine Ws ?_
   have DR:=R.d
   have hyb:=((K.c.tx y (List.mem_singleton.2 rfl)).bounds).2
   have hky:=K.key
   have X5:=R.p.xi.ti
   have hdr:=txn_Drop pu pb tu d pv v5 a5 h5 s2 m4 true (5,0) X5.vg.ok (by omega) hml4 X5.h5 y v6 a6 h6 m6 (by rw [←hky];exact DR.f.1) (by rw [←hky];exact DR.f.2) (by rw [←hky];exact DR.g) (by rw [←hky];exact DR.d) ⟨by omega,hyb.2⟩ DR.gv DR.ok DR.len DR.rm DR.p
   refine Zd hdr ?_
   refine Ws ?_
   have X6:=R.xi
   have hW6:=R.W3
   have hW6':(mapV v6 m6).S.W.length≤S.W.length+160:=hW6
   have hE6:=X6.ti.ents
   have hwk:h6=0∨wkG (mapV v6 m6).S h6 a6:=X6.ti.g.imp id (fun tg=>tk_wkG h8.2 h6 (rmin h6) a6 tg)
   have hen:=txn_EntriesT pu pb tu d pv (mapV v6 m6) a6 h6 s2 m4 true hml4 X6.ti.vg.ok (by omega) X6.ti.h5 hwk (by rw [hE6];show 1≤1000000;decide)
   rw [hE6] at hen
   refine Zz 107 false ?_
   refine Ws ?_
   refine Zcs hen ?_
   rintro r11 H11 ⟨A11,c11,rfl,rfl⟩
   refine Wap ?_
   refine Ws ?_
   have hcl:(EL [entT (xC x 1) (t1:Int) (tC x)])[0*8+0]? =some (.int .i64 (ckS x.a1)):=rfl
   have hle1:(EL [entT (xC x 1) (t1:Int) (tC x)]).length=8:=rfl
   refine Wm [own 40 8 (.slice A11 [entT (xC x 1) (t1:Int) (tC x)].length c11) [entT (xC x 1) (t1:Int) (tC x)].length (EL [entT (xC x 1) (t1:Int) (tC x)]),blk b13 102 (ckL x.a1 x.a2 x.a3)] ?_
   refine Wq [0,1,2] ?_
   refine ZMb 115 false ?_
   refine Wq [3,4,5,6,7] ?_
   refine ZMb 120 false ?_
   refine Wq [8] ?_
   refine Zm 9 (h:=fun _ _ qK=>by exact Zix (j:=0) qK (hj:=by rfl) (hlt:=by exact Nat.one_pos)) (k:=?_)
   refine Wq [10,11] ?_
   refine Zm 12 (h:=fun _ _ qK=>by exact Zlo (j:=0*8+0) qK (hv:=by exact hcl)) (k:=?_)
   refine Wq [13,14,15,16] ?_
   refine ZE ?_
   refine Ws ?_
   refine Zz 129 false ?_ (hi:=by simp)
   refine Wo ?_
   have hWn:(mapV v6 m6).S.W.length≤100000:=by omega
   have hWm:(mapV v6 m6).S.W.length≤1000000:=by omega
   have hWi:(mapV v6 m6).S.W.length≤160*(i+1):=by omega
   have hft:=law16_fates x.a0 x.a1 x.a2 x.a3 x.a4 x.vk x.va (rdv_one hxk) (rdv_one hxu) x.K x.U (mapV v6 m6).S.W.length hWn
   have hKs:=K.to (X6.still (by omega))
   have hWz: ∀F,((mapV v6 m6).S.cr F).W.length≤160*(i+1):=fun F=>Nat.zero_le _
   (refine Wme (α:=ABN s2 m4 t3 h2 y i) (fun z=> [(0,v),(1, .bool cr),(5, .pointer (some ⟨d,0,none⟩)),(7, .pointer (some ⟨z.pb,0,none⟩)),(11, .int .i64 (freeM m4:Int)),(12, .int .i64 (i:Int))]) (fun z=> [blk z.pb 161 (baseL d z.pv s2 m4 false false),blk z.pv 146 (viewL d ⟨z.S,s2.gen,m4,m4⟩),DSK d z.S,Ex (hp w)]) ?_ ?_;rotate_left;rintro ⟨S',pb',pv',K',hW'⟩;(try dsimp only);rotate_left)
   ·refine Ws ?_
    (refine Wcb ?_ ?_<;>intro hcr)
    ·refine Ws ?_
     refine Wm [Ex (hp w)] ?_
     refine Wq [0,1,2] ?_
     refine Zm 3 (h:=fun _ _ qK=>by exact Zir (hr:=hr) (j:=i) qK (hj:=by rfl) (hlt:=by exact hil) (hl:=by rw [AXL_length];omega)) (k:=?_)
     refine Zm 4 (h:=fun _ _ qK=>by exact Zlh (hr:=hr) qK (hv:=by exact hx7) (hl:=by rfl)) (k:=?_)
     refine Wq [5] ?_
     refine ZA 6 ?_
     refine Zd (disk_WaitingD d (mapV v6 m6).S) ?_
     refine Zw ?_
     refine ZA 7 ?_
     refine Zcr hft ?_ (hpre:=by exact fun w' hw'=>⟨rdw_ex Wp hxk w' hw',rdw_ex Wp hxu w' hw'⟩)
     rintro rF HF ⟨F,hF,rfl⟩
     refine Wap ?_
     refine Tri.shut (e:=189) (size:=2) (v:=rF) Wp (fun hh2 ho2=>?_)
     have hr2:Rd hh2 rF F.length (FL F):=own_Rd ho2
     have hKc:=K.to (X6.crash F)
     refine Zw ?_
     refine ZA 8 ?_
     refine Zcs (disk_CrashD d (mapV v6 m6).S rF F hh2 hr2 X6.ti.vg.on.1 hWm) ?_
     rintro r13 H13 rfl
     refine Wap ?_
     refine Zw ?_
     refine ZE ?_
     refine Ws ?_
     refine Zcs (txn_Mount d hKc.c.cm) ?_
     rintro r14 H14 ⟨pb2,pv3,rfl,rfl⟩
     refine Wap ?_
     refine Ws ?_
     refine Zz 146 false ?_
     refine Ws ?_
     exact Zrc ⟨(mapV v6 m6).S.cr F,pb2,pv3,hKc,hWz F⟩
    ·refine Ws ?_
     refine Zd (txn_Abort pu pb tu d pv a6 (h6:Int) s2 m4 true false hml4) ?_
     refine Ws ?_
     refine Zat (blk pv _ _) (blk pv 146 (viewL d ⟨(mapV v6 m6).S,s2.gen,m4,m4⟩)) ?_
     exact Zrc ⟨(mapV v6 m6).S,pb,pv,hKs,hWi⟩
   (try dsimp only)
   refine Ws ?_
   refine Zcs (law16_allX K'.c pb' d pv' s2.gen (by rw [hs2g];decide) false) ?_
   rintro r15 H15 ⟨A15,c15,rfl,rfl⟩
   refine Wap ?_
   have hcell:(CL S' [y])[0*4+3]? =some (.string ⟨tK.toArray⟩):=by
    show some (Value.string ⟨(txE S' y).toArray⟩)=_
    rw [K'.txt]
   refine Ws ?_
   refine Zz 157 false ?_
   refine Ws ?_
   refine Zz 162 false ?_
   refine Ws ?_
   refine Zix (j:=0) ?_ (hj:=by rfl) (hlt:=by exact Nat.one_pos)
   refine Ws ?_
   refine Zlo ?_ (hv:=by exact hcell)
   refine Ws ?_
   refine Zz 169 false ?_ (hi:=by exact dFf (fun q=>q rfl))
   refine Ws ?_
   refine Zd (base_Free pb' d pv' s2 m4 false false hml4) ?_
   refine Ws ?_
   refine Zz 175 false ?_ (hi:=by exact dFf (fun q=>q rfl))
   refine Ws ?_
   refine Zd (base_Super pb' d pv' s2 m4 false false) ?_
   refine Ws ?_
   refine Zv 177 (.agg (spL s2).toArray) ?_ (hv:=by rfl)
   refine Zofield (t:=22) (v:= .int .u64 (s2.gen:Int)) ?_ (hu:=by exact Tryz.underlying83)
   refine Ws ?_
   refine Zz 180 false ?_ (hi:=by exact dFf (fun q=>q (by rw [hs2g];rfl)))
   refine Ws ?_
   refine Zi 12 ((i+1:Nat):Int) ?_ (hi:=by omega)
   have hi1:i+1≤10:=hi10
   exact Zag ⟨i+1,S',pb',pv',K',hW',hi1⟩
  ·have hi10:i=10:=by omega
   refine Ws ?_
   refine Zd (law16_sound K.c pb d pv false) ?_
   refine Ws ?_
   (first | with_reducible apply Tri.fin | with_reducible apply Tri.finN)
   case hr=>rfl
   case h=>exact ResL.cons (Res1.tmp rfl) ResL.nil
   exact fin_law (F:= []) w Wps _ rfl
 ·refine Ws ?_
  refine Zd (law16_sound K.c pb d pv false) ?_
  refine Ws ?_
  (first | with_reducible apply Tri.fin | with_reducible apply Tri.finN)
  case hr=>rfl
  case h=>exact ResL.cons (Res1.tmp rfl) ResL.nil
  exact fin_law (F:= []) w Wps _ rfl
end Go.Proofs.YtcglabmlhljkmaaGreat
namespace Go.Gv
open Go Go.RowKit
def Rds (P:Program)(W:World):Nat→TypeId→List Value→Prop
 | 0,_,_=>False
 | f+1,t,cs=>match P.underlying t with
  | some .bool=> ∃b,cs= [.bool b]
  | some (.int k)=> ∃n,cs= [.int k n] ∧k.min≤n∧n≤k.max
  | some .string=> ∃s,cs= [.string s] ∧s.size≤maxLen
  | some (.slice e)=>cs= [.slice none 0 0] ∨ ∃a len cap,cs= [.slice (some a) len cap] ∧len≤cap∧cap≤maxLen∧ ∀i,i<len→ ∃ys,ys.length=P.cellsOf e∧(∀j,j<P.cellsOf e→W.cell? ((a.add (i*P.cellsOf e)).add j)=ys[j]?)∧Rds P W f e ys
  | some (.struct fs)=>cs.length=P.cellsOf t∧ ∀x∈fs.toList,Rds P W f x.type ((cs.drop x.offset).take (P.cellsOf x.type))
  | some (.array n e)=>cs.length=P.cellsOf t∧ ∀i,i<n→Rds P W f e ((cs.drop (i*P.cellsOf e)).take (P.cellsOf e))
  | _=>True
theorem mapM_all {α β:Type}{g:α→Option β}: ∀{l:List α} {ys:List β},l.mapM g=some ys→ ∀x∈l, ∃y,g x=some y
 | [],_,_,x,hx=>by simp at hx
 | a::l,ys,h,x,hx=>by
  rw [List.mapM_cons] at h
  simp only [bind,Option.bind_eq_some_iff,pure,Option.some.injEq] at h
  obtain⟨y,h1,ys',h2,_⟩:=h
  rcases List.mem_cons.1 hx with rfl | hx
  ·exact⟨y,h1⟩
  ·exact mapM_all h2 x hx
theorem rds_of {H:Type}{enc:TypeId×Value→H}{P:Program}{W:World}{sp:Nat→Bool}: ∀(fuel:Nat) (t:TypeId) (cs:List Value) (x:DataW H×List MemPlace),DataW.trod enc P W 0 sp true fuel t cs=some x→Rds P W fuel t cs
 | 0,_,_,_,h=>by simp [DataW.trod] at h
 | f+1,t,cs,x,h=>by
  have ih:=rds_of (H:=H) (enc:=enc) (P:=P) (W:=W) (sp:=sp) f
  unfold Rds
  cases hu:P.underlying t with
  | none=>trivial
  | some k=>
   cases k with
   | bool=>
    match cs with
    | [] =>simp [DataW.trod,hu] at h
    | [v] =>cases v<;>simp [DataW.trod,hu] at h ⊢
    | v::u::cs=>cases v<;>simp [DataW.trod,hu] at h
   | int k=>
    match cs with
    | [] =>simp [DataW.trod,hu] at h
    | [v] =>
     cases v<;>simp [DataW.trod,hu] at h
     exact⟨_,by rw [h.1.1],by simpa [Lit.wf] using h.1.2⟩
    | v::u::cs=>cases v<;>simp [DataW.trod,hu] at h
   | string=>
    match cs with
    | [] =>simp [DataW.trod,hu] at h
    | [v] =>
     cases v<;>simp [DataW.trod,hu] at h ⊢
     exact h.1
    | v::u::cs=>cases v<;>simp [DataW.trod,hu] at h
   | slice e=>
    rcases DataW.trod_slice hu h with h0 | ⟨a,len,cap,elems,rest,n,hn,rfl,_,hb,hl,hm,hlen,hel,_,_⟩
    ·exact .inl h0.1
    ·refine .inr ⟨a,len,cap,rfl,hl,hm,fun i hi=>?_⟩
     have hi':elems[i]? =some (elems[i]'(by omega)):=gEe _
     have h1:=hel i hi
     rw [hi',Option.bind_eq_some_iff] at h1
     obtain⟨ys,hys,hy⟩:=h1
     obtain⟨_,hl2,hcell⟩:=World.cells?_some hys
     have hfn:f=n:=by omega
     subst hfn
     exact⟨ys,hl2,hcell,ih e ys _ hy⟩
   | struct fs=>
    have h2:cs.length=P.cellsOf t∧ ∃xs,fs.toList.mapM (fun f'=>DataW.trod enc P W 0 sp true f f'.type ((cs.drop f'.offset).take (P.cellsOf f'.type)))=some xs:=by
     unfold DataW.trod at h
     simp only [hu] at h
     split at h
     ·rename_i hl
      refine⟨hl, ?_⟩
      rw [Option.map_eq_some_iff] at h
      obtain⟨xs,h,_⟩:=h
      exact⟨xs,h⟩
     ·cases h
    obtain⟨hl,xs,hxs⟩:=h2
    exact⟨hl,fun y hy=>by obtain⟨z,hz⟩:=mapM_all hxs y hy;exact ih _ _ _ hz⟩
   | array n e=>
    have h2:cs.length=P.cellsOf t∧ ∃xs,(List.range n).mapM (fun i=>DataW.trod enc P W 0 sp true f e ((cs.drop (i*P.cellsOf e)).take (P.cellsOf e)))=some xs:=by
     unfold DataW.trod at h
     simp only [hu] at h
     split at h
     ·rename_i hl
      refine⟨hl, ?_⟩
      rw [Option.map_eq_some_iff] at h
      obtain⟨xs,h,_⟩:=h
      exact⟨xs,h⟩
     ·cases h
    obtain⟨hl,xs,hxs⟩:=h2
    exact⟨hl,fun i hi=>by obtain⟨z,hz⟩:=mapM_all hxs i (List.mem_range.2 hi);exact ih _ _ _ hz⟩
   | _=>trivial
theorem cell_obj {W:World}{b:Addr}{u:Value}(hc:W.cell? b=some u): ∃cs T fr,W.heap[b.block]? =some (.cells cs T fr)∧b.spot=none∧cs[b.off]? =some u:=by
 unfold World.cell? at hc
 cases hq:W.heap[b.block]? with
 | none=>simp [hq] at hc
 | some o=>
  cases o with
  | cells cs T fr=>
   simp only [hq] at hc
   split at hc
   ·cases hc
   ·rename_i hs
    exact⟨cs,T,fr,rfl,by simpa using hs,hc⟩
  | _=>simp [hq] at hc
theorem flat_get {α:Type}{s:Nat}(hs:0<s): ∀{Ls:List (List α)} {j:Nat} {u:α},(∀ys∈Ls,ys.length=s)→Ls.flatten[j]? =some u→ ∃ys,Ls[j/s]? =some ys∧ys[j%s]? =some u
 | [],j,u,_,h=>by simp at h
 | ys::Ls,j,u,hl,h=>by
  rw [List.flatten_cons,List.getElem?_append] at h
  have hy:=hl ys (by simp)
  split at h
  ·rename_i hj
   rw [hy] at hj
   exact⟨ys,by rw [Nat.div_eq_of_lt hj];rfl,by rw [Nat.mod_eq_of_lt hj];exact h⟩
  ·rename_i hj
   rw [hy] at hj h
   obtain⟨zs,h1,h2⟩:=flat_get hs (fun zs hz=>hl zs (by simp [hz])) h
   have e1:j/s=(j-s)/s+1:=by
    rw [←Nat.sub_add_cancel (Nat.not_lt.1 hj),Nat.add_div_right _ hs,Nat.add_sub_cancel]
   have e2:j%s=(j-s)%s:=by
    rw [←Nat.sub_add_cancel (Nat.not_lt.1 hj),Nat.add_mod_right,Nat.add_sub_cancel]
   exact⟨zs,by rw [e1];exact h1,by rw [e2];exact h2⟩
theorem choice_list {α:Type}{p:Nat→α→Prop}: ∀n,(∀i,i<n→ ∃y,p i y)→ ∃l:List α,l.length=n∧ ∀i y,l[i]? =some y→p i y
 | 0,_=>⟨[],rfl,fun i y h=>by simp at h⟩
 | n+1,h=>by
  obtain⟨l,h1,h2⟩:=choice_list n (fun i hi=>h i (by omega))
  obtain⟨y,hy⟩:=h n (by omega)
  refine⟨l++ [y],by simp [h1],fun i z hz=>?_⟩
  rw [List.getElem?_append] at hz
  split at hz
  ·exact h2 i z hz
  ·rename_i hi
   have:i=n:=by
    have:=(List.getElem?_eq_some_iff.1 hz).1
    simp at this;omega
   subst this
   rw [h1,Nat.sub_self] at hz
   have e:y=z:=by simpa using hz
   rw [←e];exact hy
theorem rds_slice {P:Program}{W:World}{f:Nat}{t e:TypeId}{s:Nat}(hu:P.underlying t=some (.slice e))(hs:P.cellsOf e=s)(hp:0<s){a:Option Addr}{len cap:Nat}(h:Rds P W (f+1) t [.slice a len cap]):
  ∃Ls:List (List Value),Ls.length=len∧(∀ys∈Ls,ys.length=s∧Rds P W f e ys)∧RdW W (.slice a len cap) len Ls.flatten:=by
 unfold Rds at h
 simp only [hu,hs] at h
 rcases h with h | ⟨a',len',cap',h1,h2,h3,h4⟩
 ·simp only [List.cons.injEq,Value.slice.injEq,and_true] at h
  obtain⟨rfl,rfl,rfl⟩:=h
  exact⟨[],rfl,by simp,none,0,rfl,⟨Nat.le_refl _,Nat.zero_le _⟩,fun j u hu=>by simp at hu⟩
 ·simp only [List.cons.injEq,Value.slice.injEq,and_true] at h1
  obtain⟨rfl,rfl,rfl⟩:=h1
  obtain⟨Ls,l1,l2⟩:=choice_list len h4
  have hl: ∀ys∈Ls,ys.length=s∧Rds P W f e ys:=fun ys hy=>by
   obtain⟨i,hi⟩:=List.getElem?_of_mem hy
   exact⟨(l2 i ys hi).1,(l2 i ys hi).2.2⟩
  refine⟨Ls,l1,hl,some a',cap,rfl,⟨h2,h3⟩,fun j u hj=>?_⟩
  obtain⟨ys,q1,q2⟩:=flat_get hp (fun ys hy=>(hl ys hy).1) hj
  have hcell:=(l2 _ _ q1).2.1 (j%s) (Nat.mod_lt _ hp)
  rw [q2,Addr.add_add,Nat.mul_comm,Nat.div_add_mod] at hcell
  obtain⟨cs,T,fr,g1,g2,g3⟩:=cell_obj hcell
  have hb:(a'.add j).block=a'.block:=by unfold Addr.add;split<;>rfl
  rw [hb] at g1
  exact⟨a',rfl,cs,T,fr,g1,g2,g3⟩
theorem flat_ints {k:IntKind}: ∀{Ls:List (List Value)},(∀ys∈Ls, ∃n,ys= [.int k n] ∧k.min≤n∧n≤k.max)→ ∃l:List Int,l.length=Ls.length∧(∀n∈l,k.min≤n∧n≤k.max)∧Ls.flatten=l.map (.int k)
 | [],_=>⟨[],rfl,by simp,rfl⟩
 | ys::Ls,h=>by
  obtain⟨l,h1,h2,h3⟩:=flat_ints (Ls:=Ls) (fun zs hz=>h zs (mCm _ hz))
  obtain⟨n,rfl,hn⟩:=h ys (by simp)
  exact⟨n::l,by simp [h1],fun x hx=>by rcases List.mem_cons.1 hx with rfl | hx;exact hn;exact h2 x hx,by rw [List.flatten_cons,h3];rfl⟩
theorem flat_bools: ∀{Ls:List (List Value)},(∀ys∈Ls, ∃b,ys= [.bool b])→ ∃l:List Bool,l.length=Ls.length∧Ls.flatten=l.map .bool
 | [],_=>⟨[],rfl,rfl⟩
 | ys::Ls,h=>by
  obtain⟨l,h1,h3⟩:=flat_bools (Ls:=Ls) (fun zs hz=>h zs (mCm _ hz))
  obtain⟨n,rfl⟩:=h ys (by simp)
  exact⟨n::l,by simp [h1],by rw [List.flatten_cons,h3];rfl⟩
theorem rds_int {P:Program}{W:World}{f:Nat}{t:TypeId}{k:IntKind}(hu:P.underlying t=some (.int k)){cs:List Value}(h:Rds P W f t cs): ∃n,cs= [.int k n] ∧k.min≤n∧n≤k.max:=by
 cases f with
 | zero=>exact h.elim
 | succ f=>unfold Rds at h;simpa only [hu] using h
theorem rds_bool {P:Program}{W:World}{f:Nat}{t:TypeId}(hu:P.underlying t=some .bool){cs:List Value}(h:Rds P W f t cs): ∃b,cs= [.bool b] :=by
 cases f with
 | zero=>exact h.elim
 | succ f=>unfold Rds at h;simpa only [hu] using h
theorem rds_ints {P:Program}{W:World}{t e:TypeId}{k:IntKind}(hu:P.underlying t=some (.slice e))(he:P.underlying e=some (.int k))(hs:P.cellsOf e=1){a:Option Addr}{len cap:Nat}(h: ∃f,Rds P W f t [.slice a len cap]):
  ∃l:List Int,l.length=len∧(∀n∈l,k.min≤n∧n≤k.max)∧RdW W (.slice a len cap) len (l.map (.int k)):=by
 obtain⟨f,h⟩:=h
 cases f with
 | zero=>exact h.elim
 | succ f=>
  obtain⟨Ls,h1,h2,h3⟩:=rds_slice hu hs (by omega) h
  obtain⟨l,g1,g2,g3⟩:=flat_ints (k:=k) (fun ys hy=>rds_int he (h2 ys hy).2)
  exact⟨l,by rw [g1,h1],g2,by rw [←g3];exact h3⟩
theorem rds_bools {P:Program}{W:World}{t e:TypeId}(hu:P.underlying t=some (.slice e))(he:P.underlying e=some .bool)(hs:P.cellsOf e=1){a:Option Addr}{len cap:Nat}(h: ∃f,Rds P W f t [.slice a len cap]):
  ∃l:List Bool,l.length=len∧RdW W (.slice a len cap) len (l.map .bool):=by
 obtain⟨f,h⟩:=h
 cases f with
 | zero=>exact h.elim
 | succ f=>
  obtain⟨Ls,h1,h2,h3⟩:=rds_slice hu hs (by omega) h
  obtain⟨l,g1,g3⟩:=flat_bools (fun ys hy=>rds_bool he (h2 ys hy).2)
  exact⟨l,by rw [g1,h1],by rw [←g3];exact h3⟩
theorem bytes_of: ∀l:List Int,(∀n∈l,0≤n∧n≤255)→ ∃b:List UInt8,b.length=l.length∧l.map (Value.int .u8)=b.map fun c=> .int .u8 (c.toNat:Int)
 | [],_=>⟨[],rfl,rfl⟩
 | n::l,h=>by
  obtain⟨b,h1,h2⟩:=bytes_of l (fun m hm=>h m (by simp [hm]))
  have hn:=h n (by simp)
  refine⟨UInt8.ofNat n.toNat::b,by simp [h1], ?_⟩
  rw [List.map_cons,List.map_cons,h2]
  congr 2
  simp;omega
theorem rds_bytes {P:Program}{W:World}{t e:TypeId}(hu:P.underlying t=some (.slice e))(he:P.underlying e=some (.int .u8))(hs:P.cellsOf e=1){a:Option Addr}{len cap:Nat}(h: ∃f,Rds P W f t [.slice a len cap]):
  ∃l:List UInt8,l.length=len∧RdW W (.slice a len cap) len (l.map fun c=> .int .u8 (c.toNat:Int)):=by
 obtain⟨l,h1,h2,h3⟩:=rds_ints hu he hs h
 obtain⟨b,g1,g2⟩:=bytes_of l (fun n hn=>h2 n hn)
 exact⟨b,by rw [g1,h1],by rw [←g2];exact h3⟩
end Go.Gv
