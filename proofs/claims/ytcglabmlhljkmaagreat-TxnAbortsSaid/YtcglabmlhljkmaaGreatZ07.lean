/- Texts of this claim, put together: SlWalk6, TvWalk13, TvPlain5, TvWalk8, TvWalk9, SlWalk4, TvWalk10, TvWalk14, TvWalk5, TvWalk15, TxWalk3, TxWalk15, TxWalk16, TxWalk14, TvWalk17, TxWalk4, TvPlain9, TvPlain20, TvWalk19, TvWalk20, TvWalk21. -/
import Derived.Test.YtcglabmlhljkmaaGreatZ02
import Derived.Test.YtcglabmlhljkmaaGreatZ06
import Derived.Test.YtcglabmlhljkmaaGreatZ04
import Derived.Test.YtcglabmlhljkmaaGreatZ05
import Derived.Test.YtcglabmlhljkmaaGreatZ01
import Derived.Test.YtcglabmlhljkmaaGreatZ00
set_option maxHeartbeats 64000000
set_option linter.unusedVariables false
set_option linter.unusedSimpArgs false
namespace Go.Proofs.YtcglabmlhljkmaaGreat
open Go Go.RowKit Go.Gv
theorem put_take {α:Type}{C N R:List α}{a k:Nat}(h:a≤C.length)(hk:k=a+N.length):(C.take a++N++R).take k=C.take a++N:=by
 subst hk
 have hl:(C.take a++N).length=a+N.length:=by rw [lAp,lTk];omega
 rw [←hl,List.take_left]
theorem put_low {α:Type}{C N R:List α}{a k:Nat}(h:a≤C.length)(hk:k≤a):(C.take a++N++R).take k=C.take k:=by
 rw [aAs,List.take_append_of_le_length (by rw [lTk];omega),List.take_take,Nat.min_eq_left hk]
theorem put_high {α:Type}{C N:List α}{a b k:Nat}(h:a≤C.length)(hb:b=a+N.length)(hk:b≤k):(C.take a++N++C.drop b).drop k=C.drop k:=by
 subst hb
 have hl:(C.take a++N).length=a+N.length:=by rw [lAp,lTk];omega
 rw [List.drop_append,List.drop_of_length_le (by omega),nAp,hl,List.drop_drop]
 congr 1;omega
theorem putv_len {α:Type}{C N:List α}{a b:Nat}(hb:b=a+N.length)(h:b≤C.length):(C.take a++N++C.drop b).length=C.length:=by
 subst hb
 rw [lAp,lAp,lTk,lDp];omega
theorem put_mid {α:Type}{C N R:List α}{a:Nat}(h:a≤C.length):(C.take a++N++R).drop a=N++R:=by
 have hl:(C.take a).length=a:=by rw [lTk];omega
 conv=>lhs;rw [aAs,List.drop_append,List.drop_of_length_le (by omega),nAp,hl,Nat.sub_self,List.drop_zero]
def zeroint:List Value:= [.int .i64 0]
theorem zero_oneint: ∀y∈zeroint,y.oneCell'=true:=by decide
set_option maxRecDepth 4000 in
theorem slices_Replint (A:Option Addr)(n c i q:Nat)(u:Value)(m:Nat)(xs ys:List Value)(hq:1≤q)(hi:i+q≤n)(hm:1≤m)(hb:n+m≤100000)(hxl:xs.length=n*1)(hyl:ys.length=m*1)(h1x: ∀y∈xs,y.oneCell'=true)(h1y: ∀y∈ys,y.oneCell'=true):
  Gv.Spec Tryz.prog 150 #[.slice A n c, .int .i64 (i:Int), .int .i64 ((i+q:Nat):Int),u] [own 3 1 (.slice A n c) n xs,own 3 1 u m ys]
  (fun r H'=> ∃A' c',r= .slice A' (i+m+(n-(i+q))) c'∧H'= [own 3 1 (.slice A' (i+m+(n-(i+q))) c') (i+m+(n-(i+q))) (xs.take (i*1)++ys++xs.drop ((i+q)*1)),own 3 1 u m ys]):=by
 refine Gv.Spec.of (fun w h0 hw=>?_)
 refine Calls.enter Tryz.func150 rfl rfl rfl hw ?_
 simp only [argSlots]
 refine Wap ?_
 have hin:i<n:=by omega
 obtain⟨hl1,_⟩:=cut8 hxl (Nat.le_of_lt hin)
 obtain⟨_,hl2⟩:=cut8 hxl hi
 obtain⟨tot,htot⟩: ∃tot,tot=i+m+(n-(i+q)):=⟨_,rfl⟩
 rw [←htot]
 refine Ws ?_
 refine Zsl (lo:=i) (hi:=i+q) (m:=n) (xs:=xs) ?_ (hr:=by exact rdw_own (v:= .slice A n c) Wp)
 refine Ws ?_
 refine Zz 21 false ?_ (hi:=by exact dFf (by omega))
 refine Ws ?_
 by_cases hjn:i+q=n
 ·have hd0:xs.drop ((i+q)*1)= [] :=List.drop_of_length_le (by rw [hjn];omega)
  have htm:tot=i+m:=by omega
  rw [hd0,List.append_nil,htm]
  refine Zz 29 true ?_ (hi:=by exact dTt (by omega))
  refine Ws ?_
  by_cases hmq:n≤i+m
  ·refine Zsl (lo:=0) (hi:=i) (m:=n) (xs:=xs) ?_ (hr:=by exact rdw_own (v:= .slice A n c) Wp)
   refine Ws ?_
   refine Tri.ownCut (v:= .slice A n c) (e:=3) (size:=1) i Wp (Nat.le_of_lt hin) ?_
   refine Zap (m2:=m) (news:=ys) ?_ (hr:=by exact rdw_own (v:=u) Wp) (hl:=by exact hyl) (h1:=by exact h1y)
   intro vr
   (refine Tri.shape (e:=3) (size:=1) (v:=vr) Wp ?_;rintro ⟨A2,c2,rfl⟩)
   refine Ws ?_
   refine Zz 39 false ?_ (hi:=by exact dFf (by omega))
   refine Ws ?_
   exact Zfn [own 3 1 (.slice A2 (i+m) c2) (i+m) (xs.take (i*1)++ys),own 3 1 u m ys] (hq:=by exact⟨A2,c2,rfl,rfl⟩)
  ·refine Tri.ownBlk (e:=3) (size:=1) (v:= .slice A n c) (m:=n) (xs:=xs) Wp (by omega) (fun g cap rest hv hc hl hxl2=>?_)
   cases hv
   have hcm:c≤9223372036854775807:=hc.2
   obtain⟨C,hC⟩: ∃C,C=xs++rest:=⟨_,rfl⟩
   rw [←hC] at hl ⊢
   have hCt:C.take (i*1)=xs.take (i*1):=by rw [hC,List.take_append_of_le_length (by omega)]
   refine ZosliceB (lo:=0) (hi:=i) (m:=n) ?_
   refine Ws ?_
   refine Zv 32 (.slice (some ⟨g,0,none⟩) i c) ?_ (hv:=by rfl)
   refine ZoappendR (m1:=i) (m2:=m) (news:=ys) ?_ (hr:=by exact rdw_own (v:=u) Wp) (hl:=by exact hyl) (hroom:=by omega) (hfit:=by omega) (h1:=by exact h1y)
   have hC1l:(C.take (i*1)++ys++C.drop (i*1+m*1)).length=C.length:=putv_len (by omega) (by omega)
   obtain⟨C1,hC1⟩: ∃C1,C1=C.take (i*1)++ys++C.drop (i*1+m*1):=⟨_,rfl⟩
   rw [←hC1] at hC1l ⊢
   have h1t:C1.take ((i+m)*1)=xs.take (i*1)++ys:=by rw [hC1,put_take (by omega) (by omega),hCt]
   refine Ws ?_
   refine Zz 39 true ?_ (hi:=by exact dTt (by omega))
   refine Ws ?_
   refine ZosliceB (lo:=i+m) (hi:=n) (m:=n) ?_
   refine Ws ?_
   refine Zoclear ?_ (hfit:=by rw [hC1l];omega) (h1:=by exact zero_oneint)
   refine Ws ?_
   refine Tri.blkOwn2 (e:=3) (size:=1) (m:=i+m) (cap:=c) (xs:=xs.take (i*1)++ys) Wp ⟨by omega,hc.2⟩ (by rw [putv_len (by rw [repl_len (s:=1) rfl]) (by rw [hC1l];omega),hC1l,hl]) (by rw [lAp];omega) (by
    rw [put_low (by rw [hC1l];omega) (by rw [lAp];omega),show (xs.take (i*1)++ys).length=(i+m)*1 by rw [lAp];omega,h1t]) ?_
   exact Zfn [own 3 1 (.slice (some ⟨g,0,none⟩) (i+m) c) (i+m) (xs.take (i*1)++ys),own 3 1 u m ys] (hq:=by exact⟨some ⟨g,0,none⟩,c,rfl,rfl⟩)
 ·have hqn:i+q<n:=by omega
  have hXl:(xs.take (i*1)++ys++xs.drop ((i+q)*1)).length=tot*1:=by simp only [lAp];omega
  refine Zz 29 false ?_ (hi:=by exact dFf (by omega))
  refine Ws ?_
  refine Tri.ownBlk (e:=3) (size:=1) (v:= .slice A n c) (m:=n) (xs:=xs) Wp (by omega) (fun g cap rest hv hc hl hxl2=>?_)
  cases hv
  have hcm:c≤9223372036854775807:=hc.2
  refine Tri.ownBlk (e:=3) (size:=1) (v:=u) (m:=m) (xs:=ys) Wp hm (fun gu capu restu hvu hcu hlu hyl2=>?_)
  subst hvu
  have hcum:capu≤9223372036854775807:=hcu.2
  obtain⟨C,hC⟩: ∃C,C=xs++rest:=⟨_,rfl⟩
  rw [←hC] at hl ⊢
  have hCt:C.take (i*1)=xs.take (i*1):=by rw [hC,List.take_append_of_le_length (by omega)]
  have hCd:(C.drop ((i+q)*1)).take (xs.drop ((i+q)*1)).length=xs.drop ((i+q)*1):=by rw [hC,List.drop_append_of_le_length (by omega),List.take_left]
  have hyt:((ys++restu).drop 0).take ys.length=ys:=by rw [List.drop_zero,List.take_left]
  have h1d: ∀y∈xs.drop ((i+q)*1),y.oneCell'=true:=fun y hy=>h1x y (List.mem_of_mem_drop hy)
  have hyt2:ys.take (m*1)=ys:=List.take_of_length_le (by omega)
  have hdt:(xs.drop ((i+q)*1)).take ((n-(i+q))*1)=xs.drop ((i+q)*1):=List.take_of_length_le (by omega)
  refine Wm [] ?_
  refine Wq [0,1] ?_
  refine Zm 2 (h:=fun _ _ qK=>by exact ZosliceB (lo:=0) (hi:=i) (m:=n) qK) (k:=?_)
  refine Wq [3,4,5,6,7,8] ?_
  refine Zm 9 (h:=fun _ _ qK=>by exact ZosliceB (lo:=i+q) (hi:=n) (m:=n) qK) (k:=?_)
  refine Wq [10,11,12] ?_
  refine ZE ?_
  refine Zi 10 (tot:Int) ?_ (hi:=by omega)
  refine Ws ?_
  refine Zocap ?_
  refine Ws ?_
  by_cases hroom:tot≤c
  ·refine Zz 60 false ?_ (hi:=by exact dFf (by omega))
   refine Ws ?_
   refine ZosliceB (lo:=0) (hi:=tot) (m:=n) ?_
   refine Zv 86 (.slice (some ⟨g,0,none⟩) tot c) ?_ (hv:=by rfl)
   refine Ws ?_
   by_cases hmq:m≤q
   ·refine Zz 92 true ?_ (hi:=by exact dTt (by omega))
    refine Ws ?_
    refine ZosliceB (lo:=i) (hi:=tot) (m:=tot) ?_
    refine Ws ?_
    refine ZocopyG (m:=m) (q:=m) (news:=ys) ?_ (hr:=by exact rdw_blkAt (b:=gu) Wp ⟨hcu.1,hcum⟩ hyt) (hl:=by omega) (hfit:=by omega) (h1:=by exact h1y)
    rw [hyt2,Nat.zero_add]
    have hC1l:(C.take (i*1)++ys++C.drop (i*1+m*1)).length=C.length:=putv_len (by omega) (by omega)
    have h1dr:(C.take (i*1)++ys++C.drop (i*1+m*1)).drop ((i+q)*1)=C.drop ((i+q)*1):=put_high (by omega) (by omega) (by have:=Nat.mul_le_mul_right 1 hmq;omega)
    have h1t:(C.take (i*1)++ys++C.drop (i*1+m*1)).take ((i+m)*1)=xs.take (i*1)++ys:=by rw [put_take (by omega) (by omega),hCt]
    obtain⟨C1,hC1⟩: ∃C1,C1=C.take (i*1)++ys++C.drop (i*1+m*1):=⟨_,rfl⟩
    rw [←hC1] at hC1l h1t h1dr ⊢
    rw [←h1dr] at hCd
    refine Ws ?_
    refine Wm [] ?_
    refine Wq [0,1,2,3,4] ?_
    refine Zm 5 (h:=fun _ _ qK=>by exact ZosliceB (lo:=i+m) (hi:=tot) (m:=tot) qK) (k:=?_)
    refine Wq [6,7] ?_
    refine Zm 8 (h:=fun _ _ qK=>by exact ZosliceB (lo:=i+q) (hi:=n) (m:=n) qK) (k:=?_)
    refine ZA 9 ?_
    refine ZocopyG (m:=n-(i+q)) (q:=n-(i+q)) (news:=xs.drop ((i+q)*1)) ?_ (hr:=by exact rdw_blkAt (o':=0+(i+q)*1) Wp ⟨by omega,by omega⟩ (by rw [Nat.zero_add];exact hCd)) (hl:=by omega) (hfit:=by rw [hC1l];omega) (h1:=by exact h1d)
    rw [hdt,Nat.zero_add ((i+m)*1)]
    have hC2l:(C1.take ((i+m)*1)++xs.drop ((i+q)*1)++C1.drop ((i+m)*1+(n-(i+q))*1)).length=C.length:=by rw [putv_len (by omega) (by rw [hC1l];omega),hC1l]
    have h2t:(C1.take ((i+m)*1)++xs.drop ((i+q)*1)++C1.drop ((i+m)*1+(n-(i+q))*1)).take (tot*1)=xs.take (i*1)++ys++xs.drop ((i+q)*1):=by rw [put_take (by rw [hC1l];omega) (by omega),h1t]
    obtain⟨C2,hC2⟩: ∃C2,C2=C1.take ((i+m)*1)++xs.drop ((i+q)*1)++C1.drop ((i+m)*1+(n-(i+q))*1):=⟨_,rfl⟩
    rw [←hC2] at hC2l h2t ⊢
    refine Zw ?_
    refine ZE ?_
    refine Ws ?_
    by_cases hmq2:m=q
    ·have hnt:tot=n:=by omega
     have hxt:(C2.drop 0).take (n*1)=C2.take (n*1):=by rw [List.drop_zero]
     have hx2:(C2.take (n*1)).length=n*1:=by rw [lTk];omega
     refine Zsl (lo:=tot) (hi:=n) (m:=n) (xs:=C2.take (n*1)) ?_ (hr:=by exact rdw_blkAt (b:=g) Wp ⟨by omega,hcm⟩ (by rw [List.drop_zero,hx2]))
     obtain⟨A0,hA0⟩: ∃A0,subv (.slice (some ⟨g,0,none⟩) n c) 1 tot n= .slice A0 0 (c-tot):=⟨_,by simp only [subv];rw [show n-tot=0 by omega]⟩
     refine Zv 110 (.slice A0 0 (c-tot)) ?_ (hv:=by exact hA0)
     refine Ws ?_
     refine Zoclear0 ?_
     refine Ws ?_
     refine Tri.blkOwn2 (b:=gu) (e:=3) (size:=1) (m:=m) (cap:=capu) (xs:=ys) Wp hcu hlu hyl (by rw [List.take_left]) ?_
     refine Tri.blkOwn2 (b:=g) (e:=3) (size:=1) (m:=tot) (cap:=c) (xs:=xs.take (i*1)++ys++xs.drop ((i+q)*1)) Wp ⟨hroom,hc.2⟩ (by rw [hC2l,hl]) hXl (by rw [hXl,h2t]) ?_
     exact Zfn [own 3 1 (.slice (some ⟨g,0,none⟩) tot c) tot (xs.take (i*1)++ys++xs.drop ((i+q)*1)),own 3 1 (.slice (some ⟨gu,0,none⟩) m capu) m ys] (hq:=by exact⟨some ⟨g,0,none⟩,c,rfl,rfl⟩)
    ·refine ZosliceB (lo:=tot) (hi:=n) (m:=n) ?_
     refine Ws ?_
     refine Zoclear ?_ (hfit:=by rw [hC2l];omega) (h1:=by exact zero_oneint)
     refine Ws ?_
     refine Tri.blkOwn2 (b:=gu) (e:=3) (size:=1) (m:=m) (cap:=capu) (xs:=ys) Wp hcu hlu hyl (by rw [List.take_left]) ?_
     refine Tri.blkOwn2 (b:=g) (e:=3) (size:=1) (m:=tot) (cap:=c) (xs:=xs.take (i*1)++ys++xs.drop ((i+q)*1)) Wp ⟨hroom,hc.2⟩ (by rw [putv_len (by rw [repl_len (s:=1) rfl]) (by rw [hC2l];omega),hC2l,hl]) hXl (by
      rw [hXl,put_low (by rw [hC2l];omega) (by omega),h2t]) ?_
     exact Zfn [own 3 1 (.slice (some ⟨g,0,none⟩) tot c) tot (xs.take (i*1)++ys++xs.drop ((i+q)*1)),own 3 1 (.slice (some ⟨gu,0,none⟩) m capu) m ys] (hq:=by exact⟨some ⟨g,0,none⟩,c,rfl,rfl⟩)
   ·refine Zz 92 false ?_ (hi:=by exact dFf (by omega))
    refine Ws ?_
    refine ZosliceB (lo:=i+m) (hi:=tot) (m:=tot) ?_
    refine Ws ?_
    refine Zooverlaps (f:=185) (t:=57) (tr:=4) ?_ (hf:=by exact Tryz.func185) (hB:=by rw [lAp];omega)
    refine Ws ?_
    refine Zz 120 true ?_
    refine Ws ?_
    refine Wm [] ?_
    refine Wq [0,1,2,3,4] ?_
    refine Zm 5 (h:=fun _ _ qK=>by exact ZosliceB (lo:=i+m) (hi:=tot) (m:=tot) qK) (k:=?_)
    refine Wq [6,7] ?_
    refine Zm 8 (h:=fun _ _ qK=>by exact ZosliceB (lo:=i+q) (hi:=n) (m:=n) qK) (k:=?_)
    refine ZA 9 ?_
    refine ZocopyG (m:=n-(i+q)) (q:=n-(i+q)) (news:=xs.drop ((i+q)*1)) ?_ (hr:=by exact rdw_blkAt (o':=0+(i+q)*1) Wp ⟨by omega,by omega⟩ (by rw [Nat.zero_add];exact hCd)) (hl:=by omega) (hfit:=by omega) (h1:=by exact h1d)
    rw [hdt,Nat.zero_add ((i+m)*1)]
    have hC1l:(C.take ((i+m)*1)++xs.drop ((i+q)*1)++C.drop ((i+m)*1+(n-(i+q))*1)).length=C.length:=putv_len (by omega) (by omega)
    have h1t:(C.take ((i+m)*1)++xs.drop ((i+q)*1)++C.drop ((i+m)*1+(n-(i+q))*1)).take (i*1)=xs.take (i*1):=by rw [put_low (by omega) (by omega),hCt]
    have h1m:(C.take ((i+m)*1)++xs.drop ((i+q)*1)++C.drop ((i+m)*1+(n-(i+q))*1)).drop (i*1+m*1)=xs.drop ((i+q)*1)++C.drop ((i+m)*1+(n-(i+q))*1):=by rw [←Nat.add_mul,put_mid (by omega)]
    obtain⟨C1,hC1⟩: ∃C1,C1=C.take ((i+m)*1)++xs.drop ((i+q)*1)++C.drop ((i+m)*1+(n-(i+q))*1):=⟨_,rfl⟩
    rw [←hC1] at hC1l h1t h1m ⊢
    refine Zw ?_
    refine ZE ?_
    refine Ws ?_
    refine ZosliceB (lo:=i) (hi:=tot) (m:=tot) ?_
    refine Ws ?_
    refine ZocopyG (m:=m) (q:=m) (news:=ys) ?_ (hr:=by exact rdw_blkAt (b:=gu) Wp ⟨hcu.1,hcum⟩ hyt) (hl:=by omega) (hfit:=by rw [hC1l];omega) (h1:=by exact h1y)
    rw [hyt2,Nat.zero_add]
    refine Ws ?_
    refine Tri.blkOwn2 (b:=gu) (e:=3) (size:=1) (m:=m) (cap:=capu) (xs:=ys) Wp hcu hlu hyl (by rw [List.take_left]) ?_
    refine Tri.blkOwn2 (b:=g) (e:=3) (size:=1) (m:=tot) (cap:=c) (xs:=xs.take (i*1)++ys++xs.drop ((i+q)*1)) Wp ⟨hroom,hc.2⟩ (by rw [putv_len (by omega) (by rw [hC1l];omega),hC1l,hl]) hXl (by
     rw [h1t,h1m, ←aAs,List.take_left]) ?_
    exact Zfn [own 3 1 (.slice (some ⟨g,0,none⟩) tot c) tot (xs.take (i*1)++ys++xs.drop ((i+q)*1)),own 3 1 (.slice (some ⟨gu,0,none⟩) m capu) m ys] (hq:=by exact⟨some ⟨g,0,none⟩,c,rfl,rfl⟩)
  ·refine Zz 60 true ?_ (hi:=by exact dTt (by omega))
   refine Ws ?_
   refine ZosliceB (lo:=0) (hi:=i) (m:=n) ?_
   refine Ws ?_
   refine Zi 66 ((tot-i:Nat):Int) ?_ (hi:=by omega)
   refine Zv 63 (.slice (some ⟨g,0,none⟩) i c) ?_ (hv:=by rfl)
   refine ZoappendZg (m1:=i) (cap:=c) (k:=tot-i) (xs:=xs.take (i*1)) ?_ (hi:=by rfl) (hr:=by exact rdw_blkAt (b:=g) Wp ⟨by omega,hcm⟩ (by rw [List.drop_zero,hl1,hCt])) (hl:=by exact hl1) (hcap:=by omega)
   intro v2
   rw [show i+(tot-i)=tot by omega,show tot-i=m+(n-(i+q)) by omega,repl_split]
   obtain⟨Z1,hZ1⟩: ∃Z1,Z1=(List.replicate m zeroint).flatten:=⟨_,rfl⟩
   obtain⟨Z2,hZ2⟩: ∃Z2,Z2=(List.replicate (n-(i+q)) zeroint).flatten:=⟨_,rfl⟩
   have hZ1l:Z1.length=m*1:=by rw [hZ1,repl_len (s:=1) rfl]
   have hZ2l:Z2.length=(n-(i+q))*1:=by rw [hZ2,repl_len (s:=1) rfl]
   refine Zat (own 3 1 v2 _ _) (own 3 1 v2 tot (xs.take (i*1)++(Z1++Z2))) ?_ (e:=by rw [hZ1,hZ2];rfl)
   refine Tri.ownBlk (e:=3) (size:=1) (v:=v2) (m:=tot) (xs:=xs.take (i*1)++(Z1++Z2)) Wp (by omega) (fun g2 cap2 rest2 hv2 hc2 hlz hzl=>?_)
   subst hv2
   have hcm2:cap2≤9223372036854775807:=hc2.2
   refine Ws ?_
   refine ZosliceB (lo:=i) (hi:=tot) (m:=tot) ?_
   refine Ws ?_
   refine ZocopyG (m:=m) (q:=m) (news:=ys) ?_ (hr:=by exact rdw_blkAt (b:=gu) Wp ⟨hcu.1,hcum⟩ hyt) (hl:=by omega) (hfit:=by simp only [lAp,hl1,hZ1l];omega) (h1:=by exact h1y)
   refine Zat (blk g2 _ _) (blk g2 3 (xs.take (i*1)++ys++(Z2++rest2))) ?_ (e:=by rw [hyt2,show xs.take (i*1)++(Z1++Z2)++rest2=xs.take (i*1)++Z1++(Z2++rest2) by simp only [aAs],put_over (by rw [hl1];omega) hZ1l])
   refine Ws ?_
   refine Wm [blk g 3 C] ?_
   refine Wq [0,1,2,3,4] ?_
   refine Zm 5 (h:=fun _ _ qK=>by exact ZosliceB (lo:=i+m) (hi:=tot) (m:=tot) qK) (k:=?_)
   refine Wq [6,7] ?_
   refine Zm 8 (h:=fun _ _ qK=>by exact ZosliceB (lo:=i+q) (hi:=n) (m:=n) qK) (k:=?_)
   refine ZA 9 ?_
   refine ZocopyG (b:=g2) (m:=n-(i+q)) (q:=n-(i+q)) (news:=xs.drop ((i+q)*1)) ?_ (hr:=by exact rdw_blkAt (o':=0+(i+q)*1) Wp ⟨by omega,by omega⟩ (by rw [Nat.zero_add];exact hCd)) (hl:=by omega) (hfit:=by simp only [lAp,hl1,hZ2l];omega) (h1:=by exact h1d)
   refine Zat (blk g2 _ _) (blk g2 3 ((xs.take (i*1)++ys++xs.drop ((i+q)*1))++rest2)) ?_ (e:=by rw [hdt,show xs.take (i*1)++ys++(Z2++rest2)=xs.take (i*1)++ys++Z2++rest2 by simp only [aAs],put_over (by rw [lAp,hl1,hyl];omega) hZ2l])
   refine Zw ?_
   refine ZE ?_
   refine Ws ?_
   refine Tri.blkOwn2 (b:=gu) (e:=3) (size:=1) (m:=m) (cap:=capu) (xs:=ys) Wp hcu hlu hyl (by rw [List.take_left]) ?_
   refine Tri.blkOwn2 (b:=g2) (e:=3) (size:=1) (m:=tot) (cap:=cap2) (xs:=xs.take (i*1)++ys++xs.drop ((i+q)*1)) Wp hc2 (by rw [lAp,hXl];simp only [lAp,hl1,hZ1l,hZ2l] at hlz;omega) hXl (by rw [List.take_left]) ?_
   exact Zfn [own 3 1 (.slice (some ⟨g2,0,none⟩) tot cap2) tot (xs.take (i*1)++ys++xs.drop ((i+q)*1)),own 3 1 (.slice (some ⟨gu,0,none⟩) m capu) m ys] (hq:=by exact⟨some ⟨g2,0,none⟩,cap2,rfl,rfl⟩)
def zeroKey:List Value:= [.int .i64 0, .int .i64 0]
theorem zero_oneKey: ∀y∈zeroKey,y.oneCell'=true:=by decide
set_option maxRecDepth 4000 in
theorem slices_ReplKey (A:Option Addr)(n c i q:Nat)(u:Value)(m:Nat)(xs ys:List Value)(hq:1≤q)(hi:i+q≤n)(hm:1≤m)(hb:n+m≤100000)(hxl:xs.length=n*2)(hyl:ys.length=m*2)(h1x: ∀y∈xs,y.oneCell'=true)(h1y: ∀y∈ys,y.oneCell'=true):
  Gv.Spec Tryz.prog 149 #[.slice A n c, .int .i64 (i:Int), .int .i64 ((i+q:Nat):Int),u] [own 38 2 (.slice A n c) n xs,own 38 2 u m ys]
  (fun r H'=> ∃A' c',r= .slice A' (i+m+(n-(i+q))) c'∧H'= [own 38 2 (.slice A' (i+m+(n-(i+q))) c') (i+m+(n-(i+q))) (xs.take (i*2)++ys++xs.drop ((i+q)*2)),own 38 2 u m ys]):=by
 refine Gv.Spec.of (fun w h0 hw=>?_)
 refine Calls.enter Tryz.func149 rfl rfl rfl hw ?_
 simp only [argSlots]
 refine Wap ?_
 have hin:i<n:=by omega
 obtain⟨hl1,_⟩:=cut8 hxl (Nat.le_of_lt hin)
 obtain⟨_,hl2⟩:=cut8 hxl hi
 obtain⟨tot,htot⟩: ∃tot,tot=i+m+(n-(i+q)):=⟨_,rfl⟩
 rw [←htot]
 refine Ws ?_
 refine Zsl (lo:=i) (hi:=i+q) (m:=n) (xs:=xs) ?_ (hr:=by exact rdw_own (v:= .slice A n c) Wp)
 refine Ws ?_
 refine Zz 21 false ?_ (hi:=by exact dFf (by omega))
 refine Ws ?_
 by_cases hjn:i+q=n
 ·have hd0:xs.drop ((i+q)*2)= [] :=List.drop_of_length_le (by rw [hjn];omega)
  have htm:tot=i+m:=by omega
  rw [hd0,List.append_nil,htm]
  refine Zz 29 true ?_ (hi:=by exact dTt (by omega))
  refine Ws ?_
  by_cases hmq:n≤i+m
  ·refine Zsl (lo:=0) (hi:=i) (m:=n) (xs:=xs) ?_ (hr:=by exact rdw_own (v:= .slice A n c) Wp)
   refine Ws ?_
   refine Tri.ownCut (v:= .slice A n c) (e:=38) (size:=2) i Wp (Nat.le_of_lt hin) ?_
   refine Zap (m2:=m) (news:=ys) ?_ (hr:=by exact rdw_own (v:=u) Wp) (hl:=by exact hyl) (h1:=by exact h1y)
   intro vr
   (refine Tri.shape (e:=38) (size:=2) (v:=vr) Wp ?_;rintro ⟨A2,c2,rfl⟩)
   refine Ws ?_
   refine Zz 39 false ?_ (hi:=by exact dFf (by omega))
   refine Ws ?_
   exact Zfn [own 38 2 (.slice A2 (i+m) c2) (i+m) (xs.take (i*2)++ys),own 38 2 u m ys] (hq:=by exact⟨A2,c2,rfl,rfl⟩)
  ·refine Tri.ownBlk (e:=38) (size:=2) (v:= .slice A n c) (m:=n) (xs:=xs) Wp (by omega) (fun g cap rest hv hc hl hxl2=>?_)
   cases hv
   have hcm:c≤9223372036854775807:=hc.2
   obtain⟨C,hC⟩: ∃C,C=xs++rest:=⟨_,rfl⟩
   rw [←hC] at hl ⊢
   have hCt:C.take (i*2)=xs.take (i*2):=by rw [hC,List.take_append_of_le_length (by omega)]
   refine ZosliceB (lo:=0) (hi:=i) (m:=n) ?_
   refine Ws ?_
   refine Zv 32 (.slice (some ⟨g,0,none⟩) i c) ?_ (hv:=by rfl)
   refine ZoappendR (m1:=i) (m2:=m) (news:=ys) ?_ (hr:=by exact rdw_own (v:=u) Wp) (hl:=by exact hyl) (hroom:=by omega) (hfit:=by omega) (h1:=by exact h1y)
   have hC1l:(C.take (i*2)++ys++C.drop (i*2+m*2)).length=C.length:=putv_len (by omega) (by omega)
   obtain⟨C1,hC1⟩: ∃C1,C1=C.take (i*2)++ys++C.drop (i*2+m*2):=⟨_,rfl⟩
   rw [←hC1] at hC1l ⊢
   have h1t:C1.take ((i+m)*2)=xs.take (i*2)++ys:=by rw [hC1,put_take (by omega) (by omega),hCt]
   refine Ws ?_
   refine Zz 39 true ?_ (hi:=by exact dTt (by omega))
   refine Ws ?_
   refine ZosliceB (lo:=i+m) (hi:=n) (m:=n) ?_
   refine Ws ?_
   refine Zoclear ?_ (hfit:=by rw [hC1l];omega) (h1:=by exact zero_oneKey)
   refine Ws ?_
   refine Tri.blkOwn2 (e:=38) (size:=2) (m:=i+m) (cap:=c) (xs:=xs.take (i*2)++ys) Wp ⟨by omega,hc.2⟩ (by rw [putv_len (by rw [repl_len (s:=2) rfl]) (by rw [hC1l];omega),hC1l,hl]) (by rw [lAp];omega) (by
    rw [put_low (by rw [hC1l];omega) (by rw [lAp];omega),show (xs.take (i*2)++ys).length=(i+m)*2 by rw [lAp];omega,h1t]) ?_
   exact Zfn [own 38 2 (.slice (some ⟨g,0,none⟩) (i+m) c) (i+m) (xs.take (i*2)++ys),own 38 2 u m ys] (hq:=by exact⟨some ⟨g,0,none⟩,c,rfl,rfl⟩)
 ·have hqn:i+q<n:=by omega
  have hXl:(xs.take (i*2)++ys++xs.drop ((i+q)*2)).length=tot*2:=by simp only [lAp];omega
  refine Zz 29 false ?_ (hi:=by exact dFf (by omega))
  refine Ws ?_
  refine Tri.ownBlk (e:=38) (size:=2) (v:= .slice A n c) (m:=n) (xs:=xs) Wp (by omega) (fun g cap rest hv hc hl hxl2=>?_)
  cases hv
  have hcm:c≤9223372036854775807:=hc.2
  refine Tri.ownBlk (e:=38) (size:=2) (v:=u) (m:=m) (xs:=ys) Wp hm (fun gu capu restu hvu hcu hlu hyl2=>?_)
  subst hvu
  have hcum:capu≤9223372036854775807:=hcu.2
  obtain⟨C,hC⟩: ∃C,C=xs++rest:=⟨_,rfl⟩
  rw [←hC] at hl ⊢
  have hCt:C.take (i*2)=xs.take (i*2):=by rw [hC,List.take_append_of_le_length (by omega)]
  have hCd:(C.drop ((i+q)*2)).take (xs.drop ((i+q)*2)).length=xs.drop ((i+q)*2):=by rw [hC,List.drop_append_of_le_length (by omega),List.take_left]
  have hyt:((ys++restu).drop 0).take ys.length=ys:=by rw [List.drop_zero,List.take_left]
  have h1d: ∀y∈xs.drop ((i+q)*2),y.oneCell'=true:=fun y hy=>h1x y (List.mem_of_mem_drop hy)
  have hyt2:ys.take (m*2)=ys:=List.take_of_length_le (by omega)
  have hdt:(xs.drop ((i+q)*2)).take ((n-(i+q))*2)=xs.drop ((i+q)*2):=List.take_of_length_le (by omega)
  refine Wm [] ?_
  refine Wq [0,1] ?_
  refine Zm 2 (h:=fun _ _ qK=>by exact ZosliceB (lo:=0) (hi:=i) (m:=n) qK) (k:=?_)
  refine Wq [3,4,5,6,7,8] ?_
  refine Zm 9 (h:=fun _ _ qK=>by exact ZosliceB (lo:=i+q) (hi:=n) (m:=n) qK) (k:=?_)
  refine Wq [10,11,12] ?_
  refine ZE ?_
  refine Zi 10 (tot:Int) ?_ (hi:=by omega)
  refine Ws ?_
  refine Zocap ?_
  refine Ws ?_
  by_cases hroom:tot≤c
  ·refine Zz 60 false ?_ (hi:=by exact dFf (by omega))
   refine Ws ?_
   refine ZosliceB (lo:=0) (hi:=tot) (m:=n) ?_
   refine Zv 86 (.slice (some ⟨g,0,none⟩) tot c) ?_ (hv:=by rfl)
   refine Ws ?_
   by_cases hmq:m≤q
   ·refine Zz 92 true ?_ (hi:=by exact dTt (by omega))
    refine Ws ?_
    refine ZosliceB (lo:=i) (hi:=tot) (m:=tot) ?_
    refine Ws ?_
    refine ZocopyG (m:=m) (q:=m) (news:=ys) ?_ (hr:=by exact rdw_blkAt (b:=gu) Wp ⟨hcu.1,hcum⟩ hyt) (hl:=by omega) (hfit:=by omega) (h1:=by exact h1y)
    rw [hyt2,Nat.zero_add]
    have hC1l:(C.take (i*2)++ys++C.drop (i*2+m*2)).length=C.length:=putv_len (by omega) (by omega)
    have h1dr:(C.take (i*2)++ys++C.drop (i*2+m*2)).drop ((i+q)*2)=C.drop ((i+q)*2):=put_high (by omega) (by omega) (by have:=Nat.mul_le_mul_right 2 hmq;omega)
    have h1t:(C.take (i*2)++ys++C.drop (i*2+m*2)).take ((i+m)*2)=xs.take (i*2)++ys:=by rw [put_take (by omega) (by omega),hCt]
    obtain⟨C1,hC1⟩: ∃C1,C1=C.take (i*2)++ys++C.drop (i*2+m*2):=⟨_,rfl⟩
    rw [←hC1] at hC1l h1t h1dr ⊢
    rw [←h1dr] at hCd
    refine Ws ?_
    refine Wm [] ?_
    refine Wq [0,1,2,3,4] ?_
    refine Zm 5 (h:=fun _ _ qK=>by exact ZosliceB (lo:=i+m) (hi:=tot) (m:=tot) qK) (k:=?_)
    refine Wq [6,7] ?_
    refine Zm 8 (h:=fun _ _ qK=>by exact ZosliceB (lo:=i+q) (hi:=n) (m:=n) qK) (k:=?_)
    refine ZA 9 ?_
    refine ZocopyG (m:=n-(i+q)) (q:=n-(i+q)) (news:=xs.drop ((i+q)*2)) ?_ (hr:=by exact rdw_blkAt (o':=0+(i+q)*2) Wp ⟨by omega,by omega⟩ (by rw [Nat.zero_add];exact hCd)) (hl:=by omega) (hfit:=by rw [hC1l];omega) (h1:=by exact h1d)
    rw [hdt,Nat.zero_add ((i+m)*2)]
    have hC2l:(C1.take ((i+m)*2)++xs.drop ((i+q)*2)++C1.drop ((i+m)*2+(n-(i+q))*2)).length=C.length:=by rw [putv_len (by omega) (by rw [hC1l];omega),hC1l]
    have h2t:(C1.take ((i+m)*2)++xs.drop ((i+q)*2)++C1.drop ((i+m)*2+(n-(i+q))*2)).take (tot*2)=xs.take (i*2)++ys++xs.drop ((i+q)*2):=by rw [put_take (by rw [hC1l];omega) (by omega),h1t]
    obtain⟨C2,hC2⟩: ∃C2,C2=C1.take ((i+m)*2)++xs.drop ((i+q)*2)++C1.drop ((i+m)*2+(n-(i+q))*2):=⟨_,rfl⟩
    rw [←hC2] at hC2l h2t ⊢
    refine Zw ?_
    refine ZE ?_
    refine Ws ?_
    by_cases hmq2:m=q
    ·have hnt:tot=n:=by omega
     have hxt:(C2.drop 0).take (n*2)=C2.take (n*2):=by rw [List.drop_zero]
     have hx2:(C2.take (n*2)).length=n*2:=by rw [lTk];omega
     refine Zsl (lo:=tot) (hi:=n) (m:=n) (xs:=C2.take (n*2)) ?_ (hr:=by exact rdw_blkAt (b:=g) Wp ⟨by omega,hcm⟩ (by rw [List.drop_zero,hx2]))
     obtain⟨A0,hA0⟩: ∃A0,subv (.slice (some ⟨g,0,none⟩) n c) 2 tot n= .slice A0 0 (c-tot):=⟨_,by simp only [subv];rw [show n-tot=0 by omega]⟩
     refine Zv 110 (.slice A0 0 (c-tot)) ?_ (hv:=by exact hA0)
     refine Ws ?_
     refine Zoclear0 ?_
     refine Ws ?_
     refine Tri.blkOwn2 (b:=gu) (e:=38) (size:=2) (m:=m) (cap:=capu) (xs:=ys) Wp hcu hlu hyl (by rw [List.take_left]) ?_
     refine Tri.blkOwn2 (b:=g) (e:=38) (size:=2) (m:=tot) (cap:=c) (xs:=xs.take (i*2)++ys++xs.drop ((i+q)*2)) Wp ⟨hroom,hc.2⟩ (by rw [hC2l,hl]) hXl (by rw [hXl,h2t]) ?_
     exact Zfn [own 38 2 (.slice (some ⟨g,0,none⟩) tot c) tot (xs.take (i*2)++ys++xs.drop ((i+q)*2)),own 38 2 (.slice (some ⟨gu,0,none⟩) m capu) m ys] (hq:=by exact⟨some ⟨g,0,none⟩,c,rfl,rfl⟩)
    ·refine ZosliceB (lo:=tot) (hi:=n) (m:=n) ?_
     refine Ws ?_
     refine Zoclear ?_ (hfit:=by rw [hC2l];omega) (h1:=by exact zero_oneKey)
     refine Ws ?_
     refine Tri.blkOwn2 (b:=gu) (e:=38) (size:=2) (m:=m) (cap:=capu) (xs:=ys) Wp hcu hlu hyl (by rw [List.take_left]) ?_
     refine Tri.blkOwn2 (b:=g) (e:=38) (size:=2) (m:=tot) (cap:=c) (xs:=xs.take (i*2)++ys++xs.drop ((i+q)*2)) Wp ⟨hroom,hc.2⟩ (by rw [putv_len (by rw [repl_len (s:=2) rfl]) (by rw [hC2l];omega),hC2l,hl]) hXl (by
      rw [hXl,put_low (by rw [hC2l];omega) (by omega),h2t]) ?_
     exact Zfn [own 38 2 (.slice (some ⟨g,0,none⟩) tot c) tot (xs.take (i*2)++ys++xs.drop ((i+q)*2)),own 38 2 (.slice (some ⟨gu,0,none⟩) m capu) m ys] (hq:=by exact⟨some ⟨g,0,none⟩,c,rfl,rfl⟩)
   ·refine Zz 92 false ?_ (hi:=by exact dFf (by omega))
    refine Ws ?_
    refine ZosliceB (lo:=i+m) (hi:=tot) (m:=tot) ?_
    refine Ws ?_
    refine Zooverlaps (f:=181) (t:=123) (tr:=4) ?_ (hf:=by exact Tryz.func181) (hB:=by rw [lAp];omega)
    refine Ws ?_
    refine Zz 120 true ?_
    refine Ws ?_
    refine Wm [] ?_
    refine Wq [0,1,2,3,4] ?_
    refine Zm 5 (h:=fun _ _ qK=>by exact ZosliceB (lo:=i+m) (hi:=tot) (m:=tot) qK) (k:=?_)
    refine Wq [6,7] ?_
    refine Zm 8 (h:=fun _ _ qK=>by exact ZosliceB (lo:=i+q) (hi:=n) (m:=n) qK) (k:=?_)
    refine ZA 9 ?_
    refine ZocopyG (m:=n-(i+q)) (q:=n-(i+q)) (news:=xs.drop ((i+q)*2)) ?_ (hr:=by exact rdw_blkAt (o':=0+(i+q)*2) Wp ⟨by omega,by omega⟩ (by rw [Nat.zero_add];exact hCd)) (hl:=by omega) (hfit:=by omega) (h1:=by exact h1d)
    rw [hdt,Nat.zero_add ((i+m)*2)]
    have hC1l:(C.take ((i+m)*2)++xs.drop ((i+q)*2)++C.drop ((i+m)*2+(n-(i+q))*2)).length=C.length:=putv_len (by omega) (by omega)
    have h1t:(C.take ((i+m)*2)++xs.drop ((i+q)*2)++C.drop ((i+m)*2+(n-(i+q))*2)).take (i*2)=xs.take (i*2):=by rw [put_low (by omega) (by omega),hCt]
    have h1m:(C.take ((i+m)*2)++xs.drop ((i+q)*2)++C.drop ((i+m)*2+(n-(i+q))*2)).drop (i*2+m*2)=xs.drop ((i+q)*2)++C.drop ((i+m)*2+(n-(i+q))*2):=by rw [←Nat.add_mul,put_mid (by omega)]
    obtain⟨C1,hC1⟩: ∃C1,C1=C.take ((i+m)*2)++xs.drop ((i+q)*2)++C.drop ((i+m)*2+(n-(i+q))*2):=⟨_,rfl⟩
    rw [←hC1] at hC1l h1t h1m ⊢
    refine Zw ?_
    refine ZE ?_
    refine Ws ?_
    refine ZosliceB (lo:=i) (hi:=tot) (m:=tot) ?_
    refine Ws ?_
    refine ZocopyG (m:=m) (q:=m) (news:=ys) ?_ (hr:=by exact rdw_blkAt (b:=gu) Wp ⟨hcu.1,hcum⟩ hyt) (hl:=by omega) (hfit:=by rw [hC1l];omega) (h1:=by exact h1y)
    rw [hyt2,Nat.zero_add]
    refine Ws ?_
    refine Tri.blkOwn2 (b:=gu) (e:=38) (size:=2) (m:=m) (cap:=capu) (xs:=ys) Wp hcu hlu hyl (by rw [List.take_left]) ?_
    refine Tri.blkOwn2 (b:=g) (e:=38) (size:=2) (m:=tot) (cap:=c) (xs:=xs.take (i*2)++ys++xs.drop ((i+q)*2)) Wp ⟨hroom,hc.2⟩ (by rw [putv_len (by omega) (by rw [hC1l];omega),hC1l,hl]) hXl (by
     rw [h1t,h1m, ←aAs,List.take_left]) ?_
    exact Zfn [own 38 2 (.slice (some ⟨g,0,none⟩) tot c) tot (xs.take (i*2)++ys++xs.drop ((i+q)*2)),own 38 2 (.slice (some ⟨gu,0,none⟩) m capu) m ys] (hq:=by exact⟨some ⟨g,0,none⟩,c,rfl,rfl⟩)
  ·refine Zz 60 true ?_ (hi:=by exact dTt (by omega))
   refine Ws ?_
   refine ZosliceB (lo:=0) (hi:=i) (m:=n) ?_
   refine Ws ?_
   refine Zi 66 ((tot-i:Nat):Int) ?_ (hi:=by omega)
   refine Zv 63 (.slice (some ⟨g,0,none⟩) i c) ?_ (hv:=by rfl)
   refine ZoappendZg (m1:=i) (cap:=c) (k:=tot-i) (xs:=xs.take (i*2)) ?_ (hi:=by rfl) (hr:=by exact rdw_blkAt (b:=g) Wp ⟨by omega,hcm⟩ (by rw [List.drop_zero,hl1,hCt])) (hl:=by exact hl1) (hcap:=by omega)
   intro v2
   rw [show i+(tot-i)=tot by omega,show tot-i=m+(n-(i+q)) by omega,repl_split]
   obtain⟨Z1,hZ1⟩: ∃Z1,Z1=(List.replicate m zeroKey).flatten:=⟨_,rfl⟩
   obtain⟨Z2,hZ2⟩: ∃Z2,Z2=(List.replicate (n-(i+q)) zeroKey).flatten:=⟨_,rfl⟩
   have hZ1l:Z1.length=m*2:=by rw [hZ1,repl_len (s:=2) rfl]
   have hZ2l:Z2.length=(n-(i+q))*2:=by rw [hZ2,repl_len (s:=2) rfl]
   refine Zat (own 38 2 v2 _ _) (own 38 2 v2 tot (xs.take (i*2)++(Z1++Z2))) ?_ (e:=by rw [hZ1,hZ2];rfl)
   refine Tri.ownBlk (e:=38) (size:=2) (v:=v2) (m:=tot) (xs:=xs.take (i*2)++(Z1++Z2)) Wp (by omega) (fun g2 cap2 rest2 hv2 hc2 hlz hzl=>?_)
   subst hv2
   have hcm2:cap2≤9223372036854775807:=hc2.2
   refine Ws ?_
   refine ZosliceB (lo:=i) (hi:=tot) (m:=tot) ?_
   refine Ws ?_
   refine ZocopyG (m:=m) (q:=m) (news:=ys) ?_ (hr:=by exact rdw_blkAt (b:=gu) Wp ⟨hcu.1,hcum⟩ hyt) (hl:=by omega) (hfit:=by simp only [lAp,hl1,hZ1l];omega) (h1:=by exact h1y)
   refine Zat (blk g2 _ _) (blk g2 38 (xs.take (i*2)++ys++(Z2++rest2))) ?_ (e:=by rw [hyt2,show xs.take (i*2)++(Z1++Z2)++rest2=xs.take (i*2)++Z1++(Z2++rest2) by simp only [aAs],put_over (by rw [hl1];omega) hZ1l])
   refine Ws ?_
   refine Wm [blk g 38 C] ?_
   refine Wq [0,1,2,3,4] ?_
   refine Zm 5 (h:=fun _ _ qK=>by exact ZosliceB (lo:=i+m) (hi:=tot) (m:=tot) qK) (k:=?_)
   refine Wq [6,7] ?_
   refine Zm 8 (h:=fun _ _ qK=>by exact ZosliceB (lo:=i+q) (hi:=n) (m:=n) qK) (k:=?_)
   refine ZA 9 ?_
   refine ZocopyG (b:=g2) (m:=n-(i+q)) (q:=n-(i+q)) (news:=xs.drop ((i+q)*2)) ?_ (hr:=by exact rdw_blkAt (o':=0+(i+q)*2) Wp ⟨by omega,by omega⟩ (by rw [Nat.zero_add];exact hCd)) (hl:=by omega) (hfit:=by simp only [lAp,hl1,hZ2l];omega) (h1:=by exact h1d)
   refine Zat (blk g2 _ _) (blk g2 38 ((xs.take (i*2)++ys++xs.drop ((i+q)*2))++rest2)) ?_ (e:=by rw [hdt,show xs.take (i*2)++ys++(Z2++rest2)=xs.take (i*2)++ys++Z2++rest2 by simp only [aAs],put_over (by rw [lAp,hl1,hyl];omega) hZ2l])
   refine Zw ?_
   refine ZE ?_
   refine Ws ?_
   refine Tri.blkOwn2 (b:=gu) (e:=38) (size:=2) (m:=m) (cap:=capu) (xs:=ys) Wp hcu hlu hyl (by rw [List.take_left]) ?_
   refine Tri.blkOwn2 (b:=g2) (e:=38) (size:=2) (m:=tot) (cap:=cap2) (xs:=xs.take (i*2)++ys++xs.drop ((i+q)*2)) Wp hc2 (by rw [lAp,hXl];simp only [lAp,hl1,hZ1l,hZ2l] at hlz;omega) hXl (by rw [List.take_left]) ?_
   exact Zfn [own 38 2 (.slice (some ⟨g2,0,none⟩) tot cap2) tot (xs.take (i*2)++ys++xs.drop ((i+q)*2)),own 38 2 (.slice (some ⟨gu,0,none⟩) m capu) m ys] (hq:=by exact⟨some ⟨g2,0,none⟩,cap2,rfl,rfl⟩)
theorem KL_takes (l:List KEY)(i:Nat):(KL l).take (i*2)=KL (l.take i):=by
 have h:=flat_cut (f:=keyL) keyL_len5 l 0 i
 rw [Nat.zero_mul,List.drop_zero,List.drop_zero,Nat.sub_zero] at h
 exact h
theorem NL_takes (l:List Int)(i:Nat):(NL l).take (i*1)=NL (l.take i):=by
 rw [Nat.mul_one,NL,NL,List.map_take]
theorem KL_drops (l:List KEY)(i:Nat):(KL l).drop (i*2)=KL (l.drop i):=by
 have h:=KL_app (l.take i) (l.drop i)
 rw [List.take_append_drop] at h
 rcases Nat.lt_or_ge l.length i with hi | hi
 ·rw [List.drop_of_length_le (by rw [KL_lens l rfl];omega),List.drop_of_length_le (by omega)];rfl
 ·rw [h, ←KL_lens (l.take i) (by rw [lTk];omega),List.drop_left]
theorem NL_drops (l:List Int)(i:Nat):(NL l).drop (i*1)=NL (l.drop i):=by
 rw [Nat.mul_one,NL,NL,List.map_drop]
theorem view_replaced (pv d:Nat)(v:VS)(leaf:Bool)(A0:Option Addr)(c0:Nat)(A:Option Addr)(a:Nat)(B:Option Addr)(b:Nat)(y:ND3)(i c:Nat)(AR:Option Addr)(cr:Nat)(VV:List (Value×Value×Value))(xs:List ND3)
  (hv:v.ok) (hl:v.S.W.length+4*xs.length≤800000) (hn:xs.length≤1000) (hxl:VV.length=xs.length) (hW:shp VV) (hR: ∀x∈xs, ∀e∈x.E,entR e)
  (hy:okN false y) (hyn:y.D.length≤1000) (hc1:1≤c) (hic:i+c≤y.D.length) (hx0:0<xs.length):
  Gv.Spec Tryz.prog 111 #[.pointer (some ⟨pv,0,none⟩),ndW false (.slice A0 y.E.length c0) (.slice A y.K.length a) (.slice B y.D.length b), .int .i64 (i:Int), .int .i64 (c:Int), .slice AR VV.length cr]
  [blk pv 146 (viewL d v),DSK d v.S,own 125 4 (.slice AR VV.length cr) VV.length (NDL leaf VV),manyRd (RDS VV xs),own 40 8 (.slice A0 y.E.length c0) y.E.length (EL y.E),own 38 2 (.slice A y.K.length a) y.K.length (KL y.K),own 3 1 (.slice B y.D.length b) y.D.length (NL y.D)]
  (fun r H'=> ∃(AZ:Option Addr) (cz:Nat) (VZ:List (Value×Value×Value)),r= .tuple #[.slice AZ VZ.length cz, .int .i64 ((rpN leaf v y i c xs).2.2:Int)] ∧VZ.length=(rpN leaf v y i c xs).2.1.length∧shp VZ
   ∧H'= [blk pv 146 (viewL d (rpN leaf v y i c xs).1),DSK d (rpN leaf v y i c xs).1.S,own 125 4 (.slice AZ VZ.length cz) VZ.length (NDL false VZ),manyRd (RDS VZ (rpN leaf v y i c xs).2.1)]):=by
 refine Gv.Spec.of (fun w h0 hw=>?_)
 refine Calls.enter Tryz.func111 rfl rfl rfl hw ?_
 simp only [argSlots]
 refine Wap ?_
 obtain⟨R0,hR0⟩: ∃R,R=rpN leaf v y i c xs:=⟨_,rfl⟩
 rw [←hR0]
 rw [rpN] at hR0
 have huc:=unN_cnt (leaf:=leaf) (v:=v) (xs:=xs)
 have hun:=view_under pv d v leaf AR cr VV xs hv hxl (by omega) hl hW hR
 obtain⟨U,hU⟩: ∃U,U=unN leaf v xs:=⟨_,rfl⟩
 rw [←hU] at hR0 huc hun
 obtain⟨hyE,hyK⟩:=hy
 refine Ws ?_
 (refine Wbx ?_;intro b6)
 refine Ws ?_
 refine Zcs hun ?_
 rintro r1 H1 ⟨A1,a1,B1,b1,rfl,rfl⟩
 refine Wap ?_
 refine Ws ?_
 refine Zal fun b12=>?_
 refine Ws ?_
 refine ZSa (ys:=ndLL false (.slice none 0 0) (.slice A1 U.2.1.K.length a1) (.slice B1 U.2.1.D.length b1)) ?_ (h1:=by exact ndLL_one false none A1 B1 0 0 _ a1 _ b1)
 refine Ws ?_
 by_cases hz:U.2.2=0
 ·refine Zz 21 false ?_ (hi:=by rw [hz];rfl)
  rw [if_pos hz] at hR0
  obtain⟨hUE,hUK,hUD⟩:=huc hz
  obtain⟨X,hX⟩: ∃X,X=U.2.1:=⟨_,rfl⟩
  rw [←hX] at hR0 hUE hUK hUD ⊢
  obtain⟨m,hm⟩: ∃m,m=xs.length:=⟨_,rfl⟩
  rw [←hm] at hUK hUD hx0 hn
  obtain⟨n,hn'⟩: ∃n,n=y.D.length:=⟨_,rfl⟩
  rw [←hn'] at hyn hic hyK
  rw [hUK,hUD, ←hn',hyK]
  have hkl:(KL y.K).length=n*2:=KL_lens _ hyK
  have hnl:(NL y.D).length=n*1:=NL_lens _ hn'.symm
  have hkl2:(KL X.K).length=m*2:=KL_lens _ hUK
  have hnl2:(NL X.D).length=m*1:=NL_lens _ hUD
  have hicz:((i+c:Nat):Int)=(i:Int)+(c:Int):=by omega
  obtain⟨tot,htot⟩: ∃tot,tot=i+m+(n-(i+c)):=⟨_,rfl⟩
  refine Ws ?_
  refine Znm 11 [blk b12 125 (ndLL false (.slice none 0 0) (.slice A1 m a1) (.slice B1 m b1)),own 38 2 (.slice A n a) n (KL y.K)] [blk b12 125 (ndLL false (.slice none 0 0) (.slice A1 m a1) (.slice B1 m b1)),own 38 2 (.slice A n a) n (KL y.K),blk b6 125 (ndLL false (.slice A0 y.E.length c0) (.slice A n a) (.slice B n b))] ?_
  refine Wnq [0,1,3,4,5,6,7,8] ?_
  refine Zna 2 ?_
  refine Zcr (slices_CloneKey (.slice A n a) n (KL y.K) hkl (KL_ones _) (by omega)) ?_ (hpre:=by exact rdw_own (v:= .slice A n a) Wp)
  rintro u1 H1 rfl
  refine Wap ?_
  (refine Tri.shape (e:=38) (size:=2) (v:=u1) Wp ?_;rintro ⟨A3,a3,rfl⟩)
  have hrK:=slices_ReplKey A3 n a3 i c (.slice A1 m a1) m (KL y.K) (KL X.K) hc1 hic hx0 (by omega) hkl hkl2 (KL_ones _) (KL_ones _)
  rw [hicz, ←htot] at hrK
  refine Znb ?_
  refine Zna 9 ?_
  refine Zcs hrK ?_
  rintro r3 H3 ⟨A4,a4,rfl,rfl⟩
  refine Wap ?_
  refine Znb ?_
  refine Wnp [10] ?_
  refine Znl ?_
  refine ZS ?_ (hi:=by exact(by decide:2<4))
  refine Zw ?_
  refine ZE ?_
  refine Ws ?_
  refine Znm 11 [blk b12 125 (ndLL false (.slice none 0 0) (.slice A1 m a1) (.slice B1 m b1)),own 3 1 (.slice B n b) n (NL y.D)] [blk b12 125 (ndLL false (.slice none 0 0) (.slice A1 m a1) (.slice B1 m b1)),own 3 1 (.slice B n b) n (NL y.D),blk b6 125 (ndLL false (.slice A0 y.E.length c0) (.slice A4 tot a4) (.slice B n b))] ?_
  refine Wnq [0,1,3,4,5,6,7,8] ?_
  refine Zna 2 ?_
  refine Zcr (slices_Cloneint (.slice B n b) n (NL y.D) hnl (NL_one5 _) (by omega)) ?_ (hpre:=by exact rdw_own (v:= .slice B n b) Wp)
  rintro u2 H2 rfl
  refine Wap ?_
  (refine Tri.shape (e:=3) (size:=1) (v:=u2) Wp ?_;rintro ⟨B3,b3,rfl⟩)
  have hrD:=slices_Replint B3 n b3 i c (.slice B1 m b1) m (NL y.D) (NL X.D) hc1 hic hx0 (by omega) hnl hnl2 (NL_one5 _) (NL_one5 _)
  rw [hicz, ←htot] at hrD
  refine Znb ?_
  refine Zna 9 ?_
  refine Zcs hrD ?_
  rintro r4 H4 ⟨B4,b4,rfl,rfl⟩
  refine Wap ?_
  refine Znb ?_
  refine Wnp [10] ?_
  refine Znl ?_
  refine ZS ?_ (hi:=by exact(by decide:3<4))
  refine Zw ?_
  refine ZE ?_
  obtain⟨Z,hZ⟩: ∃Z:ND3,Z=⟨y.E,y.K.take i++X.K++y.K.drop (i+c),y.D.take i++X.D++y.D.drop (i+c)⟩:=⟨_,rfl⟩
  rw [←hZ] at hR0
  have hkz:(KL y.K).take (i*2)++KL X.K++(KL y.K).drop ((i+c)*2)=KL Z.K:=by
   rw [hZ]
   show _=KL (y.K.take i++X.K++y.K.drop (i+c))
   rw [KL_app,KL_app,KL_takes,KL_drops]
  have hdz:(NL y.D).take (i*1)++NL X.D++(NL y.D).drop ((i+c)*1)=NL Z.D:=by
   rw [hZ]
   show _=NL (y.D.take i++X.D++y.D.drop (i+c))
   rw [NL_app,NL_app,NL_takes,NL_drops]
  have hZK:Z.K.length=tot:=by
   rw [hZ]
   show (y.K.take i++X.K++y.K.drop (i+c)).length=_
   rw [lAp,lAp,lTk,lDp];omega
  have hZD:Z.D.length=tot:=by
   rw [hZ]
   show (y.D.take i++X.D++y.D.drop (i+c)).length=_
   rw [lAp,lAp,lTk,lDp];omega
  have hZE:Z.E=y.E:=by rw [hZ]
  have hZo:okN false Z:=⟨by rw [hZE];exact hyE,by rw [hZK,hZD]⟩
  have hZs:szN false Z=tot:=hZD
  have hsp:=node_Split false (szN false Z) Z (.slice A0 y.E.length c0) (.slice A4 tot a4) (.slice B4 tot b4) hZo (Nat.le_refl _) (by omega)
  have hsq:splN false (szN false Z+1) Z=splitN false Z:=rfl
  refine Zat (own 38 2 (.slice A4 tot a4) _ _) (own 38 2 (.slice A4 tot a4) tot (KL Z.K)) ?_ (e:=by rw [hkz])
  refine Zat (own 3 1 (.slice B4 tot b4) _ _) (own 3 1 (.slice B4 tot b4) tot (NL Z.D)) ?_ (e:=by rw [hdz])
  refine Ws ?_
  refine Zla (cs:=ndLL false (.slice A0 y.E.length c0) (.slice A4 tot a4) (.slice B4 tot b4)) ?_ (hl:=by rfl)
  refine Ws ?_
  refine Zcr hsp ?_ (hpre:=by exact fun w' hw'=>⟨by rw [hZE];exact rdw_own (v:= .slice A0 y.E.length c0) Wp w' hw',by rw [hZK];exact rdw_own (v:= .slice A4 tot a4) Wp w' hw',by rw [hZD];exact rdw_own (v:= .slice B4 tot b4) Wp w' hw'⟩)
  rintro r5 H5 ⟨VZ,hVZ,hWZ,rfl⟩
  refine Wap ?_
  (refine Tri.shape (e:=125) (size:=4) (v:=r5) Wp ?_;rintro ⟨AZ,cz,rfl⟩)
  rw [hsq] at hVZ
  rw [hsq]
  refine Ws ?_
  rw [hR0]
  exact Zfn [blk pv 146 (viewL d U.1),DSK d U.1.S,own 125 4 (.slice AZ VZ.length cz) VZ.length (NDL false VZ),manyRd (RDS VZ (splitN false Z))] (hq:=by exact⟨AZ,cz,VZ,rfl,hVZ,hWZ,rfl⟩)
 ·refine Zz 21 true ?_ (hi:=by rw [dTt];omega)
  rw [if_neg hz] at hR0
  refine Ws ?_
  (with_reducible apply Tri.ownNil 125 4)
  (with_reducible apply Tri.noneM)
  rw [hR0]
  exact Zfn [blk pv 146 (viewL d U.1),DSK d U.1.S,own 125 4 (.slice none 0 0) 0 [],manyRd []] (hq:=by exact⟨none,0, [],rfl,rfl,(fun v hv=>by cases hv),rfl⟩)
def wkP (S:DS):Nat→Int→List (Int×GOT)
 | 0,_=> []
 | h+1,a=>(a,rdN S a (decide (h=0)))::(rdN S a (decide (h=0))).D.flatMap (wkP S h)
theorem wkP_E (S:DS): ∀(h:Nat) (a:Int),(wkP S h a).flatMap (fun p=>p.2.E)=wkE S h a
 | 0,_=>rfl
 | h+1,a=>by
  rw [wkP,wkE,List.flatMap_cons,List.flatMap_assoc]
  congr 1
  exact flat_congr (fun k _=>wkP_E S h k)
theorem wkg_at {α:Type}{E:Int→List α}: ∀(D:List Int) (j k:Nat) (d:Int),D[j]? =some d→k<(E d).length→(D.flatMap E)[((D.take j).flatMap E).length+k]? =(E d)[k]?
 | [],_,_,_,h,_=>by simp at h
 | x::D,0,k,d,h,hk=>by
  simp at h;subst h
  simp only [List.take_zero,List.flatMap_nil,List.length_nil,Nat.zero_add,List.flatMap_cons]
  rw [List.getElem?_append_left hk]
 | x::D,j+1,k,d,h,hk=>by
  have ih:=wkg_at (E:=E) D j k d (by simpa using h) hk
  simp only [List.take_succ_cons,List.flatMap_cons,lAp]
  rw [List.getElem?_append_right (by omega),show (E x).length+((D.take j).flatMap E).length+k-(E x).length=((D.take j).flatMap E).length+k by omega,ih]
theorem wkg_take {α:Type}{E:Int→List α}{D:List Int}{j:Nat}{d:Int}(h:D[j]? =some d):((D.take (j+1)).flatMap E).length=((D.take j).flatMap E).length+(E d).length:=by
 rw [List.take_add_one,h];simp
def eachT (pv d:Nat)(v:VS)(h:Nat)(a:Int):Prop:= ∀(gf:FuncId) [TFn Tryz.prog gf] (lb:List Value) (I:Nat→Atom),
  (∀(k:Nat) (q:Int×GOT),(wkP v.S h a)[k]? =some q→ ∀(A:Option Addr) (c:Nat) (B:Option Addr) (b:Nat) (C:Option Addr) (e:Nat),
   Gv.Spec Tryz.prog gf ([.int .i64 q.1,ndW q.2.leaf (.slice A q.2.E.length c) (.slice B q.2.K.length b) (.slice C q.2.D.length e)] ++lb).toArray [I k,own 40 8 (.slice A q.2.E.length c) q.2.E.length (EL q.2.E)] (fun _ H'=>H'= [I (k+1),own 40 8 (.slice A q.2.E.length c) q.2.E.length (EL q.2.E)]))→
  Gv.Spec Tryz.prog 62 #[.pointer (some ⟨pv,0,none⟩), .int .i64 a, .int .i64 (h:Int), .func (.func gf) #[] lb.toArray]
   [I 0,blk pv 146 (viewL d v),DSK d v.S] (fun r H'=>r= .int .i64 0∧H'= [I (wkP v.S h a).length,blk pv 146 (viewL d v),DSK d v.S])
theorem tree_each_step (pv d:Nat)(v:VS)(hv:v.ok)(hl:v.S.W.length≤1000000)(h:Nat)(a:Int)(hg:wkG v.S (h+1) a)(hh:h≤1000)
  (ih: ∀k∈(rdN v.S a (decide (h=0))).D,eachT pv d v h k):eachT pv d v (h+1) a:=by
 intro gf _ lb I hI
 refine Gv.Spec.of (fun w h0 hw=>?_)
 refine Calls.enter Tryz.func62 rfl rfl rfl hw ?_
 simp only [argSlots]
 refine Wap ?_
 obtain⟨ha,he,hEl,hDl,_⟩:=hg
 have hP:wkP v.S (h+1) a=(a,rdN v.S a (decide (h=0)))::(rdN v.S a (decide (h=0))).D.flatMap (wkP v.S h):=rfl
 rw [hP] at hI ⊢
 refine Ws ?_
 refine Zz 18 (decide (h=0)) ?_ (hi:=by exact decide_eq_decide.2 (by omega))
 refine Zcs (view_Node pv d v a (decide (h=0)) hv hl ha) ?_
 rintro r1 H1 ⟨A,c,B,b,C,e,rfl,rfl⟩
 refine Wap ?_
 have hI0:=hI 0 (a,rdN v.S a (decide (h=0))) rfl A c B b C e
 generalize rdN v.S a (decide (h=0))=G at*
 refine Ws ?_
 refine Zal fun b9=>?_
 refine Ws ?_
 refine ZSa (ys:=ndLL G.leaf (.slice A G.E.length c) (.slice B G.K.length b) (.slice C G.D.length e)) ?_ (h1:=by exact ndLL_one G.leaf A B C _ c _ b _ e)
 refine Ws ?_
 refine Zz 23 false ?_ (hi:=by rw [he];rfl)
 refine Ws ?_
 refine Zla (cs:=ndLL G.leaf (.slice A G.E.length c) (.slice B G.K.length b) (.slice C G.D.length e)) ?_ (hl:=by rfl)
 refine Ws ?_
 refine Zcf hI0 ?_
 rintro r2 H2 rfl
 refine Wap ?_
 refine Ws ?_
 have hz:I (0+1)=I (1+((G.D.take 0).flatMap (wkP v.S h)).length):=rfl
 rw [hz]
 (refine Wl (α:={ j:Nat//j≤G.D.length }) (fun x=>G.D.length-x.1) (fun x=> [(0, .pointer (some ⟨pv,0,none⟩)),(2, .int .i64 ((h+1:Nat):Int)),(3, .func (.func gf) #[] lb.toArray),(30, .slice C G.D.length e),(31, .int .i64 (G.D.length:Int)),(32, .int .i64 (x.1:Int))]) (fun x=> [I (1+((G.D.take x.1).flatMap (wkP v.S h)).length),blk pv 146 (viewL d v),DSK d v.S,own 3 1 (.slice C G.D.length e) G.D.length (NL G.D),Ex h0]) ⟨0,Nat.zero_le _⟩ ?_;rintro ⟨j,hj⟩ mx hmx;(try dsimp only at hmx ⊢))
 refine Ws ?_
 (refine Wcd ?_ ?_<;>intro hc)
 ·have hjl:j<G.D.length:=by omega
  have hjl':j+1≤G.D.length:=hjl
  obtain⟨kd,hkd⟩: ∃kd,G.D[j]? =some kd:=⟨G.D[j]'hjl,gEe hjl⟩
  have hmem:kd∈G.D:=List.mem_of_getElem? hkd
  have hNj:(NL G.D)[j]? =some (.int .i64 kd):=by rw [nl_get,hkd];rfl
  have hoff:=wkg_take (E:=wkP v.S h) hkd
  have hcall:=ih kd hmem gf lb (fun k=>I (1+((G.D.take j).flatMap (wkP v.S h)).length+k)) (fun k q hq=>by
   have hlt:k<(wkP v.S h kd).length:=(List.getElem?_eq_some_iff.1 hq).1
   have h1:=wkg_at (E:=wkP v.S h) G.D j k kd hkd hlt
   have h2:=hI (1+((G.D.take j).flatMap (wkP v.S h)).length+k) q (by
    rw [show 1+((G.D.take j).flatMap (wkP v.S h)).length+k=((G.D.take j).flatMap (wkP v.S h)).length+k+1 by omega,List.getElem?_cons_succ,h1];exact hq)
   exact h2)
  have e1:1+((G.D.take j).flatMap (wkP v.S h)).length+(wkP v.S h kd).length=1+((G.D.take (j+1)).flatMap (wkP v.S h)).length:=by omega
  rw [e1] at hcall
  refine Ws ?_
  refine Zix (j:=j) ?_ (hj:=by rfl) (hlt:=by exact hjl)
  refine Ws ?_
  refine Zlo (j:=j*1) ?_ (hv:=by exact(by rw [Nat.mul_one];exact hNj))
  refine Ws ?_
  refine Zi 39 (h:Int) ?_ (hi:=by omega)
  refine Ws ?_
  refine Zd hcall ?_
  refine Ws ?_
  refine Zz 43 false ?_
  refine Ws ?_
  refine Zi 32 ((j+1:Nat):Int) ?_ (hi:=by omega)
  exact Zag ⟨j+1,hjl'⟩
 ·have hjl:j=G.D.length:=by omega
  have e2:I (1+((G.D.take j).flatMap (wkP v.S h)).length)=I (((a,G)::G.D.flatMap (wkP v.S h)).length):=by
   rw [hjl,List.take_length,lCn,Nat.add_comm]
  rw [e2]
  refine Ws ?_
  exact Zfn [I (((a,G)::G.D.flatMap (wkP v.S h)).length),blk pv 146 (viewL d v),DSK d v.S] (hq:=by exact⟨rfl,rfl⟩)
theorem tree_each (pv d:Nat)(v:VS)(hv:v.ok)(hl:v.S.W.length≤1000000): ∀(h:Nat) (a:Int),wkG v.S h a→h≤1000→eachT pv d v h a
 | 0,_,hg,_=>hg.elim
 | h+1,a,hg,hh=>tree_each_step pv d v hv hl h a hg (by omega) (fun k hk=>tree_each pv d v hv hl h k (hg.2.2.2.2 k hk) (by omega))
end Go.Proofs.YtcglabmlhljkmaaGreat
section
namespace Go.Gv
open Go Go.RowKit
theorem spec_exA {α β:Type}{P:Program}{f:FuncId}{args:Array Value}{A:α→List Atom}{B:β→List Atom}{Pre Post:List Atom}
  (h: ∀x,Spec P f args (A x++Pre) (fun _ H'=> ∃y,H'=B y++Post)):Spec P f args (exA (fun x=>star (A x))::Pre) (fun _ H'=>H'=exA (fun y=>star (B y))::Post):=fun w0 w H hw=>by
 obtain⟨x,h1⟩:=St.exA hw
 have h2:St w0 w ((A x++Pre)++H):=by rw [aAs];exact St.unstar h1
 refine(h x w0 w H h2).mono ?_
 intro e w' he
 cases e with
 | returned v=>
  obtain⟨H',⟨y,rfl⟩,h3⟩:=he
  refine⟨_,rfl, ?_⟩
  rw [aAs] at h3
  exact St.toExA (A:=fun y=>star (B y)) y (St.star h3)
 | panicked c=>exact he
 | outgrown=>exact he
theorem Tri.toExA {α:Type}{P:Program}{w0:World}{G:Act→World→Prop}{n:NT}{L:Slots}{H H':List Atom}{A:α→List Atom}(x:α)(p:Pulls H (A x) H')(h:Tri w0 G n L (Gv.exA (fun y=>Gv.star (A y))::H')):Tri w0 G n L H:=
 Tri.conv (fun w hw=>St.toExA (A:=fun y=>Gv.star (A y)) x (St.star ⟨(hw.pulls p).1,(hw.pulls p).2⟩)) h
end Go.Gv
namespace Go.Proofs.YtcglabmlhljkmaaGreat
open Go Go.RowKit Go.Gv
theorem tree_all1 (a:Int)(lf:Bool)(kv dv:Value)(A:Option Addr)(c:Nat)(E o:List ENT)(b7:Nat)(A':Option Addr)(c':Nat)(hb:o.length+E.length≤1000000):
  Gv.Spec Tryz.prog 63 #[.int .i64 a,ndW lf (.slice A E.length c) kv dv, .pointer (some ⟨b7,0,none⟩)]
   ([blk b7 29 [.slice A' o.length c'],own 40 8 (.slice A' o.length c') o.length (EL o)] ++ [own 40 8 (.slice A E.length c) E.length (EL E)])
   (fun _ H'=> ∃z:Option Addr×Nat,H'= [blk b7 29 [.slice z.1 (o++E).length z.2],own 40 8 (.slice z.1 (o++E).length z.2) (o++E).length (EL (o++E))] ++ [own 40 8 (.slice A E.length c) E.length (EL E)]):=by
 refine Gv.Spec.of (fun w h0 hw=>?_)
 refine Calls.enter Tryz.func63 rfl rfl rfl hw ?_
 simp only [argSlots]
 refine Wap ?_
 refine Ws ?_
 (refine Wbx ?_;intro b4)
 refine Ws ?_
 refine Zap (m2:=E.length) (news:=EL E) ?_ (hr:=by exact rdw_own (v:= .slice A E.length c) Wp) (hl:=by exact EL_length E) (h1:=by exact EL_ones E)
 intro vr
 (refine Tri.shape (e:=40) (size:=8) (v:=vr) Wp ?_;rintro ⟨A2,c2,rfl⟩)
 refine Ws ?_
 refine ZS ?_ (hi:=by exact(by decide:0<1))
 have hl':(o++E).length=o.length+E.length:=lAp
 refine Zat (own 40 8 (.slice A2 (o.length+E.length) c2) _ _) (own 40 8 (.slice A2 (o++E).length c2) (o++E).length (EL (o++E))) ?_ (e:=by rw [EL_app,hl'])
 refine Zat (blk b7 _ _) (blk b7 29 [.slice A2 (o++E).length c2]) ?_ (e:=by rw [hl'];rfl)
 refine Ws ?_
 (first | with_reducible apply Tri.fin | with_reducible apply Tri.finN)
 case hr=>rfl
 case h=>exact ResL.nil
 apply fin_R (Hn:= [blk b7 29 [.slice A2 (o++E).length c2],own 40 8 (.slice A2 (o++E).length c2) (o++E).length (EL (o++E)),own 40 8 (.slice A E.length c) E.length (EL E)])
 case p=>exact Wps
 exact⟨(A2,c2),rfl⟩
def allI (b7:Nat)(P:List (Int×GOT))(k:Nat):Atom:=Gv.exA (fun z:Option Addr×Nat=>Gv.star [blk b7 29 [.slice z.1 ((P.take k).flatMap fun p=>p.2.E).length z.2],own 40 8 (.slice z.1 ((P.take k).flatMap fun p=>p.2.E).length z.2) ((P.take k).flatMap fun p=>p.2.E).length (EL ((P.take k).flatMap fun p=>p.2.E))])
section
variable {P:Program} {w0:World} {n:NT} {L:Slots} {H H':List Atom} {G:Act→World→Prop}
theorem to_allI {b7:Nat}{Q:List (Int×GOT)}(p:Pulls H [blk b7 29 [.slice none 0 0],own 40 8 (.slice none 0 0) 0 []] H')(h:Tri w0 G n L (allI b7 Q 0::H')):Tri w0 G n L H:=
 Tri.toExA (P:=Tryz.prog) (A:=fun z:Option Addr×Nat=> [blk b7 29 [.slice z.1 ((Q.take 0).flatMap fun p=>p.2.E).length z.2],own 40 8 (.slice z.1 ((Q.take 0).flatMap fun p=>p.2.E).length z.2) ((Q.take 0).flatMap fun p=>p.2.E).length (EL ((Q.take 0).flatMap fun p=>p.2.E))]) (none,0) p h
theorem of_allI {b7 k:Nat}{Q:List (Int×GOT)}{es:List ENT}(he:(Q.take k).flatMap (fun p=>p.2.E)=es)(p:Pull H (allI b7 Q k) H')(h: ∀A c,Tri w0 G n L ([blk b7 29 [.slice A es.length c],own 40 8 (.slice A es.length c) es.length (EL es)] ++H')):Tri w0 G n L H:=by
 subst he
 exact Tri.exA p (fun z=>Tri.unstar .head (h z.1 z.2))
end
theorem all_spec (b7:Nat)(Q:List (Int×GOT))(hb:(Q.flatMap fun p=>p.2.E).length≤1000000)(k:Nat)(q:Int×GOT)(hq:Q[k]? =some q)(A:Option Addr)(c:Nat)(B:Option Addr)(b:Nat)(C:Option Addr)(e:Nat):
  Gv.Spec Tryz.prog 63 ([Value.int .i64 q.1,ndW q.2.leaf (.slice A q.2.E.length c) (.slice B q.2.K.length b) (.slice C q.2.D.length e)] ++ [Value.pointer (some ⟨b7,0,none⟩)]).toArray [allI b7 Q k,own 40 8 (.slice A q.2.E.length c) q.2.E.length (EL q.2.E)] (fun _ H'=>H'= [allI b7 Q (k+1),own 40 8 (.slice A q.2.E.length c) q.2.E.length (EL q.2.E)]):=by
 have hs:(Q.take (k+1)).flatMap (fun p=>p.2.E)=(Q.take k).flatMap (fun p=>p.2.E)++q.2.E:=by rw [List.take_add_one,hq];simp
 have hbb:((Q.take k).flatMap fun p=>p.2.E).length+q.2.E.length≤1000000:=by
  have h1:((Q.take (k+1)).flatMap fun p=>p.2.E).length≤(Q.flatMap fun p=>p.2.E).length:=by
   conv=>rhs;rw [←List.take_append_drop (k+1) Q]
   rw [List.flatMap_append,lAp];omega
  rw [hs,lAp] at h1;omega
 have:=spec_exA (P:=Tryz.prog) (f:=63) (A:=fun z:Option Addr×Nat=> [blk b7 29 [.slice z.1 ((Q.take k).flatMap fun p=>p.2.E).length z.2],own 40 8 (.slice z.1 ((Q.take k).flatMap fun p=>p.2.E).length z.2) ((Q.take k).flatMap fun p=>p.2.E).length (EL ((Q.take k).flatMap fun p=>p.2.E))])
  (B:=fun z:Option Addr×Nat=> [blk b7 29 [.slice z.1 ((Q.take k).flatMap (fun p=>p.2.E)++q.2.E).length z.2],own 40 8 (.slice z.1 ((Q.take k).flatMap (fun p=>p.2.E)++q.2.E).length z.2) ((Q.take k).flatMap (fun p=>p.2.E)++q.2.E).length (EL ((Q.take k).flatMap (fun p=>p.2.E)++q.2.E))])
  (fun z=>tree_all1 q.1 q.2.leaf (.slice B q.2.K.length b) (.slice C q.2.D.length e) A c q.2.E ((Q.take k).flatMap fun p=>p.2.E) b7 z.1 z.2 hbb)
 rw [←hs] at this
 exact this
theorem tree_All (pv d:Nat)(v:VS)(hv:v.ok)(hl:v.S.W.length≤1000000)(h:Nat)(a:Int)(hh:h≤5)(hg:h=0∨wkG v.S h a)(hlen:(wkE v.S h a).length≤1000000):
  Gv.Spec Tryz.prog 15 #[.pointer (some ⟨pv,0,none⟩),rootV a (h:Int)] [blk pv 146 (viewL d v),DSK d v.S]
  (fun r H'=> ∃A c,r= .tuple #[.slice A (wkE v.S h a).length c, .int .i64 0] ∧H'= [blk pv 146 (viewL d v),DSK d v.S,own 40 8 (.slice A (wkE v.S h a).length c) (wkE v.S h a).length (EL (wkE v.S h a))]):=by
 refine Gv.Spec.of (fun w h0 hw=>?_)
 refine Calls.enter Tryz.func15 rfl rfl rfl hw ?_
 simp only [argSlots]
 refine Wap ?_
 refine Ws ?_
 (refine Wbx ?_;intro b3)
 refine Ws ?_
 refine Zla (cs:=rootL a (h:Int)) ?_ (hl:=by rfl)
 refine Ws ?_
 refine Zcv (view_may pv a h hh) ?_
 refine Ws ?_
 refine Zz 14 false ?_
 refine Ws ?_
 rcases Nat.eq_zero_or_pos h with h00 | hpos
 ·subst h00
  refine Zz 18 true ?_
  refine Ws ?_
  (with_reducible apply Tri.ownNil 40 8)
  exact Zfn [blk pv 146 (viewL d v),DSK d v.S,own 40 8 (.slice none 0 0) 0 []] (hq:=by exact⟨none,0,rfl,rfl⟩)
 ·have hg':wkG v.S h a:=by rcases hg with q | q;omega;exact q
  have hPE:=wkP_E v.S h a
  have heach:=tree_each pv d v hv hl h a hg' (by omega) 63
  generalize wkP v.S h a=P at hPE heach
  refine Zz 18 false ?_ (hi:=by exact dFf (by omega))
  refine Ws ?_
  refine Zal fun b7=>?_
  refine Ws ?_
  refine ZomakeFunc (vs:= [.pointer (some ⟨b7,0,none⟩)]) ?_ (hc:=by exact⟨rfl,trivial⟩)
  refine Ws ?_
  have hcall:=heach [.pointer (some ⟨b7,0,none⟩)] (allI b7 P) (all_spec b7 P (by rw [hPE];exact hlen))
  (with_reducible apply Tri.ownNil 40 8)
  refine Zat (blk b7 _ _) (blk b7 29 [.slice none 0 0]) ?_
  refine to_allI (b7:=b7) (Q:=P) Wps ?_
  refine Zd hcall ?_
  refine of_allI (he:=show (P.take P.length).flatMap (fun p=>p.2.E)=wkE v.S h a by rw [List.take_length];exact hPE) Wp (fun A c=>?_)
  refine Wap ?_
  refine Ws ?_
  refine Zz 28 false ?_
  refine Ws ?_
  exact Zfn [blk pv 146 (viewL d v),DSK d v.S,own 40 8 (.slice A (wkE v.S h a).length c) (wkE v.S h a).length (EL (wkE v.S h a))] (hq:=by exact⟨A,c,rfl,rfl⟩)
end Go.Proofs.YtcglabmlhljkmaaGreat
end
namespace Go.Proofs.YtcglabmlhljkmaaGreat
open Go Go.RowKit Go.Gv
set_option maxRecDepth 4000 in
theorem slices_InsEndEntry (A:Option Addr)(n c:Nat)(u:Value)(m:Nat)(xs ys:List Value)(hb:n+m≤100000)(hc:0<m)(h1: ∀y∈ys,y.oneCell'=true)(hl:ys.length=m*8):
  Gv.Spec Tryz.prog 118 #[.slice A n c, .int .i64 (n:Int),u] [own 40 8 (.slice A n c) n xs,own 40 8 u m ys]
  (fun r H'=> ∃A' c',r= .slice A' (n+m) c'∧H'= [own 40 8 (.slice A' (n+m) c') (n+m) (xs++ys),own 40 8 u m ys]):=by
 refine Gv.Spec.of (fun w h0 hw=>?_)
 refine Calls.enter Tryz.func118 rfl rfl rfl hw ?_
 simp only [argSlots]
 refine Wap ?_
 refine Ws ?_
 refine Zsl (lo:=n) (hi:=n) (m:=n) (xs:=xs) ?_ (hr:=by exact rdw_own (v:= .slice A n c) Wp)
 refine Ws ?_
 refine Zz 16 false ?_ (hi:=by exact dFf (by omega))
 refine Ws ?_
 refine Zz 22 true ?_ (hi:=by exact dTt rfl)
 refine Ws ?_
 refine Zap (m2:=m) (news:=ys) ?_ (hr:=by exact rdw_own (v:=u) Wp) (hl:=by exact hl) (h1:=by exact h1)
 intro vr
 (refine Tri.shape (e:=40) (size:=8) (v:=vr) Wp ?_;rintro ⟨A2,c2,rfl⟩)
 refine Ws ?_
 exact Zfn [own 40 8 (.slice A2 (n+m) c2) (n+m) (xs++ys),own 40 8 u m ys] (hq:=by exact⟨A2,c2,rfl,rfl⟩)
theorem key_cells (e:ENT):((entL e).drop (0+0)).take 2=keyL e.key:=rfl
theorem tree_insert1 (x y:ENT)(b7:Nat):
  Gv.Spec Tryz.prog 117 #[entV y, .pointer (some ⟨b7,0,none⟩)] [blk b7 40 (entL x)] (fun r H'=>r= .bool (lessK x.key y.key)∧H'= [blk b7 40 (entL x)]):=by
 refine Gv.Spec.of (fun w h0 hw=>?_)
 refine Calls.enter Tryz.func117 rfl rfl rfl hw ?_
 simp only [argSlots]
 refine Wap ?_
 refine Ws ?_
 (refine Wbx ?_;intro b2)
 refine Ws ?_
 refine Zlg ?_ (hv:=by exact key_cells x) (hl:=by rfl)
 refine Ws ?_
 refine Zlg ?_ (hv:=by exact key_cells y) (hl:=by rfl)
 refine Ws ?_
 refine Zcv (node_Less x.key y.key) ?_
 refine Ws ?_
 exact Zfn [blk b7 40 (entL x)] (hq:=by exact⟨rfl,rfl⟩)
theorem slices_IndexFuncE (A:Option Addr)(c:Nat)(E:List ENT)(x:ENT)(b7:Nat)(hb:E.length≤1000000):
  Gv.Spec Tryz.prog 116 #[.slice A E.length c, .func (.func 117) #[] #[.pointer (some ⟨b7,0,none⟩)]] [blk b7 40 (entL x),own 40 8 (.slice A E.length c) E.length (EL E)]
  (fun r H'=>r= .int .i64 (if idxE E x.key<E.length then(idxE E x.key:Int) else -1)∧H'= [blk b7 40 (entL x),own 40 8 (.slice A E.length c) E.length (EL E)]):=by
 refine Gv.Spec.of (fun w h0 hw=>?_)
 refine Calls.enter Tryz.func116 rfl rfl rfl hw ?_
 simp only [argSlots]
 refine Wap ?_
 refine Ws ?_
 (refine Wl (α:=Σ' (i:Nat) (f:Nat),f+i=E.length+1∧i≤E.length∧idxGo E x.key f i=idxE E x.key) (fun z=>E.length-z.1) (fun z=> [(0, .slice A E.length c),(1, .func (.func 117) #[] #[.pointer (some ⟨b7,0,none⟩)]),(7, .int .i64 (E.length:Int)),(8, .int .i64 (z.1:Int))]) (fun z=> [blk b7 40 (entL x),own 40 8 (.slice A E.length c) E.length (EL E),Ex h0]) ⟨0,E.length+1,rfl,Nat.zero_le _,rfl⟩ ?_;rintro ⟨i,f,hf,hi,hg⟩ mx hmx;(try dsimp only at hmx ⊢))
 obtain⟨g,rfl⟩: ∃g,f=g+1:=⟨f-1,by omega⟩
 rw [idxGo] at hg
 refine Ws ?_
 (refine Wcd ?_ ?_<;>intro hc)
 ·have hil:i<E.length:=by omega
  have hil':i+1≤E.length:=hil
  have hf':g+(i+1)=E.length+1:=by omega
  rw [if_pos hil] at hg
  obtain⟨y,hy⟩: ∃y,y=E.getD i ent0:=⟨_,rfl⟩
  have hE8:((EL E).drop (i*8)).take 8=entL y:=by rw [hy];exact EL_eight E i hil
  rw [←hy] at hg
  have hcl:Gv.Spec Tryz.prog 117 ([entV y] ++ [Value.pointer (some ⟨b7,0,none⟩)]).toArray _ _:=tree_insert1 x y b7
  refine Ws ?_
  refine Zix (j:=i) ?_ (hj:=by rfl) (hlt:=by exact hil)
  refine Ws ?_
  refine Zlq (ys:=entL y) ?_ (hv:=by exact hE8) (hl:=by rfl)
  refine Ws ?_
  refine Zcf hcl ?_
  rintro r3 H3 ⟨rfl,rfl⟩
  refine Wap ?_
  refine Ws ?_
  cases hq:lessK x.key y.key with
  | true=>
   rw [if_pos hq] at hg
   refine Ws ?_
   rw [←hg,if_pos hil]
   exact Zfn [blk b7 40 (entL x),own 40 8 (.slice A E.length c) E.length (EL E)] (hq:=by exact⟨rfl,rfl⟩)
  | false=>
   rw [if_neg (by rw [hq];simp)] at hg
   refine Ws ?_
   refine Zi 8 ((i+1:Nat):Int) ?_ (hi:=by omega)
   exact Zag ⟨i+1,g,hf',hil',hg⟩
 ·have hil: ¬i<E.length:=by omega
  rw [if_neg hil] at hg
  refine Ws ?_
  rw [←hg,if_neg (Nat.lt_irrefl _)]
  exact Zfn [blk b7 40 (entL x),own 40 8 (.slice A E.length c) E.length (EL E)] (hq:=by exact⟨rfl,rfl⟩)
def insertT (pv d:Nat)(v:VS)(h:Nat)(a:Int)(x:ENT):Prop:=
 Gv.Spec Tryz.prog 71 #[.pointer (some ⟨pv,0,none⟩), .int .i64 a, .int .i64 (h:Int),entV x] [blk pv 146 (viewL d v),DSK d v.S]
  (fun r H'=> ∃(AZ:Option Addr) (cz:Nat) (VZ:List (Value×Value×Value)),r= .tuple #[.slice AZ VZ.length cz, .int .i64 ((inN h v a x).2.2:Int)] ∧VZ.length=(inN h v a x).2.1.length∧shp VZ
   ∧H'= [blk pv 146 (viewL d (inN h v a x).1),DSK d (inN h v a x).1.S,own 125 4 (.slice AZ VZ.length cz) VZ.length (NDL (decide (h=1)) VZ),manyRd (RDS VZ (inN h v a x).2.1)])
theorem EL_takes (l:List ENT)(i:Nat):(EL l).take (i*8)=EL (l.take i):=by
 have h:=flat_cut (f:=entL) entL_len5 l 0 i
 rw [Nat.zero_mul,List.drop_zero,List.drop_zero,Nat.sub_zero] at h
 exact h
theorem EL_drops (l:List ENT)(i:Nat):(EL l).drop (i*8)=EL (l.drop i):=by
 have h:=EL_app (l.take i) (l.drop i)
 rw [List.take_append_drop] at h
 rcases Nat.lt_or_ge l.length i with hi | hi
 ·rw [List.drop_of_length_le (by rw [EL_lens l rfl];omega),List.drop_of_length_le (by omega)];rfl
 ·rw [h, ←EL_lens (l.take i) (by rw [lTk];omega),List.drop_left]
theorem idxGo_le (E:List ENT)(k:KEY): ∀(f i:Nat),i≤E.length→idxGo E k f i≤E.length
 | 0,i,h=>by rw [idxGo];exact h
 | f+1,i,h=>by
  rw [idxGo]
  split
  ·split
   ·exact h
   ·exact idxGo_le E k f (i+1) (by omega)
  ·exact Nat.le_refl _
theorem idxE_le (E:List ENT)(k:KEY):idxE E k≤E.length:=idxGo_le E k _ 0 (Nat.zero_le _)
theorem insert_leafE (pv d:Nat)(v:VS)(a:Int)(x:ENT)(hv:v.ok)(hx:entR x)(hG:inG 1 v a x)(hidx:idxE (rdN v.S a true).E x.key=(rdN v.S a true).E.length):insertT pv d v 1 a x:=by
 refine Gv.Spec.of (fun w h0 hw=>?_)
 refine Calls.enter Tryz.func71 rfl rfl rfl hw ?_
 simp only [argSlots]
 refine Wap ?_
 rw [inG] at hG
 obtain⟨⟨ha,hl,he,hlf,hok,hE,hD,hgi⟩,_⟩:=hG
 have hin:=inN_leaf (x:=x) he hgi
 obtain⟨R0,hR0⟩: ∃R,R=inN 1 v a x:=⟨_,rfl⟩
 rw [←hR0] at hin ⊢
 have hNd:=view_Node pv d v a true hv (by omega) ha
 have hd1:decide ((0:Nat)=0)=true:=rfl
 rw [hd1] at he hlf hok hE hD
 obtain⟨hK0,hD0⟩:=hok
 obtain⟨N,hN⟩: ∃N,N=rdN v.S a true:=⟨_,rfl⟩
 rw [←hN] at hNd he hlf hE hD hidx hin hK0 hD0
 have hK0:N.K= [] :=hK0
 have hD0:N.D= [] :=hD0
 have hgS:=giN_S v a
 have hdk:DSK d v.S=DSK d (giN v a).1.S:=by rw [hgS]
 have hgv:=view_give pv d v a hv
 have hixr:(if idxE N.E x.key<N.E.length then(idxE N.E x.key:Int) else -1)= -1:=by rw [hidx,if_neg (by omega)]
 rw [hidx,List.take_length,List.drop_length] at hin
 refine Ws ?_
 (refine Wbx ?_;intro b7)
 refine Ws ?_
 refine Zz 20 true ?_
 refine Zcs hNd ?_
 rintro r1 H1 ⟨A,c,B,e,C,f,rfl,rfl⟩
 refine Wap ?_
 refine Ws ?_
 refine Zal fun b10=>?_
 refine Ws ?_
 refine ZSa (ys:=ndLL N.leaf (.slice A N.E.length c) (.slice B N.K.length e) (.slice C N.D.length f)) ?_ (h1:=by exact ndLL_one N.leaf A B C _ c _ e _ f)
 refine Ws ?_
 refine Zz 25 false ?_ (hi:=by rw [he];rfl)
 refine Ws ?_
 refine Zd hgv ?_
 refine Ws ?_
 refine Zz 31 false ?_ (hi:=by rw [hgi];rfl)
 refine Ws ?_
 refine Zz 34 true ?_
 refine Ws ?_
 refine ZomakeFunc (vs:= [.pointer (some ⟨b7,0,none⟩)]) ?_ (hc:=by exact⟨rfl,trivial⟩)
 refine Ws ?_
 have hix:=slices_IndexFuncE A c N.E x b7 (by omega)
 rw [hixr] at hix
 refine Zd hix ?_
 refine Ws ?_
 refine Zz 40 true ?_
 refine Ws ?_
 refine Zla (cs:=entL x) ?_ (hl:=by rfl)
 refine Ws ?_
 (refine Zli (ys:=entL x) ?_;intro v48)
 have hins:=slices_InsEndEntry A N.E.length c v48 1 (EL N.E) (entL x) (by omega) (by decide) (entL_one x) rfl
 refine Ws ?_
 refine Zcs hins ?_
 rintro r4 H4 ⟨A4,a4,rfl,rfl⟩
 refine Wap ?_
 refine Ws ?_
 refine ZS ?_ (hi:=by exact(by decide:1<4))
 refine Zat (blk b10 _ _) (blk b10 125 (ndLL true (.slice A4 (N.E.length+1) a4) (.slice B N.K.length e) (.slice C N.D.length f))) ?_ (e:=by rw [hlf];rfl)
 obtain⟨Z,hZ⟩: ∃Z:ND3,Z=⟨N.E++x:: [],N.K,N.D⟩:=⟨_,rfl⟩
 rw [←hZ] at hin
 have hZE:Z.E.length=N.E.length+1:=by rw [hZ];simp
 have hZL:EL N.E++entL x=EL Z.E:=by
  rw [hZ]
  show _=EL (N.E++ [x])
  rw [EL_app];simp [EL]
 have hZK:Z.K=N.K:=by rw [hZ]
 have hZD:Z.D=N.D:=by rw [hZ]
 have hZo:okN true Z:=⟨by rw [hZK];exact hK0,by rw [hZD];exact hD0⟩
 have hZs:szN true Z=N.E.length+1:=hZE
 have hsp:=node_Split true (szN true Z) Z (.slice A4 (N.E.length+1) a4) (.slice B N.K.length e) (.slice C N.D.length f) hZo (Nat.le_refl _) (by omega)
 have hsq:splN true (szN true Z+1) Z=splitN true Z:=rfl
 refine Zat (own 40 8 (.slice A4 (N.E.length+1) a4) _ _) (own 40 8 (.slice A4 (N.E.length+1) a4) (N.E.length+1) (EL Z.E)) ?_ (e:=by rw [hZL])
 refine Ws ?_
 refine Zla (cs:=ndLL true (.slice A4 (N.E.length+1) a4) (.slice B N.K.length e) (.slice C N.D.length f)) ?_ (hl:=by rfl)
 refine Ws ?_
 refine Zcr hsp ?_ (hpre:=by exact fun w' hw'=>⟨by rw [hZE];exact rdw_own (v:= .slice A4 (N.E.length+1) a4) Wp w' hw',by rw [hZK];exact rdw_own (v:= .slice B N.K.length e) Wp w' hw',by rw [hZD];exact rdw_own (v:= .slice C N.D.length f) Wp w' hw'⟩)
 rintro r5 H5 ⟨VZ,hVZ,hWZ,rfl⟩
 refine Wap ?_
 (refine Tri.shape (e:=125) (size:=4) (v:=r5) Wp ?_;rintro ⟨AZ,cz,rfl⟩)
 rw [hsq] at hVZ
 rw [hsq]
 refine Ws ?_
 rw [hin,hdk]
 exact Zfn [blk pv 146 (viewL d (giN v a).1),DSK d (giN v a).1.S,own 125 4 (.slice AZ VZ.length cz) VZ.length (NDL true VZ),manyRd (RDS VZ (splitN true Z))] (hq:=by exact⟨AZ,cz,VZ,rfl,hVZ,hWZ,rfl⟩)
theorem insert_leafI (pv d:Nat)(v:VS)(a:Int)(x:ENT)(hv:v.ok)(hx:entR x)(hG:inG 1 v a x)(hidx:idxE (rdN v.S a true).E x.key<(rdN v.S a true).E.length):insertT pv d v 1 a x:=by
 refine Gv.Spec.of (fun w h0 hw=>?_)
 refine Calls.enter Tryz.func71 rfl rfl rfl hw ?_
 simp only [argSlots]
 refine Wap ?_
 rw [inG] at hG
 obtain⟨⟨ha,hl,he,hlf,hok,hE,hD,hgi⟩,_⟩:=hG
 have hin:=inN_leaf (x:=x) he hgi
 obtain⟨R0,hR0⟩: ∃R,R=inN 1 v a x:=⟨_,rfl⟩
 rw [←hR0] at hin ⊢
 have hNd:=view_Node pv d v a true hv (by omega) ha
 have hd1:decide ((0:Nat)=0)=true:=rfl
 rw [hd1] at he hlf hok hE hD
 obtain⟨hK0,hD0⟩:=hok
 obtain⟨N,hN⟩: ∃N,N=rdN v.S a true:=⟨_,rfl⟩
 rw [←hN] at hNd he hlf hE hD hidx hin hK0 hD0
 have hK0:N.K= [] :=hK0
 have hD0:N.D= [] :=hD0
 have hgS:=giN_S v a
 have hdk:DSK d v.S=DSK d (giN v a).1.S:=by rw [hgS]
 have hgv:=view_give pv d v a hv
 obtain⟨i,hi⟩: ∃i,i=idxE N.E x.key:=⟨_,rfl⟩
 have hixr:(if idxE N.E x.key<N.E.length then(idxE N.E x.key:Int) else -1)=(i:Int):=by rw [if_pos hidx,hi]
 rw [←hi] at hin hidx
 refine Ws ?_
 (refine Wbx ?_;intro b7)
 refine Ws ?_
 refine Zz 20 true ?_
 refine Zcs hNd ?_
 rintro r1 H1 ⟨A,c,B,e,C,f,rfl,rfl⟩
 refine Wap ?_
 refine Ws ?_
 refine Zal fun b10=>?_
 refine Ws ?_
 refine ZSa (ys:=ndLL N.leaf (.slice A N.E.length c) (.slice B N.K.length e) (.slice C N.D.length f)) ?_ (h1:=by exact ndLL_one N.leaf A B C _ c _ e _ f)
 refine Ws ?_
 refine Zz 25 false ?_ (hi:=by rw [he];rfl)
 refine Ws ?_
 refine Zd hgv ?_
 refine Ws ?_
 refine Zz 31 false ?_ (hi:=by rw [hgi];rfl)
 refine Ws ?_
 refine Zz 34 true ?_
 refine Ws ?_
 refine ZomakeFunc (vs:= [.pointer (some ⟨b7,0,none⟩)]) ?_ (hc:=by exact⟨rfl,trivial⟩)
 refine Ws ?_
 have hix:=slices_IndexFuncE A c N.E x b7 (by omega)
 rw [hixr] at hix
 refine Zd hix ?_
 refine Ws ?_
 refine Zz 40 false ?_ (hi:=by exact dFf (by omega))
 refine Ws ?_
 refine Zla (cs:=entL x) ?_ (hl:=by rfl)
 refine Ws ?_
 (refine Zli (ys:=entL x) ?_;intro v48)
 have hins:=slices_InsE A N.E.length c i v48 (EL N.E) (entL x) (by omega) (by omega) (by omega) (EL_lens N.E rfl) rfl (EL_ones N.E) (entL_one x)
 refine Ws ?_
 refine Zcs hins ?_
 rintro r4 H4 ⟨A4,a4,rfl,rfl⟩
 refine Wap ?_
 refine Ws ?_
 refine ZS ?_ (hi:=by exact(by decide:1<4))
 refine Zat (blk b10 _ _) (blk b10 125 (ndLL true (.slice A4 (N.E.length+1) a4) (.slice B N.K.length e) (.slice C N.D.length f))) ?_ (e:=by rw [hlf];rfl)
 obtain⟨Z,hZ⟩: ∃Z:ND3,Z=⟨N.E.take i++x::N.E.drop i,N.K,N.D⟩:=⟨_,rfl⟩
 rw [←hZ] at hin
 have hZE:Z.E.length=N.E.length+1:=by
  rw [hZ]
  show (N.E.take i++x::N.E.drop i).length=_
  rw [lAp,lCn,lTk,lDp];omega
 have hZL:(EL N.E).take (i*8)++entL x++(EL N.E).drop (i*8)=EL Z.E:=by
  rw [hZ]
  show _=EL (N.E.take i++x::N.E.drop i)
  rw [EL_app,EL_takes,EL_drops,aAs];rfl
 have hZK:Z.K=N.K:=by rw [hZ]
 have hZD:Z.D=N.D:=by rw [hZ]
 have hZo:okN true Z:=⟨by rw [hZK];exact hK0,by rw [hZD];exact hD0⟩
 have hZs:szN true Z=N.E.length+1:=hZE
 have hsp:=node_Split true (szN true Z) Z (.slice A4 (N.E.length+1) a4) (.slice B N.K.length e) (.slice C N.D.length f) hZo (Nat.le_refl _) (by omega)
 have hsq:splN true (szN true Z+1) Z=splitN true Z:=rfl
 refine Zat (own 40 8 (.slice A4 (N.E.length+1) a4) _ _) (own 40 8 (.slice A4 (N.E.length+1) a4) (N.E.length+1) (EL Z.E)) ?_ (e:=by rw [hZL])
 refine Ws ?_
 refine Zla (cs:=ndLL true (.slice A4 (N.E.length+1) a4) (.slice B N.K.length e) (.slice C N.D.length f)) ?_ (hl:=by rfl)
 refine Ws ?_
 refine Zcr hsp ?_ (hpre:=by exact fun w' hw'=>⟨by rw [hZE];exact rdw_own (v:= .slice A4 (N.E.length+1) a4) Wp w' hw',by rw [hZK];exact rdw_own (v:= .slice B N.K.length e) Wp w' hw',by rw [hZD];exact rdw_own (v:= .slice C N.D.length f) Wp w' hw'⟩)
 rintro r5 H5 ⟨VZ,hVZ,hWZ,rfl⟩
 refine Wap ?_
 (refine Tri.shape (e:=125) (size:=4) (v:=r5) Wp ?_;rintro ⟨AZ,cz,rfl⟩)
 rw [hsq] at hVZ
 rw [hsq]
 refine Ws ?_
 rw [hin,hdk]
 exact Zfn [blk pv 146 (viewL d (giN v a).1),DSK d (giN v a).1.S,own 125 4 (.slice AZ VZ.length cz) VZ.length (NDL true VZ),manyRd (RDS VZ (splitN true Z))] (hq:=by exact⟨AZ,cz,VZ,rfl,hVZ,hWZ,rfl⟩)
theorem insert_leaf (pv d:Nat)(v:VS)(a:Int)(x:ENT)(hv:v.ok)(hx:entR x)(hG:inG 1 v a x):insertT pv d v 1 a x:=by
 rcases Nat.lt_or_ge (idxE (rdN v.S a true).E x.key) (rdN v.S a true).E.length with h | h
 ·exact insert_leafI pv d v a x hv hx hG h
 ·exact insert_leafE pv d v a x hv hx hG (by have:=idxE_le (rdN v.S a true).E x.key;omega)
theorem insert_step (pv d:Nat)(v:VS)(h:Nat)(a:Int)(x:ENT)(hv:v.ok)(hx:entR x)(hh:h≤1000)(hG:inG (h+2) v a x)
  (ih:insertT pv d (giN v a).1 (h+1) ((rdN v.S a false).D.getD (childN (rdN v.S a false).K x.key) 0) x):insertT pv d v (h+2) a x:=by
 refine Gv.Spec.of (fun w h0 hw=>?_)
 refine Calls.enter Tryz.func71 rfl rfl rfl hw ?_
 simp only [argSlots]
 refine Wap ?_
 rw [inG] at hG
 obtain⟨⟨ha,hl,he,hlf,hok,hE,hD,hgi⟩,hG'⟩:=hG
 have hG':=hG' (Nat.succ_ne_zero h)
 have hd1:decide (h+1=0)=false:=rfl
 rw [hd1] at he hlf hok hE hD
 have hin:=inN_inner (h:=h) (x:=x) he hgi
 obtain⟨R0,hR0⟩: ∃R,R=inN (h+2) v a x:=⟨_,rfl⟩
 rw [←hR0] at hin ⊢
 have hNd:=view_Node pv d v a false hv (by omega) ha
 obtain⟨hE0,hKD⟩:=hok
 obtain⟨N,hN⟩: ∃N,N=rdN v.S a false:=⟨_,rfl⟩
 rw [←hN] at hNd he hlf hE hD hin hE0 hKD ih hG'
 have hE0:N.E= [] :=hE0
 have hKD:N.K.length=N.D.length:=hKD
 obtain⟨hch,_,hVok,hV⟩:=hG'
 obtain⟨q,hq⟩: ∃q,q=childN N.K x.key:=⟨_,rfl⟩
 rw [←hq] at hch hVok hV hin ih
 obtain⟨kd,hkd⟩: ∃kd,kd=N.D.getD q 0:=⟨_,rfl⟩
 rw [←hkd] at hVok hV hin ih
 have hND:(NL N.D)[q]? =some (.int .i64 kd):=by
  rw [nl_get,hkd,gDe,gEe (show q<N.D.length by omega)];rfl
 have hgS:=giN_S v a
 have hdk:DSK d v.S=DSK d (giN v a).1.S:=by rw [hgS]
 have hgv:=view_give pv d v a hv
 rw [insertT] at ih
 obtain⟨V,hVd⟩: ∃V,V=inN (h+1) (giN v a).1 kd x:=⟨_,rfl⟩
 rw [←hVd] at ih hVok hV hin
 refine Ws ?_
 (refine Wbx ?_;intro b7)
 refine Ws ?_
 refine Zz 20 false ?_ (hi:=by exact dFf (by omega))
 refine Zcs hNd ?_
 rintro r1 H1 ⟨A,c,B,e,C,f,rfl,rfl⟩
 refine Wap ?_
 refine Ws ?_
 refine Zal fun b10=>?_
 refine Ws ?_
 refine ZSa (ys:=ndLL N.leaf (.slice A N.E.length c) (.slice B N.K.length e) (.slice C N.D.length f)) ?_ (h1:=by exact ndLL_one N.leaf A B C _ c _ e _ f)
 refine Ws ?_
 refine Zz 25 false ?_ (hi:=by rw [he];rfl)
 refine Ws ?_
 refine Zd hgv ?_
 refine Ws ?_
 refine Zz 31 false ?_ (hi:=by rw [hgi];rfl)
 refine Ws ?_
 refine Zz 34 false ?_ (hi:=by exact dFf (by omega))
 refine Ws ?_
 refine Zla (cs:=ndLL N.leaf (.slice A N.E.length c) (.slice B N.K.length e) (.slice C N.D.length f)) ?_ (hl:=by rfl)
 refine Ws ?_
 refine Zlg ?_ (hv:=by exact key_cells x) (hl:=by rfl)
 refine Ws ?_
 have hcd:=tree_child N.leaf (.slice A N.E.length c) (.slice B N.K.length e) (.slice C N.D.length f) N.K x.key (by omega)
 rw [←hq] at hcd
 refine Zcv hcd ?_ (hpre:=by exact rdw_own (v:= .slice B N.K.length e) Wp)
 have hz1:((h+1:Nat):Int)=((h+2:Nat):Int)-1:=by omega
 rw [hz1] at ih
 have hql:q<N.D.length:=by omega
 have hND':(NL N.D)[q*1]? =some (.int .i64 kd):=by rw [Nat.mul_one];exact hND
 rw [hdk]
 refine Ws ?_
 refine Wm [blk b10 125 (ndLL N.leaf (.slice A N.E.length c) (.slice B N.K.length e) (.slice C N.D.length f)),own 3 1 (.slice C N.D.length f) N.D.length (NL N.D),blk b7 40 (entL x)] ?_
 refine Wq [0,1,2,3] ?_
 refine Zm 4 (h:=fun _ _ qK=>by exact Zix (j:=q) qK (hj:=by rfl) (hlt:=by exact hql)) (k:=?_)
 refine Zm 5 (h:=fun _ _ qK=>by exact Zlo (j:=q*1) qK (hv:=by exact hND')) (k:=?_)
 refine Wq [6,7] ?_
 refine Zm 8 (h:=fun _ _ qK=>by exact Zla (cs:=entL x) qK (hl:=by rfl)) (k:=?_)
 refine ZA 9 ?_
 refine Zcs ih ?_
 rintro r3 H3 ⟨AV,cv,VV,rfl,hVl,hVW,rfl⟩
 refine Wap ?_
 refine Zw ?_
 refine Wq [10,11,12,13,14] ?_
 refine ZE ?_
 refine Ws ?_
 by_cases hz:V.2.2=0
 ·rw [if_pos hz] at hin
  obtain⟨hV1,hV2,hV3,hV4⟩:=hV hz
  have hrp:=view_replaced pv d V.1 (decide (h+1=1)) A c B e C f ⟨N.E,N.K,N.D⟩ q 1 AV cv VV V.2.1 hVok hV3 hV2 hVl hVW hV4 ⟨hE0,hKD⟩ hD (Nat.le_refl 1) hch hV1
  rw [←hin] at hrp
  have hc1:((1:Nat):Int)=1:=rfl
  rw [hc1] at hrp
  dsimp only at hrp
  refine Zz 71 false ?_ (hi:=by rw [hz];rfl)
  refine Zat (blk b10 _ _) (blk b10 125 (ndLL false (.slice A N.E.length c) (.slice B N.K.length e) (.slice C N.D.length f))) ?_ (e:=by rw [hlf])
  refine Ws ?_
  refine Zla (cs:=ndLL false (.slice A N.E.length c) (.slice B N.K.length e) (.slice C N.D.length f)) ?_ (hl:=by rfl)
  refine Ws ?_
  refine Zcs hrp ?_
  rintro r4 H4 ⟨AZ,cz,VZ,rfl,hZl,hZW,rfl⟩
  refine Wap ?_
  refine Ws ?_
  exact Zfn [blk pv 146 (viewL d R0.1),DSK d R0.1.S,own 125 4 (.slice AZ VZ.length cz) VZ.length (NDL false VZ),manyRd (RDS VZ R0.2.1)] (hq:=by exact⟨AZ,cz,VZ,rfl,hZl,hZW,rfl⟩)
 ·rw [if_neg hz] at hin
  refine Zz 71 true ?_ (hi:=by rw [dTt];omega)
  refine Ws ?_
  (with_reducible apply Tri.ownNil 125 4)
  (with_reducible apply Tri.noneM)
  rw [hin]
  exact Zfn [blk pv 146 (viewL d V.1),DSK d V.1.S,own 125 4 (.slice none 0 0) 0 [],manyRd []] (hq:=by exact⟨none,0, [],rfl,rfl,(fun v hv=>by cases hv),rfl⟩)
theorem view_insert (pv d:Nat)(x:ENT)(hx:entR x): ∀(h:Nat) (v:VS) (a:Int),v.ok→h≤1000→inG h v a x→insertT pv d v h a x
 | 0,v,a,_,_,hG=>hG.elim
 | 1,v,a,hv,_,hG=>insert_leaf pv d v a x hv hx hG
 | h+2,v,a,hv,hh,hG=>insert_step pv d v h a x hv hx (by omega) hG (view_insert pv d x hx (h+1) _ _ (giN_ok hv a) (by omega) (hG.2 (Nat.succ_ne_zero h)).2.1)
theorem tree_meets (a b:ENT):SpecR Tryz.prog 57 #[entV a,entV b] (fun _=>True) (fun r H'=>r= .bool (meetsE a b)∧H'= []):=by
 refine SpecR.of (fun w _=>?_)
 refine Calls.enter Tryz.func57 rfl rfl rfl (St.rebase w) ?_
 simp only [argSlots]
 have hm:meetsE a b=(decide (a.key.1=b.key.1) && (decide (a.key.2≤b.fin) && decide (b.key.2≤a.fin))):=rfl
 refine Ws ?_
 (refine Wbx ?_;intro b2)
 refine Ws ?_
 (refine Wbx ?_;intro b3)
 refine Ws ?_
 by_cases h1:a.key.1=b.key.1
 ·rw [dTt h1,Bool.true_and] at hm
  refine Zz 12 true ?_ (hi:=by exact dTt h1)
  refine Ws ?_
  by_cases h2:a.key.2≤b.fin
  ·rw [dTt h2,Bool.true_and] at hm
   refine Zz 20 true ?_ (hi:=by exact dTt h2)
   refine Ws ?_
   exact Zfr (hq:=by simp only [tupled];(rw [hm]))
  ·rw [dFf h2,Bool.false_and] at hm
   refine Zz 20 false ?_ (hi:=by exact dFf h2)
   refine Ws ?_
   exact Zfr (hq:=by simp only [tupled];(rw [hm]))
 ·rw [dFf h1,Bool.false_and] at hm
  refine Zz 12 false ?_ (hi:=by exact dFf h1)
  refine Ws ?_
  exact Zfr (hq:=by simp only [tupled];(rw [hm]))
theorem rd_noneT (w:World):RdW w (.slice none 0 0) 0 [] :=⟨none,0,rfl,⟨by simp,by decide⟩,fun j u h=>by simp at h⟩
theorem keyS_eq (a b:KEY):(decide (a=b)=true↔keyL a=keyL b):=by
 rw [decide_eq_true_iff]
 constructor
 ·rintro rfl;rfl
 ·intro h
  simp only [keyL,List.cons.injEq,Value.int.injEq,true_and,and_true] at h
  exact Prod.ext h.1 h.2
theorem keyS_alk (a:KEY):Alk [.int .i64 0, .int .i64 0] (keyL a):=⟨rfl,rfl,trivial⟩
set_option maxRecDepth 4000 in
theorem view_Insert (pv d:Nat)(v:VS)(a:Int)(h:Nat)(x:ENT)(hv:v.ok)(hG:iG v a h x):
  Gv.Spec Tryz.prog 24 #[.pointer (some ⟨pv,0,none⟩),rootV a (h:Int),entV x] [blk pv 146 (viewL d v),DSK d v.S]
  (fun r H'=>r= .tuple #[.agg #[.int .i64 (iN v a h x).2.1.1, .int .i64 ((iN v a h x).2.1.2:Int)], .int .i64 ((iN v a h x).2.2:Int)]
   ∧H'= [blk pv 146 (viewL d (iN v a h x).1),DSK d (iN v a h x).1.S]):=by
 refine Gv.Spec.of (fun w h0 hw=>?_)
 refine Calls.enter Tryz.func24 rfl rfl rfl hw ?_
 simp only [argSlots]
 refine Wap ?_
 obtain⟨⟨hh,hg,hEl,hWl,hxo,hxR⟩,hG2⟩:=hG
 obtain⟨R0,hR0⟩: ∃R,R=iN v a h x:=⟨_,rfl⟩
 rw [←hR0]
 rw [iN] at hR0
 have hall:=tree_All pv d v hv (by omega) h a hh hg (by omega)
 obtain⟨E,hE⟩: ∃E,E=wkE v.S h a:=⟨_,rfl⟩
 rw [←hE] at hR0 hall hEl hG2
 refine Ws ?_
 (refine Wbx ?_;intro b4)
 refine Ws ?_
 (refine Wbx ?_;intro b5)
 refine Ws ?_
 refine Zal fun b6=>?_
 refine Ws ?_
 refine Zla (cs:=rootL a (h:Int)) ?_ (hl:=by rfl)
 refine Ws ?_
 refine Zcv (view_may pv a h hh) ?_
 refine Ws ?_
 refine Zz 20 false ?_
 refine Ws ?_
 refine Zla (cs:=entL x) ?_ (hl:=by rfl)
 refine Ws ?_
 (refine Zli (ys:=entL x) ?_;intro vl)
 (refine Tri.shape (e:=40) (size:=8) (v:=vl) Wp ?_;rintro ⟨Av,cv,rfl⟩)
 refine Ws ?_
 refine Zbu (ys:=ndLL true (.slice Av 1 cv) (.slice none 0 0) (.slice none 0 0)) ?_
 refine Ws ?_
 refine Zat (own 40 8 (.slice Av 1 cv) _ _) (own 40 8 (.slice Av 1 cv) [x].length (EL [x])) ?_
 refine Zcv (node_Right true (.slice Av 1 cv) (.slice none 0 0) (.slice none 0 0) [x] [] []) ?_ (hpre:=by exact fun w' hw'=>⟨rdw_own (v:= .slice Av 1 cv) Wp w' hw',rd_noneT _,rd_noneT _⟩)
 refine Zz 26 true ?_ (hi:=by exact one_right hxo)
 refine Ws ?_
 refine Zz 27 false ?_
 refine Ws ?_
 refine Zla (cs:=rootL a (h:Int)) ?_ (hl:=by rfl)
 refine Ws ?_
 refine Zcs hall ?_
 rintro r1 H1 ⟨A,c,rfl,rfl⟩
 refine Wap ?_
 refine Ws ?_
 refine Zz 36 false ?_
 refine Ws ?_
 have hEl8:(EL E).length=E.length*8:=EL_lens E rfl
 have hk0:(E.take 0).any (fun y=>decide (y.key=x.key))=false:=by rw [List.take_zero];rfl
 have hm0:(E.take 0).any (fun y=>meetsE x y)=false:=by rw [List.take_zero];rfl
 (refine Wl (α:=Σ' (i:Nat),i≤E.length∧(E.take i).any (fun y=>decide (y.key=x.key))=false) (fun z=>E.length-z.1) (fun z=> [(0, .pointer (some ⟨pv,0,none⟩)),(4, .pointer (some ⟨b4,0,none⟩)),(5, .pointer (some ⟨b5,0,none⟩)),(6, .pointer (some ⟨b6,0,none⟩)),(9, .slice A E.length c),(39, .slice A E.length c),(40, .int .i64 (E.length:Int)),(41, .int .i64 (z.1:Int))]) (fun z=> [blk b4 43 (rootL a (h:Int)),blk b5 40 (entL x),blk b6 43 [.int .i64 0, .int .i64 0],blk pv 146 (viewL d v),DSK d v.S,own 40 8 (.slice A E.length c) E.length (EL E),Ex h0]) ⟨0,Nat.zero_le _,hk0⟩ ?_;rintro ⟨i,hi,hno⟩ mx hmx;(try dsimp only at hmx ⊢))
 refine Ws ?_
 (refine Wcd ?_ ?_<;>intro hc)
 ·have hil:i<E.length:=by omega
  have hil':i+1≤E.length:=hil
  obtain⟨y,hy⟩: ∃y,y=E.getD i ent0:=⟨_,rfl⟩
  have hE8:((EL E).drop (i*8)).take 8=entL y:=by rw [hy];exact EL_eight E i hil
  have hat:=any_take (fun y:ENT=>decide (y.key=x.key)) E ent0 i hil
  rw [←hy,hno,Bool.false_or] at hat
  refine Ws ?_
  refine Zix (j:=i) ?_ (hj:=by rfl) (hlt:=by exact hil)
  refine Ws ?_
  refine Zlq (ys:=entL y) ?_ (hv:=by exact hE8) (hl:=by rfl)
  refine Ws ?_
  refine Zal fun b12=>?_
  refine Ws ?_
  refine ZSa (ys:=entL y) ?_ (h1:=by exact entL_one5 y)
  refine Ws ?_
  refine Zlg ?_ (hv:=by exact key_cells y) (hl:=by rfl)
  refine Ws ?_
  refine Zlg ?_ (hv:=by exact key_cells x) (hl:=by rfl)
  refine Ws ?_
  refine ZoeqlA (r:=decide (y.key=x.key)) ?_ (hax:=by exact keyS_alk y.key) (hay:=by exact keyS_alk x.key) (hr:=by exact keyS_eq y.key x.key)
  refine Ws ?_
  by_cases hk:y.key=x.key
  ·have hany:E.any (fun y=>decide (y.key=x.key))=true:=any_of ent0 hil (by rw [←hy];exact dTt hk)
   have hchk:chkE E x=11:=by rw [chkE,if_pos hany]
   rw [hchk,if_pos (by decide)] at hR0
   refine Zz 49 true ?_ (hi:=by exact dTt hk)
   refine Ws ?_
   refine ZSa (ys:= [.int .i64 0, .int .i64 0]) ?_ (h1:=by exact two_int _ _)
   refine Ws ?_
   rw [hR0]
   exact Zfn [blk pv 146 (viewL d v),DSK d v.S] (h:=ResL.cons (Zra (rfl: [Value.int .i64 0,Value.int .i64 0].length=2)) (ResL.cons (Res1.tmp rfl) (ResL.nil))) (hq:=by exact⟨rfl,rfl⟩)
  ·have hno':(E.take (i+1)).any (fun y=>decide (y.key=x.key))=false:=by rw [hat];exact dFf hk
   refine Zz 49 false ?_ (hi:=by exact dFf hk)
   refine Ws ?_
   refine Zi 41 ((i+1:Nat):Int) ?_ (hi:=by omega)
   exact Zag ⟨i+1,hil',hno'⟩
 ·have hil:i=E.length:=by omega
  rw [hil,List.take_length] at hno
  refine Ws ?_
  (refine Wl (α:=Σ' (i:Nat),i≤E.length∧(E.take i).any (fun y=>meetsE x y)=false) (fun z=>E.length-z.1) (fun z=> [(0, .pointer (some ⟨pv,0,none⟩)),(4, .pointer (some ⟨b4,0,none⟩)),(5, .pointer (some ⟨b5,0,none⟩)),(6, .pointer (some ⟨b6,0,none⟩)),(52, .slice A E.length c),(53, .int .i64 (E.length:Int)),(54, .int .i64 (z.1:Int))]) (fun z=> [blk b4 43 (rootL a (h:Int)),blk b5 40 (entL x),blk b6 43 [.int .i64 0, .int .i64 0],blk pv 146 (viewL d v),DSK d v.S,own 40 8 (.slice A E.length c) E.length (EL E),Ex h0]) ⟨0,Nat.zero_le _,hm0⟩ ?_;rintro ⟨k,hk,hmo⟩ mx hmx;(try dsimp only at hmx ⊢))
  refine Ws ?_
  (refine Wcd ?_ ?_<;>intro hc2)
  ·have hkl:k<E.length:=by omega
   have hkl':k+1≤E.length:=hkl
   obtain⟨y,hy⟩: ∃y,y=E.getD k ent0:=⟨_,rfl⟩
   have hE8:((EL E).drop (k*8)).take 8=entL y:=by rw [hy];exact EL_eight E k hkl
   have hat:=any_take (fun y:ENT=>meetsE x y) E ent0 k hkl
   rw [←hy,hmo,Bool.false_or] at hat
   refine Ws ?_
   refine Zix (j:=k) ?_ (hj:=by rfl) (hlt:=by exact hkl)
   refine Ws ?_
   refine Zlq (ys:=entL y) ?_ (hv:=by exact hE8) (hl:=by rfl)
   refine Ws ?_
   refine Zal fun b14=>?_
   refine Ws ?_
   refine ZSa (ys:=entL y) ?_ (h1:=by exact entL_one5 y)
   refine Ws ?_
   refine Zla (cs:=entL x) ?_ (hl:=by rfl)
   refine Ws ?_
   refine Zla (cs:=entL y) ?_ (hl:=by rfl)
   refine Ws ?_
   refine Zcv (tree_meets x y) ?_
   refine Ws ?_
   cases hq:meetsE x y with
   | true=>
    have hany:E.any (fun y=>meetsE x y)=true:=any_of ent0 hkl (by rw [←hy];exact hq)
    have hchk:chkE E x=9:=by rw [chkE,if_neg (by rw [hno];simp),if_pos hany]
    rw [hchk,if_pos (by decide)] at hR0
    refine Ws ?_
    refine ZSa (ys:= [.int .i64 0, .int .i64 0]) ?_ (h1:=by exact two_int _ _)
    refine Ws ?_
    rw [hR0]
    exact Zfn [blk pv 146 (viewL d v),DSK d v.S] (h:=ResL.cons (Zra (rfl: [Value.int .i64 0,Value.int .i64 0].length=2)) (ResL.cons (Res1.tmp rfl) (ResL.nil))) (hq:=by exact⟨rfl,rfl⟩)
   | false=>
    have hmo':(E.take (k+1)).any (fun y=>meetsE x y)=false:=by rw [hat];exact hq
    refine Ws ?_
    refine Zi 54 ((k+1:Nat):Int) ?_ (hi:=by omega)
    exact Zag ⟨k+1,hkl',hmo'⟩
  ·have hkl:k=E.length:=by omega
   rw [hkl,List.take_length] at hmo
   have hchk:chkE E x=0:=by rw [chkE,if_neg (by rw [hno];simp),if_neg (by rw [hmo];simp)]
   rw [hchk,if_neg (by decide)] at hR0
   obtain⟨hGr,hGi⟩:=hG2 hchk
   refine Ws ?_
   by_cases h00:h=0
   ·rw [if_pos h00] at hR0
    have hGr:=hGr h00
    refine Zz 65 true ?_ (hi:=by rw [dTt];omega)
    refine Ws ?_
    refine Zla (cs:=entL x) ?_ (hl:=by rfl)
    refine Ws ?_
    (refine Zli (ys:=entL x) ?_;intro v68)
    (refine Tri.shape (e:=40) (size:=8) (v:=v68) Wp ?_;rintro ⟨A6,c6,rfl⟩)
    refine Ws ?_
    refine Zbu (ys:=ndLL true (.slice A6 1 c6) (.slice none 0 0) (.slice none 0 0)) ?_
    refine Ws ?_
    (refine Zli (ys:=ndLL true (.slice A6 1 c6) (.slice none 0 0) (.slice none 0 0)) ?_;intro v70)
    (refine Tri.shape (e:=125) (size:=4) (v:=v70) Wp ?_;rintro ⟨A7,c7,rfl⟩)
    (with_reducible apply Tri.noneM)
    (with_reducible apply Tri.ownNil 38 2)
    (with_reducible apply Tri.ownNil 3 1)
    refine Tri.joinS (l:= []) (e:=40) (size:=8) (v:= .slice A6 1 c6) Wp Wp ?_
    refine Tri.joinS (l:= [] ++ [_]) (e:=38) (size:=2) (v:= .slice none 0 0) Wp Wp ?_
    refine Tri.joinS (l:= [] ++ [_] ++ [_]) (e:=3) (size:=1) (v:= .slice none 0 0) Wp Wp ?_
    obtain⟨V4,hV4⟩: ∃V4,V4= [((Value.slice A6 1 c6:Value),(Value.slice none 0 0:Value),(Value.slice none 0 0:Value))] :=⟨_,rfl⟩
    have hl4:V4.length=1:=by rw [hV4];rfl
    have hn4:ndLL true (.slice A6 1 c6) (.slice none 0 0) (.slice none 0 0)=NDL true V4:=by rw [hV4];rfl
    have hmr: [] ++ [((.slice A6 1 c6:Value),1,entL x)] ++ [((.slice none 0 0:Value),0, [])] ++ [((.slice none 0 0:Value),0, [])] =RDS V4 [⟨[x], [], []⟩] :=by rw [hV4];rfl
    have hW4:shp V4:=fun v hv=>by
     rw [hV4] at hv
     rw [List.mem_singleton.1 hv];exact⟨_,_,_,_,_,_,_,_,_,rfl⟩
    have hR4: ∀y∈ [(⟨[x], [], []⟩:ND3)], ∀e∈y.E,entR e:=fun y hy e he=>by
     rw [List.mem_singleton.1 hy] at he
     rw [List.mem_singleton.1 he];exact hxR
    have hro:=view_root pv d 1 v true A7 c7 V4 [⟨[x], [], []⟩] 1 hGr hv (by omega) (by show 1≤1000;decide) (by decide) hl4 hW4 hR4
    rw [←hR0] at hro
    have hc1:((1:Nat):Int)=1:=rfl
    rw [hl4,hc1] at hro
    refine Zat (manyRd ([] ++ [_] ++ [_] ++ [_])) (manyRd (RDS V4 [⟨[x], [], []⟩])) ?_ (e:=by rw [←hmr])
    refine Zat (own 125 4 (.slice A7 _ c7) _ _) (own 125 4 (.slice A7 1 c7) 1 (NDL true V4)) ?_ (e:=by rw [hn4])
    refine Ws ?_
    refine Zd hro ?_
    refine Ws ?_
    refine ZSa (ys:= [.int .i64 R0.2.1.1, .int .i64 (R0.2.1.2:Int)]) ?_ (h1:=by exact two_int _ _)
    refine Ws ?_
    exact Zfn [blk pv 146 (viewL d R0.1),DSK d R0.1.S] (h:=ResL.cons (Zra (rfl: [Value.int .i64 R0.2.1.1,Value.int .i64 (R0.2.1.2:Int)].length=2)) (ResL.cons (Res1.tmp rfl) (ResL.nil))) (hq:=by exact⟨rfl,rfl⟩)
   ·rw [if_neg h00] at hR0
    obtain⟨hiG,hVok,hV⟩:=hGi h00
    refine Zz 65 false ?_ (hi:=by exact dFf (by omega))
    refine Ws ?_
    have hins:=view_insert pv d x hxR h v a hv (by omega) hiG
    rw [insertT] at hins
    obtain⟨V,hVd⟩: ∃V,V=inN h v a x:=⟨_,rfl⟩
    rw [←hVd] at hins hVok hV hR0
    refine Zla (cs:=entL x) ?_ (hl:=by rfl)
    refine Ws ?_
    refine Zcs hins ?_
    rintro r3 H3 ⟨A7,c7,VV,rfl,hVl,hVW,rfl⟩
    refine Wap ?_
    refine Ws ?_
    by_cases hz:V.2.2=0
    ·rw [if_pos hz] at hR0
     obtain⟨hv1,hv2,hv3,hv4⟩:=hV hz
     have hro:=view_root pv d 1 V.1 (decide (h=1)) A7 c7 VV V.2.1 h hv4 hVok (by omega) hv2 (by omega) hVl hVW hv3
     rw [←hR0] at hro
     refine Zz 85 false ?_ (hi:=by rw [hz];rfl)
     refine Ws ?_
     refine Zd hro ?_
     refine Ws ?_
     refine ZSa (ys:= [.int .i64 R0.2.1.1, .int .i64 (R0.2.1.2:Int)]) ?_ (h1:=by exact two_int _ _)
     refine Ws ?_
     exact Zfn [blk pv 146 (viewL d R0.1),DSK d R0.1.S] (h:=ResL.cons (Zra (rfl: [Value.int .i64 R0.2.1.1,Value.int .i64 (R0.2.1.2:Int)].length=2)) (ResL.cons (Res1.tmp rfl) (ResL.nil))) (hq:=by exact⟨rfl,rfl⟩)
    ·rw [if_neg hz] at hR0
     refine Zz 85 true ?_ (hi:=by rw [dTt];omega)
     refine Ws ?_
     refine ZSa (ys:= [.int .i64 0, .int .i64 0]) ?_ (h1:=by exact two_int _ _)
     refine Ws ?_
     rw [hR0]
     exact Zfn [blk pv 146 (viewL d V.1),DSK d V.1.S] (h:=ResL.cons (Zra (rfl: [Value.int .i64 0,Value.int .i64 0].length=2)) (ResL.cons (Res1.tmp rfl) (ResL.nil))) (hq:=by exact⟨rfl,rfl⟩)
theorem base_stopped (pb d pv:Nat)(s:SP)(m:BM)(op en:Bool)(e:Nat)(he:e≠2):
  Gv.Spec Tryz.prog 96 #[.pointer (some ⟨pb,0,none⟩), .int .i64 (e:Int)] [blk pb 161 (baseL d pv s m op en)]
  (fun r H'=>r= .int .i64 (e:Int)∧H'= [blk pb 161 (baseL d pv s m op en)]):=by
 refine Gv.Spec.of (fun w h0 hw=>?_)
 refine Calls.enter Tryz.func96 rfl rfl rfl hw ?_
 simp only [argSlots]
 refine Wap ?_
 refine Ws ?_
 refine Zz 6 false ?_ (hi:=by exact dFf (by omega))
 refine Ws ?_
 exact Zfn [blk pb 161 (baseL d pv s m op en)] (hq:=by exact⟨rfl,rfl⟩)
theorem txn_alone (x:ENT):SpecR Tryz.prog 91 #[entV x] (fun _=>True) (fun r H'=> ∃Av cv,r=ndW true (.slice Av 1 cv) (.slice none 0 0) (.slice none 0 0)∧H'= [own 40 8 (.slice Av 1 cv) 1 (entL x)]):=by
 refine SpecR.of (fun w _=>?_)
 refine Calls.enter Tryz.func91 rfl rfl rfl (St.rebase w) ?_
 simp only [argSlots]
 refine Ws ?_
 (refine Wbx ?_;intro b1)
 refine Ws ?_
 refine Zal fun b2=>?_
 refine Ws ?_
 refine Zla (cs:=entL x) ?_ (hl:=by rfl)
 refine Ws ?_
 (refine Zli (ys:=entL x) ?_;intro vl)
 (refine Tri.shape (e:=40) (size:=8) (v:=vl) Wp ?_;rintro ⟨Av,cv,rfl⟩)
 refine Ws ?_
 refine Zbu (ys:=ndLL true (.slice Av 1 cv) (.slice none 0 0) (.slice none 0 0)) ?_
 refine Ws ?_
 refine ZSa (ys:=ndLL true (.slice Av 1 cv) (.slice none 0 0) (.slice none 0 0)) ?_ (h1:=by exact ndLL_one true Av none none 1 cv 0 0 0 0)
 refine Ws ?_
 exact Zfn [own 40 8 (.slice Av 1 cv) 1 (entL x)] (h:=ResL.cons (Zra (rfl:(ndLL true (.slice Av 1 cv) (.slice none 0 0) (.slice none 0 0)).length=4)) (ResL.nil)) (hq:=by exact⟨Av,cv,rfl,rfl⟩)
theorem viewL_mp (d:Nat)(v:VS):(viewL d v)[0+258+0]? =some (.int .i64 v.m.p):=viewL_at 2
theorem view_SetMap (pv d:Nat)(v:VS)(m:BM)(hv:v.ok)(hm:m.u.length=512)(hr:rightM m=true)(hp:m.p=v.m.p):
  Gv.Spec Tryz.prog 22 #[.pointer (some ⟨pv,0,none⟩),bmV m] [blk pv 146 (viewL d v)]
  (fun r H'=>r= .tuple #[] ∧H'= [blk pv 146 (viewL d ⟨v.S,v.gen,m,v.old⟩)]):=by
 refine Gv.Spec.of (fun w h0 hw=>?_)
 refine Calls.enter Tryz.func22 rfl rfl rfl hw ?_
 simp only [argSlots]
 refine Wap ?_
 refine Ws ?_
 (refine Wbx ?_;intro b3)
 refine Ws ?_
 refine Wm [blk b3 60 (bmL m),blk pv 146 (viewL d v)] ?_
 refine Wq [0,1,2] ?_
 refine ZMb 6 true ?_
 refine Zm 3 (h:=fun _ _ qK=>by exact Zla (cs:=bmL m) qK (hl:=by exact bmL_len hm)) (k:=?_)
 refine Zm 4 (h:=fun _ _ qK=>by exact Zcv (bm_Right m hm) qK) (k:=?_)
 refine Wq [5,6] ?_
 refine ZMb 10 true ?_ (hi:=by exact hr)
 refine Wq [7] ?_
 refine Zm 8 (h:=fun _ _ qK=>by exact Zl (v:= .int .i64 m.p) qK) (k:=?_)
 refine Wq [9,10,11,12] ?_
 refine Zm 13 (h:=fun _ _ qK=>by exact Zl qK (hv:=by exact viewL_mp d v)) (k:=?_)
 refine Wq [14,15] ?_
 refine ZMb 19 true ?_ (hi:=by exact dTt hp)
 refine ZE ?_
 refine Ws ?_
 refine Zla (cs:=bmL m) ?_ (hl:=by exact bmL_len hm)
 refine Ws ?_
 refine ZSg (ys:=bmL m) ?_ (hl:=by exact bmL_len hm) (h1:=by exact bmL_one _) (hi:=by rw [viewL_len hv];omega)
 refine Zat (blk pv _ _) (blk pv 146 (viewL d ⟨v.S,v.gen,m,v.old⟩)) ?_ (e:=by rw [viewL_set hv m v.S])
 refine Ws ?_
 exact Zfn [blk pv 146 (viewL d ⟨v.S,v.gen,m,v.old⟩)] (hq:=by exact⟨rfl,rfl⟩)
theorem txn_Abort (pt pb tv d pv:Nat)(a h:Int)(s:SP)(m:BM)(op en:Bool)(hm:m.u.length=512):
  Gv.Spec Tryz.prog 47 #[.pointer (some ⟨pt,0,none⟩)] [blk pt 163 (txL pb tv a h false),blk pb 161 (baseL d pv s m op en)]
  (fun r H'=>r= .tuple #[] ∧H'= [blk pt 163 (txL pb tv a h true),blk pb 161 (baseL d pv s m false en)]):=by
 refine Gv.Spec.of (fun w h0 hw=>?_)
 refine Calls.enter Tryz.func47 rfl rfl rfl hw ?_
 simp only [argSlots]
 refine Wap ?_
 refine Ws ?_
 refine Zz 4 true ?_
 refine Ws ?_
 refine Zz 10 true ?_
 refine Ws ?_
 refine ZS ?_ (hi:=by exact(by decide:4<5))
 refine Zat (blk pt _ _) (blk pt 163 (txL pb tv a h true)) ?_
 refine Ws ?_
 refine ZS ?_ (hi:=by rw [baseL_len hm];omega)
 refine Zat (blk pb _ _) (blk pb 161 (baseL d pv s m false en)) ?_ (e:=by rw [baseL_set d pv s op en false hm])
 refine Ws ?_
 exact Zfn [blk pt 163 (txL pb tv a h true),blk pb 161 (baseL d pv s m false en)] (hq:=by exact⟨rfl,rfl⟩)
theorem meetsE_sym (x y:ENT):meetsE x y=(decide (y.key.1=x.key.1) && (decide (x.key.2≤y.fin) && decide (y.key.2≤x.fin))):=by
 rw [meetsE,decide_eq_decide.2 (show x.key.1=y.key.1↔y.key.1=x.key.1 from eq_comm)]
theorem txn_meets (pt pb tv d:Nat)(v:VS)(a:Int)(h:Nat)(ov:Bool)(x:ENT)(hv:v.ok)(hl:v.S.W.length≤1000000)(hh:h≤5)(hg:h=0∨wkG v.S h a)(hlen:(wkE v.S h a).length≤1000000):
  Gv.Spec Tryz.prog 92 #[.pointer (some ⟨pt,0,none⟩),entV x] [blk pt 163 (txL pb tv a (h:Int) ov),blk tv 146 (viewL d v),DSK d v.S]
  (fun r H'=>r= .int .i64 (chkE (wkE v.S h a) x:Int)∧H'= [blk pt 163 (txL pb tv a (h:Int) ov),blk tv 146 (viewL d v),DSK d v.S]):=by
 refine Gv.Spec.of (fun w h0 hw=>?_)
 refine Calls.enter Tryz.func92 rfl rfl rfl hw ?_
 simp only [argSlots]
 refine Wap ?_
 have hall:=tree_All tv d v hv hl h a hh hg hlen
 obtain⟨E,hE⟩: ∃E,E=wkE v.S h a:=⟨_,rfl⟩
 rw [←hE] at hall hlen ⊢
 refine Ws ?_
 (refine Wbx ?_;intro b3)
 refine Ws ?_
 refine Wm [blk pt 163 (txL pb tv a (h:Int) ov)] ?_
 refine Wq [0,1,2,3,4,5,6] ?_
 refine Zm 7 (h:=fun _ _ qK=>by exact Zlg (ys:=rootL a (h:Int)) qK (hl:=by rfl)) (k:=?_)
 refine ZA 8 ?_
 refine Zcs hall ?_
 rintro r1 H1 ⟨A,c,rfl,rfl⟩
 refine Wap ?_
 refine Zw ?_
 refine Wq [9,10,11,12,13] ?_
 refine ZE ?_
 refine Ws ?_
 refine Zz 24 false ?_
 refine Ws ?_
 have hEl8:(EL E).length=E.length*8:=EL_lens E rfl
 have hk0:(E.take 0).any (fun y=>decide (y.key=x.key))=false:=by rw [List.take_zero];rfl
 have hm0:(E.take 0).any (fun y=>meetsE x y)=false:=by rw [List.take_zero];rfl
 (refine Wl (α:=Σ' (i:Nat),i≤E.length∧(E.take i).any (fun y=>decide (y.key=x.key))=false) (fun z=>E.length-z.1) (fun z=> [(3, .pointer (some ⟨b3,0,none⟩)),(5, .slice A E.length c),(26, .slice A E.length c),(27, .int .i64 (E.length:Int)),(28, .int .i64 (z.1:Int))]) (fun z=> [blk b3 40 (entL x),blk pt 163 (txL pb tv a (h:Int) ov),blk tv 146 (viewL d v),DSK d v.S,own 40 8 (.slice A E.length c) E.length (EL E),Ex h0]) ⟨0,Nat.zero_le _,hk0⟩ ?_;rintro ⟨i,hi,hno⟩ mx hmx;(try dsimp only at hmx ⊢))
 refine Ws ?_
 (refine Wcd ?_ ?_<;>intro hc)
 ·have hil:i<E.length:=by omega
  have hil':i+1≤E.length:=hil
  obtain⟨y,hy⟩: ∃y,y=E.getD i ent0:=⟨_,rfl⟩
  have hE8:((EL E).drop (i*8)).take 8=entL y:=by rw [hy];exact EL_eight E i hil
  have hat:=any_take (fun y:ENT=>decide (y.key=x.key)) E ent0 i hil
  rw [←hy,hno,Bool.false_or] at hat
  refine Ws ?_
  refine Zix (j:=i) ?_ (hj:=by rfl) (hlt:=by exact hil)
  refine Ws ?_
  refine Zlq (ys:=entL y) ?_ (hv:=by exact hE8) (hl:=by rfl)
  refine Ws ?_
  refine Zal fun b8=>?_
  refine Ws ?_
  refine ZSa (ys:=entL y) ?_ (h1:=by exact entL_one5 y)
  refine Ws ?_
  refine Zlg ?_ (hv:=by exact key_cells y) (hl:=by rfl)
  refine Ws ?_
  refine Zlg ?_ (hv:=by exact key_cells x) (hl:=by rfl)
  refine Ws ?_
  refine ZoeqlA (r:=decide (y.key=x.key)) ?_ (hax:=by exact keyS_alk y.key) (hay:=by exact keyS_alk x.key) (hr:=by exact keyS_eq y.key x.key)
  refine Ws ?_
  by_cases hk:y.key=x.key
  ·have hany:E.any (fun y=>decide (y.key=x.key))=true:=any_of ent0 hil (by rw [←hy];exact dTt hk)
   have hchk:chkE E x=11:=by rw [chkE,if_pos hany]
   refine Zz 36 true ?_ (hi:=by exact dTt hk)
   refine Ws ?_
   rw [hchk]
   exact Zfn [blk pt 163 (txL pb tv a (h:Int) ov),blk tv 146 (viewL d v),DSK d v.S] (hq:=by exact⟨rfl,rfl⟩)
  ·have hno':(E.take (i+1)).any (fun y=>decide (y.key=x.key))=false:=by rw [hat];exact dFf hk
   refine Zz 36 false ?_ (hi:=by exact dFf hk)
   refine Ws ?_
   refine Zi 28 ((i+1:Nat):Int) ?_ (hi:=by omega)
   exact Zag ⟨i+1,hil',hno'⟩
 ·have hil:i=E.length:=by omega
  rw [hil,List.take_length] at hno
  refine Ws ?_
  (refine Wl (α:=Σ' (i:Nat),i≤E.length∧(E.take i).any (fun y=>meetsE x y)=false) (fun z=>E.length-z.1) (fun z=> [(3, .pointer (some ⟨b3,0,none⟩)),(38, .slice A E.length c),(39, .int .i64 (E.length:Int)),(40, .int .i64 (z.1:Int))]) (fun z=> [blk b3 40 (entL x),blk pt 163 (txL pb tv a (h:Int) ov),blk tv 146 (viewL d v),DSK d v.S,own 40 8 (.slice A E.length c) E.length (EL E),Ex h0]) ⟨0,Nat.zero_le _,hm0⟩ ?_;rintro ⟨k,hk,hmo⟩ mx hmx;(try dsimp only at hmx ⊢))
  refine Ws ?_
  (refine Wcd ?_ ?_<;>intro hc2)
  ·have hkl:k<E.length:=by omega
   have hkl':k+1≤E.length:=hkl
   obtain⟨y,hy⟩: ∃y,y=E.getD k ent0:=⟨_,rfl⟩
   have hE8:((EL E).drop (k*8)).take 8=entL y:=by rw [hy];exact EL_eight E k hkl
   have hat:=any_take (fun y:ENT=>meetsE x y) E ent0 k hkl
   rw [←hy,hmo,Bool.false_or,meetsE_sym] at hat
   have hsym:=meetsE_sym x y
   refine Ws ?_
   refine Zix (j:=k) ?_ (hj:=by rfl) (hlt:=by exact hkl)
   refine Ws ?_
   refine Zlq (ys:=entL y) ?_ (hv:=by exact hE8) (hl:=by rfl)
   refine Ws ?_
   refine Zal fun b10=>?_
   refine Ws ?_
   refine ZSa (ys:=entL y) ?_ (h1:=by exact entL_one5 y)
   refine Ws ?_
   by_cases e1:y.key.1=x.key.1
   ·rw [dTt e1,Bool.true_and] at hat hsym
    refine Zz 51 true ?_ (hi:=by exact dTt e1)
    refine Ws ?_
    by_cases e2:x.key.2≤y.fin
    ·rw [dTt e2,Bool.true_and] at hat hsym
     refine Zz 59 true ?_ (hi:=by exact dTt e2)
     refine Ws ?_
     by_cases e3:y.key.2≤x.fin
     ·rw [dTt e3] at hsym
      have hany:E.any (fun y=>meetsE x y)=true:=any_of ent0 hkl (by rw [←hy];exact hsym)
      have hchk:chkE E x=9:=by rw [chkE,if_neg (by rw [hno];simp),if_pos hany]
      refine Zz 66 true ?_ (hi:=by exact dTt e3)
      refine Ws ?_
      rw [hchk]
      exact Zfn [blk pt 163 (txL pb tv a (h:Int) ov),blk tv 146 (viewL d v),DSK d v.S] (hq:=by exact⟨rfl,rfl⟩)
     ·have hmo':(E.take (k+1)).any (fun y=>meetsE x y)=false:=by rw [hat];exact dFf e3
      refine Zz 66 false ?_ (hi:=by exact dFf e3)
      refine Ws ?_
      refine Zi 40 ((k+1:Nat):Int) ?_ (hi:=by omega)
      exact Zag ⟨k+1,hkl',hmo'⟩
    ·have hmo':(E.take (k+1)).any (fun y=>meetsE x y)=false:=by rw [hat,dFf e2];rfl
     refine Zz 59 false ?_ (hi:=by exact dFf e2)
     refine Ws ?_
     refine Zi 40 ((k+1:Nat):Int) ?_ (hi:=by omega)
     exact Zag ⟨k+1,hkl',hmo'⟩
   ·have hmo':(E.take (k+1)).any (fun y=>meetsE x y)=false:=by rw [hat,dFf e1];rfl
    refine Zz 51 false ?_ (hi:=by exact dFf e1)
    refine Ws ?_
    refine Zi 40 ((k+1:Nat):Int) ?_ (hi:=by omega)
    exact Zag ⟨k+1,hkl',hmo'⟩
  ·have hkl:k=E.length:=by omega
   rw [hkl,List.take_length] at hmo
   have hchk:chkE E x=0:=by rw [chkE,if_neg (by rw [hno];simp),if_neg (by rw [hmo];simp)]
   refine Ws ?_
   rw [hchk]
   exact Zfn [blk pt 163 (txL pb tv a (h:Int) ov),blk tv 146 (viewL d v),DSK d v.S] (hq:=by exact⟨rfl,rfl⟩)
def actL (a0 a1 a2 a3 a4:Int)(kp at_:Value):List Value:= [.int .i64 a0, .int .i64 a1, .int .i64 a2, .int .i64 a3, .int .i64 a4,kp,at_]
theorem wrap_mod (x:Int):IntKind.i64.wrap x%256=x%256:=by
 have key: ∀(b:Bool),(if b=true then x%18446744073709551616-18446744073709551616 else x%18446744073709551616)%256=x%256:=fun b=>by
  cases b
  ·show x%18446744073709551616%256=_
   omega
  ·show (x%18446744073709551616-18446744073709551616)%256=_
   omega
 exact key _
def ckS (a1:Int):Int:=a1%18446744073709551616%3
def ckT (a2:Int):Int:=a2.tmod 200
def ckE (a2 a3:Int):Int:=a2.tmod 200+a3%18446744073709551616%8
def ckN (a3:Int):Nat:=(1+a3%18446744073709551616%700).toNat
def ckL (a1 a2 a3:Int):List Value:= [.int .i64 (ckS a1), .int .i64 (ckT a2), .int .i64 (ckE a2 a3), .string ⟨(chB a3 (ckN a3)).toArray⟩]
theorem law16_chunk (a0 a1 a2 a3 a4:Int)(kp at_:Value)(hk:kp.oneCell'=true)(ha:at_.oneCell'=true)(h2:i64R a2):
  SpecR Tryz.prog 42 #[.agg (actL a0 a1 a2 a3 a4 kp at_).toArray] (fun _=>True) (fun r H'=>r= .agg (ckL a1 a2 a3).toArray∧H'= []):=by
 refine SpecR.of (fun w hr=>?_)
 refine Calls.enter Tryz.func42 rfl rfl rfl (St.rebase w) ?_
 simp only [argSlots]
 obtain⟨n,hn⟩: ∃n,n=ckN a3:=⟨_,rfl⟩
 have hni:(n:Int)=1+a3%18446744073709551616%700:=by rw [hn,ckN];omega
 have hn7:n≤700:=by omega
 have htm: -200≤a2.tmod 200∧a2.tmod 200≤200:=by
  have h1:=Int.tmod_lt_of_pos a2 (show (0:Int)<200 by decide)
  have h2:=Int.lt_tmod_of_pos a2 (show (0:Int)<200 by decide)
  omega
 refine Ws ?_
 (refine Wbx ?_;intro b1)
 refine Ws ?_
 refine Zal fun b2=>?_
 refine Ws ?_
 refine Zomake1 (m:=n) ?_ (hj:=by omega)
 intro bz
 refine Ws ?_
 refine Zat (blk bz _ _) (blk bz 5 (chC a3 n 0)) ?_ (e:=by rw [chC_zero])
 (refine Wl (α:=Σ' (i:Nat),i≤n) (fun q=>n-q.1) (fun q=> [(1, .pointer (some ⟨b1,0,none⟩)),(2, .pointer (some ⟨b2,0,none⟩)),(3, .slice (some ⟨bz,0,none⟩) n n),(4, .int .i64 (q.1:Int))]) (fun q=> [blk b1 105 (actL a0 a1 a2 a3 a4 kp at_),blk b2 102 [.int .i64 0, .int .i64 0, .int .i64 0, .string ⟨#[]⟩],blk bz 5 (chC a3 n q.1),Ex (hp w)]) ⟨0,Nat.zero_le _⟩ ?_;rintro ⟨i,hi⟩ mx hmx;(try dsimp only at hmx ⊢))
 refine Ws ?_
 (refine Wcd ?_ ?_<;>intro hc)
 ·have hil:i<n:=by omega
  have hil':i+1≤n:=hil
  refine Ws ?_
  refine Zi 26 ((a3+(i:Int)*7)%256) ?_ (hi:=by exact wrap_mod _)
  refine Zv 27 (.pointer (some ⟨bz,0+i*1,none⟩)) ?_ (hv:=by rfl)
  refine ZS ?_ (hi:=by rw [chC_len];omega)
  refine Zat (blk bz _ _) (blk bz 5 (chC a3 n (i+1))) ?_ (e:=by rw [Nat.mul_one,Nat.zero_add,chC_set _ _ _ hil])
  refine Ws ?_
  refine Zi 4 ((i+1:Nat):Int) ?_ (hi:=by omega)
  exact Zag ⟨i+1,hil'⟩
 ·have hil:i=n:=by omega
  subst hil
  rw [chC_all]
  have hrb:((B8 (chB a3 i)).drop 0).take (B8 (chB a3 i)).length=B8 (chB a3 i):=by rw [List.drop_zero,List.take_length]
  have hbl:(chB a3 i).length=i:=chB_len a3 i
  refine Ws ?_
  refine Zbs (l:=chB a3 i) ?_ (he:=by exact Tryz.underlying5) (hr:=by rw [hbl];exact rdw_blkAt (b:=bz) Wp ⟨Nat.le_refl _,by omega⟩ hrb)
  refine Ws ?_
  refine Zi 43 (ckE a2 a3) ?_ (hi:=by rfl)
  refine Zv 45 (.string ⟨(chB a3 (ckN a3)).toArray⟩) ?_ (hv:=by rw [←hn])
  refine Zbu (ys:=ckL a1 a2 a3) ?_
  refine Ws ?_
  refine ZSa (ys:=ckL a1 a2 a3) ?_ (h1:=by intro q hq;simp only [ckL,List.mem_cons,List.not_mem_nil,or_false] at hq;rcases hq with rfl | rfl | rfl | rfl<;>rfl)
  refine Ws ?_
  exact Zfn [] (h:=ResL.cons (Zra (rfl:(ckL a1 a2 a3).length=4)) (ResL.nil)) (hq:=by exact⟨rfl,rfl⟩)
theorem disk_WaitingD (p:Nat)(S:DS):Gv.Spec Tryz.prog 46 #[.pointer (some ⟨p,0,none⟩)] [DSK p S] (fun r H'=>r= .int .i64 (S.W.length:Int)∧H'= [DSK p S]):=fun w0 w H hw=>by
 obtain⟨a,vw,W,hW,h1⟩:=dsk_open hw
 have hWl:=WP2_len hW
 have h2:=St.rot (X:= [_]) (St.rot (X:= [_,_]) h1)
 refine(disk_Waiting p _ vw W S.off S.till w0 w _ h2).mono ?_
 intro e w' he
 cases e with
 | returned v=>
  obtain⟨H',⟨hr,rfl⟩,h3⟩:=he
  exact⟨_,⟨by rw [hr,hWl],rfl⟩,dsk_close hW (St.unrot (X:= [_,_]) (St.rot (X:= [_]) h3))⟩
 | panicked c=>exact he.elim
 | outgrown=>exact he.elim
structure ACX where
 a0:Int
 a1:Int
 a2:Int
 a3:Int
 a4:Int
 vk:Value
 va:Value
 K:List Bool
 U:List UInt8
def ACX.L (x:ACX):List Value:=actL x.a0 x.a1 x.a2 x.a3 x.a4 x.vk x.va
def AXL (row:List ACX):List Value:=row.flatMap ACX.L
theorem AXL_length: ∀r,(AXL r).length=r.length*7
 | [] =>rfl
 | x::W=>by
  have:=AXL_length W
  have e:AXL (x::W)=x.L++AXL W:=rfl
  have l:x.L.length=7:=rfl
  rw [e,lAp,this,l,lCn];omega
theorem AXL_drop: ∀(W:List ACX) (k:Nat),(AXL W).drop (k*7)=AXL (W.drop k)
 | W,0=>rfl
 | [],k+1=>by simp [AXL]
 | x::W,k+1=>by
  rw [show (k+1)*7=k*7+7 by omega, ←List.drop_drop,List.drop_drop,Nat.add_comm, ←List.drop_drop]
  exact AXL_drop W k
theorem AXL_seven (W:List ACX)(k:Nat)(h:k<W.length):((AXL W).drop (k*7)).take 7=(W[k]'h).L:=by
 rw [AXL_drop,List.drop_eq_getElem_cons h];rfl
structure acxOk (w:World)(x:ACX):Prop where
 k:RdW w x.vk x.K.length (x.K.map .bool)
 u:RdW w x.va x.U.length (B8 x.U)
 r:i64R x.a2
theorem rdv_one {w:World}{v:Value}{n:Nat}{xs:List Value}(hr:RdW w v n xs):v.oneCell'=true:=by
 obtain⟨A,c,rfl,_⟩:=hr;rfl
theorem FL_snoc (F:List (Bool×UInt8))(f:Bool×UInt8):FL (F++ [f])=FL F++ [.bool f.1, .int .u8 (f.2.toNat:Int)] :=by rw [FL,FL,List.flatMap_append];rfl
theorem two_bu (z:Bool)(c:Int): ∀y∈ [Value.bool z, .int .u8 c],y.oneCell'=true:=by
 intro y hy
 simp only [List.mem_cons,List.not_mem_nil,or_false] at hy
 rcases hy with rfl | rfl<;>rfl
structure FTS (n:Nat) where
 F:List (Bool×UInt8)
 vf:Value
 hn:F.length≤n
theorem law16_fates (a0 a1 a2 a3 a4:Int)(kp at_:Value)(hk1:kp.oneCell'=true)(ha1:at_.oneCell'=true)(K:List Bool)(U:List UInt8)(n:Nat)(hn:n≤100000):
  SpecR Tryz.prog 45 #[.agg (actL a0 a1 a2 a3 a4 kp at_).toArray, .int .i64 (n:Int)] (fun w=>RdW w kp K.length (K.map .bool)∧RdW w at_ U.length (B8 U))
  (fun r H'=> ∃F:List (Bool×UInt8),F.length=n∧H'= [own 189 2 r F.length (FL F)]):=by
 refine SpecR.of (fun w hrr=>?_)
 obtain⟨hrk,hru⟩:=hrr
 have hkl:=hrk.le
 have hul:=hru.le
 refine Calls.enter Tryz.func45 rfl rfl rfl (St.rebase w) ?_
 simp only [argSlots]
 refine Ws ?_
 (refine Wbx ?_;intro b2)
 refine Ws ?_
 (with_reducible apply Tri.ownNil 189 2)
 (refine Wl (α:=FTS n) (fun x=>n-x.F.length) (fun x=> [(1, .int .i64 (n:Int)),(2, .pointer (some ⟨b2,0,none⟩)),(5,x.vf),(6, .int .i64 (x.F.length:Int))]) (fun x=> [blk b2 105 (actL a0 a1 a2 a3 a4 kp at_),own 189 2 x.vf x.F.length (FL x.F),Ex (hp w)]) ⟨[], .slice none 0 0,Nat.zero_le _⟩ ?_;rintro ⟨F,vf,hF⟩ mx hmx;(try dsimp only at hmx ⊢))
 (try dsimp only)
 refine Ws ?_
 (refine Wcd ?_ ?_<;>intro hc)
 ·have hil:F.length<n:=by omega
  have hil':F.length+1≤n:=hil
  refine Ws ?_
  refine Zz 18 (decide ((IntKind.i64.wrap ((F.length:Int)+a3)).tmod 3=0)) ?_
  generalize decide ((IntKind.i64.wrap ((F.length:Int)+a3)).tmod 3=0)=z
  refine Zbu (ys:= [.bool z, .int .u8 255]) ?_
  refine Ws ?_
  refine Zal fun b7=>?_
  refine Wo ?_
  refine ZSa (ys:= [.bool z, .int .u8 255]) ?_ (h1:=by exact two_bu _ _)
  refine Wo ?_
  (refine Wme (α:=Bool) (fun x=> [(1, .int .i64 (n:Int)),(2, .pointer (some ⟨b2,0,none⟩)),(5,vf),(6, .int .i64 (F.length:Int)),(7, .pointer (some ⟨b7,0,none⟩))]) (fun x=> [blk b7 189 [.bool x, .int .u8 255],blk b2 105 (actL a0 a1 a2 a3 a4 kp at_),own 189 2 vf F.length (FL F),Ex (hp w)]) ?_ ?_;rotate_left;rintro z1;(try dsimp only);rotate_left)
  ·refine Ws ?_
   refine Zlr2 (hr:=hrk) ?_
   refine Ws ?_
   (refine Wcd ?_ ?_<;>intro hk)
   ·have hkl2:F.length<K.length:=by omega
    have hbk:(K.map Value.bool)[F.length]? =some (.bool (K[F.length]'hkl2)):=by simp [hkl2]
    refine Ws ?_
    refine Zir (hr:=hrk) (j:=F.length) ?_ (hj:=by rfl) (hlt:=by exact hkl2) (hl:=by simp;omega)
    refine Ws ?_
    refine Zlr (hr:=hrk) ?_ (hv:=by exact(by rw [Nat.mul_one];exact hbk))
    refine Ws ?_
    refine ZS ?_ (hi:=by show 0<2;omega)
    refine Ws ?_
    exact Zrc (K[F.length]'hkl2)
   ·refine Ws ?_
    exact Zrc z
  refine Wo ?_
  (refine Wme (α:=UInt8) (fun x=> [(1, .int .i64 (n:Int)),(2, .pointer (some ⟨b2,0,none⟩)),(5,vf),(6, .int .i64 (F.length:Int)),(7, .pointer (some ⟨b7,0,none⟩))]) (fun x=> [blk b7 189 [.bool z1, .int .u8 (x.toNat:Int)],blk b2 105 (actL a0 a1 a2 a3 a4 kp at_),own 189 2 vf F.length (FL F),Ex (hp w)]) ?_ ?_;rotate_left;rintro c1;(try dsimp only);rotate_left)
  ·refine Ws ?_
   refine Zlr2 (hr:=hru) ?_
   refine Ws ?_
   (refine Wcd ?_ ?_<;>intro hu)
   ·have hul2:F.length<U.length:=by omega
    have hua:(B8 U)[F.length]? =some (.int .u8 ((U[F.length]'hul2).toNat:Int)):=by simp [B8,hul2]
    refine Ws ?_
    refine Zir (hr:=hru) (j:=F.length) ?_ (hj:=by rfl) (hlt:=by exact hul2) (hl:=by rw [B8_length];omega)
    refine Ws ?_
    refine Zlr (hr:=hru) ?_ (hv:=by exact(by rw [Nat.mul_one];exact hua))
    refine Ws ?_
    refine ZS ?_ (hi:=by show 1<2;omega)
    refine Ws ?_
    exact Zrc (U[F.length]'hul2)
   ·refine Ws ?_
    exact Zrc (255:UInt8)
  refine Ws ?_
  refine Zla (cs:= [.bool z1, .int .u8 (c1.toNat:Int)]) ?_ (hl:=by rfl)
  refine Ws ?_
  (refine Zli (ys:= [.bool z1, .int .u8 (c1.toNat:Int)]) ?_;intro vl)
  refine Ws ?_
  refine Zap ?_ (hr:=by exact rdw_own Wp) (hl:=by rfl) (h1:=by exact two_bu _ _)
  intro vf'
  refine Ws ?_
  refine Zat (own 189 2 vf' _ _) (own 189 2 vf' (F++ [(z1,c1)]).length (FL (F++ [(z1,c1)]))) ?_ (e:=by rw [FL_snoc,lAp];rfl)
  refine Ws ?_
  have hlen1:(F++ [(z1,c1)]).length=F.length+1:=lAp
  have hlen:(F++ [(z1,c1)]).length≤n:=by omega
  refine Zi 6 (((F++ [(z1,c1)]).length:Nat):Int) ?_ (hi:=by rw [hlen1];rfl)
  exact Zag ⟨F++ [(z1,c1)],vf',hlen⟩
 ·have hil:F.length=n:=by omega
  refine Ws ?_
  refine Zfn [own 189 2 vf F.length (FL F)] (hq:=?_)
  exact⟨F,hil,rfl⟩
theorem txn_EntriesT (pt pb tv d pv:Nat)(v:VS)(a:Int)(h:Nat)(s:SP)(m:BM)(op:Bool)(hm:m.u.length=512)(hv:v.ok)(hl:v.S.W.length≤1000000)(hh:h≤5)(hg:h=0∨wkG v.S h a)(hlen:(wkE v.S h a).length≤1000000):
  Gv.Spec Tryz.prog 43 #[.pointer (some ⟨pt,0,none⟩)] [blk pt 163 (txL pb tv a (h:Int) false),blk pb 161 (baseL d pv s m op false),blk tv 146 (viewL d v),DSK d v.S]
  (fun r H'=> ∃A c,r= .tuple #[.slice A (wkE v.S h a).length c, .int .i64 0] ∧H'= [blk pt 163 (txL pb tv a (h:Int) false),blk pb 161 (baseL d pv s m op false),blk tv 146 (viewL d v),DSK d v.S,own 40 8 (.slice A (wkE v.S h a).length c) (wkE v.S h a).length (EL (wkE v.S h a))]):=by
 refine Gv.Spec.of (fun w h0 hw=>?_)
 refine Calls.enter Tryz.func43 rfl rfl rfl hw ?_
 simp only [argSlots]
 refine Wap ?_
 have hall:=tree_All tv d v hv hl h a hh hg hlen
 obtain⟨E,hE⟩: ∃E,E=wkE v.S h a:=⟨_,rfl⟩
 rw [←hE] at hall hlen ⊢
 have hst:=base_stopped pb d pv s m op false 0 (by decide)
 have h00:((0:Nat):Int)=0:=rfl
 rw [h00] at hst
 refine Ws ?_
 refine Zd (txn_may pt pb tv d pv a (h:Int) false s m op false hm) ?_
 refine Ws ?_
 refine Zz 10 false ?_
 refine Ws ?_
 refine Wm [blk pt 163 (txL pb tv a (h:Int) false)] ?_
 refine Wq [0,1,2,3,4,5,6] ?_
 refine Zm 7 (h:=fun _ _ qK=>by exact Zlg (ys:=rootL a (h:Int)) qK (hl:=by rfl)) (k:=?_)
 refine ZA 8 ?_
 refine Zcs hall ?_
 rintro r2 H2 ⟨A,c,rfl,rfl⟩
 refine Wap ?_
 refine Zw ?_
 refine Wq [9,10,11,12,13] ?_
 refine ZE ?_
 refine Ws ?_
 refine Zd hst ?_
 refine Ws ?_
 exact Zfn [blk pt 163 (txL pb tv a (h:Int) false),blk pb 161 (baseL d pv s m op false),blk tv 146 (viewL d v),DSK d v.S,own 40 8 (.slice A E.length c) E.length (EL E)] (hq:=by exact⟨A,c,rfl,rfl⟩)
theorem view_Map (pv d:Nat)(v:VS)(hv:v.ok):
  Gv.Spec Tryz.prog 23 #[.pointer (some ⟨pv,0,none⟩)] [blk pv 146 (viewL d v)] (fun r H'=>r=bmV v.m∧H'= [blk pv 146 (viewL d v)]):=by
 refine Gv.Spec.of (fun w h0 hw=>?_)
 refine Calls.enter Tryz.func23 rfl rfl rfl hw ?_
 simp only [argSlots]
 refine Wap ?_
 refine Ws ?_
 refine Zal fun b2=>?_
 refine Ws ?_
 refine Zz 4 false ?_
 refine Ws ?_
 refine Zlg ?_ (hv:=by exact viewL_m hv) (hl:=by exact bmL_len hv.m)
 refine Ws ?_
 refine ZSa (ys:=bmL v.m) ?_ (hl:=by exact bmL_len hv.m) (hc:=by exact z513g) (h1:=by exact bmL_one _)
 refine Ws ?_
 exact Zfn [blk pv 146 (viewL d v)] (h:=ResL.cons (Zra (bmL_len hv.m)) (ResL.nil)) (hq:=by exact⟨rfl,rfl⟩)
theorem ent_len {e:ENT}(h:entOk e=true):1≤e.len∧e.len≤65535:=by
 simp only [entOk,Bool.and_eq_true,betw,decide_eq_true_eq] at h
 exact h.1.1.1.2
theorem putV_ok {v:VS}{m2:BM}{t:Nat}{text:List UInt8}(hv:v.ok)(hm:m2.u.length=512):(putV v m2 t text).ok:=⟨DS.wrs_ok _ _ hv.S,hv.g,hm,hv.o⟩
theorem txn_Put (pt pb tv d pv:Nat)(v:VS)(a:Int)(h:Nat)(s:SP)(m:BM)(op:Bool)(x:ENT)(tx:Value)(text:List UInt8)(h1:PH)(hrd:Rd h1 tx text.length (B8 text))(m2:BM)(t:Nat)(v2:VS)(a2:Int)(h2:Nat)
  (hv:v.ok) (hl:v.S.W.length+text.length≤700000) (hm:m.u.length=512) (hh:h≤5) (hg:h=0∨wkG v.S h a) (hlen:(wkE v.S h a).length≤1000000)
  (hok:entOk (entT x 2 text)=true) (hc:chkE (wkE v.S h a) x=0) (hT:takeM v.m m (pagesE (text.length:Int))=(m2,(t:Int),0)) (hm2:m2.u.length=512) (hr2:rightM m2=true) (hp2:m2.p=v.m.p) (ht:t≤1000000)
  (hw:(v.S.wrs ((t:Int)*4) (secs (padB text) ((padB text).length/64))).2=0) (hG:iG (putV v m2 t text) a h (entT x (t:Int) text)) (hI:iN (putV v m2 t text) a h (entT x (t:Int) text)=(v2,(a2,h2),0)):
  Gv.Spec Tryz.prog 38 #[.pointer (some ⟨pt,0,none⟩),entV x,tx] [blk pt 163 (txL pb tv a (h:Int) false),blk pb 161 (baseL d pv s m op false),blk tv 146 (viewL d v),DSK d v.S,Ex h1]
  (fun r H'=>r= .int .i64 0∧H'= [blk pt 163 (txL pb tv a2 (h2:Int) false),blk pb 161 (baseL d pv s m op false),blk tv 146 (viewL d v2),DSK d v2.S,Ex h1]):=by
 refine Gv.Spec.of (fun w h0 hw0=>?_)
 refine Calls.enter Tryz.func38 rfl rfl rfl hw0 ?_
 simp only [argSlots]
 refine Wap ?_
 obtain⟨At,ct,rfl,_⟩:=id hrd
 have hel:=ent_len hok
 have htl:text.length≤65535:=by have:(entT x 2 text).len=(text.length:Int):=rfl;omega
 have hsum:=crc_Sum (.slice At text.length ct) text
 have hmt:=txn_meets pt pb tv d v a h false (entT x 2 text) hv (by omega) hh hg hlen
 rw [chkE_T,hc] at hmt
 have hwr:=page_WriteRaw d v.S (t:Int) (.slice At text.length ct) text h1 hrd hv.S (by omega) (by omega) (by omega)
 have hin:=view_Insert tv d (putV v m2 t text) a h (entT x (t:Int) text) (putV_ok hv hm2) hG
 rw [hI] at hin
 dsimp only at hin
 refine Ws ?_
 (refine Wbx ?_;intro b4)
 refine Ws ?_
 refine Zd (txn_may pt pb tv d pv a (h:Int) false s m op false hm) ?_
 refine Ws ?_
 refine Zz 17 false ?_
 refine Ws ?_
 refine Zlg ?_ (hv:=by exact baseL_tab d pv s m op false) (hl:=by exact tabL_length)
 refine Ws ?_
 refine Zcv hsum ?_ (hpre:=by exact rdw_ex Wp hrd)
 refine Ws ?_
 refine ZS ?_ (hi:=by exact(by decide:3<8))
 refine Ws ?_
 refine ZS ?_ (hi:=by exact(by decide:4<8))
 refine Ws ?_
 refine ZS ?_ (hi:=by exact(by decide:7<8))
 refine Zat (blk b4 _ _) (blk b4 40 (entL (entT x 2 text))) ?_
 refine Ws ?_
 refine Zla (cs:=entL (entT x 2 text)) ?_ (hl:=by rfl)
 refine Ws ?_
 refine Zcr (txn_alone (entT x 2 text)) ?_
 rintro r2 H2 ⟨Av,cv,rfl,rfl⟩
 refine Wap ?_
 refine Ws ?_
 refine Zat (own 40 8 (.slice Av 1 cv) _ _) (own 40 8 (.slice Av 1 cv) [entT x 2 text].length (EL [entT x 2 text])) ?_
 refine Zcv (node_Right true (.slice Av 1 cv) (.slice none 0 0) (.slice none 0 0) [entT x 2 text] [] []) ?_ (hpre:=by exact fun w' hw'=>⟨rdw_own (v:= .slice Av 1 cv) Wp w' hw',rd_noneT _,rd_noneT _⟩)
 refine Zz 35 true ?_ (hi:=by exact one_right hok)
 refine Ws ?_
 refine Zz 36 false ?_
 refine Ws ?_
 refine Zla (cs:=entL (entT x 2 text)) ?_ (hl:=by rfl)
 refine Ws ?_
 refine Zd hmt ?_
 refine Ws ?_
 refine Zz 41 false ?_
 refine Ws ?_
 have hpg:=node_PagesE (entT x 2 text) ⟨by omega,hel.2⟩
 have hpl:(entT x 2 text).len=(text.length:Int):=rfl
 rw [hpl] at hpg
 have htk:=bm_Take v.m m (pagesE (text.length:Int)) hv.m hm
 rw [hT] at htk
 refine Wm [blk pt 163 (txL pb tv a (h:Int) false),blk pb 161 (baseL d pv s m op false),blk b4 40 (entL (entT x 2 text))] ?_
 refine Wq [0,1,2,3,5,6,7,8,9,10] ?_
 refine Zm 11 (h:=fun _ _ qK=>by exact Zlg qK (hv:=by exact baseL_m hm) (hl:=by exact bmL_len hm)) (k:=?_)
 refine Zm 12 (h:=fun _ _ qK=>by exact Zla (cs:=entL (entT x 2 text)) qK (hl:=by rfl)) (k:=?_)
 refine ZA2 4 19 ?_ ?_
 refine Zd (view_Map tv d v hv) ?_
 refine Zw ?_
 refine Zm 13 (h:=fun _ _ qK=>by exact Zcv hpg qK) (k:=?_)
 refine Zm 14 (h:=fun _ _ qK=>by exact Zcv htk qK) (k:=?_)
 refine Wq [15,16,17,18] ?_
 refine ZA 19 ?_
 refine Zal fun b9=>?_
 refine Zw ?_
 refine ZA 20 ?_
 refine ZSa (ys:=bmL m2) ?_ (hl:=by exact bmL_len hm2) (hc:=by exact z513g) (h1:=by exact bmL_one _)
 refine Zw ?_
 refine Wq [21,22] ?_
 refine ZE ?_
 refine Ws ?_
 refine Zz 65 false ?_
 rotate_left
 refine Zal fun b9=>?_
 refine Zw ?_
 refine ZA 4 ?_
 refine Zd (view_Map tv d v hv) ?_
 refine Zw ?_
 refine Zm 13 (h:=fun _ _ qK=>by exact Zcv hpg qK) (k:=?_)
 refine Zm 14 (h:=fun _ _ qK=>by exact Zcv htk qK) (k:=?_)
 refine Wq [15,16,17,18] ?_
 refine ZA 20 ?_
 refine ZSa (ys:=bmL m2) ?_ (hl:=by exact bmL_len hm2) (hc:=by exact z513g) (h1:=by exact bmL_one _)
 refine Zw ?_
 refine Wq [21,22] ?_
 refine ZE ?_
 refine Ws ?_
 refine Zz 65 false ?_
 rotate_left
 all_goals
  refine Ws ?_
  refine Wm [blk pt 163 (txL pb tv a (h:Int) false),blk b9 60 (bmL m2)] ?_
  refine Wq [0,1,2,3] ?_
  refine Zm 4 (h:=fun _ _ qK=>by exact Zla (cs:=bmL m2) qK (hl:=by exact bmL_len hm2)) (k:=?_)
  refine ZA 5 ?_
  refine Zd (view_SetMap tv d v m2 hv hm2 hr2 hp2) ?_
  refine Zw ?_
  refine ZE ?_
  refine Ws ?_
  refine ZS ?_ (hi:=by exact(by decide:3<8))
  refine Zat (blk b4 _ _) (blk b4 40 (entL (entT x (t:Int) text))) ?_
  refine Ws ?_
  refine Zd hwr ?_
  refine Ws ?_
  refine Zz 88 false ?_ (hi:=by rw [hw];rfl)
  refine Ws ?_
  refine Zat (blk tv _ _) (blk tv 146 (viewL d (putV v m2 t text))) ?_
  refine Zat (DSK d _) (DSK d (putV v m2 t text).S) ?_
  refine Wm [blk pt 163 (txL pb tv a (h:Int) false),blk b4 40 (entL (entT x (t:Int) text))] ?_
  refine Wq [0,1,2,3,4,5,6] ?_
  refine Zm 7 (h:=fun _ _ qK=>by exact Zlg (ys:=rootL a (h:Int)) qK (hl:=by rfl)) (k:=?_)
  refine Zm 8 (h:=fun _ _ qK=>by exact Zla (cs:=entL (entT x (t:Int) text)) qK (hl:=by rfl)) (k:=?_)
  refine ZA2 9 13 ?_ ?_
  refine Zd hin ?_
  refine Zw ?_
  refine Wq [10,11,12] ?_
  refine ZA 13 ?_
  refine Zal fun b13=>?_
  refine Zw ?_
  refine ZA 14 ?_
  refine ZSa (ys:=rootL a2 (h2:Int)) ?_ (h1:=by exact two_int _ _)
  refine Zw ?_
  refine Wq [15] ?_
  refine ZE ?_
  refine Ws ?_
  refine Zz 106 false ?_
  rotate_left
  refine Zal fun b13=>?_
  refine Zw ?_
  refine ZA 9 ?_
  refine Zd hin ?_
  refine Zw ?_
  refine Wq [10,11,12] ?_
  refine ZA 14 ?_
  refine ZSa (ys:=rootL a2 (h2:Int)) ?_ (h1:=by exact two_int _ _)
  refine Zw ?_
  refine Wq [15] ?_
  refine ZE ?_
  refine Ws ?_
  refine Zz 106 false ?_
  rotate_left
  all_goals
   refine Ws ?_
   refine Zla (cs:=rootL a2 (h2:Int)) ?_ (hl:=by rfl)
   refine Ws ?_
   refine ZSg (ys:=rootL a2 (h2:Int)) ?_ (h1:=by exact two_int _ _) (hi:=by exact(by decide:2+2≤5))
   refine Zat (blk pt _ _) (blk pt 163 (txL pb tv a2 (h2:Int) false)) ?_
   refine Ws ?_
   exact Zfn [blk pt 163 (txL pb tv a2 (h2:Int) false),blk pb 161 (baseL d pv s m op false),blk tv 146 (viewL d v2),DSK d v2.S,Ex h1] (hq:=by exact⟨rfl,rfl⟩)
def fdE (E:List ENT)(k:KEY):ENT×Nat:=match E.find? (fun y=>decide (y.key=k)) with
 | some y=>(y,0)
 | none=>(ent0,10)
def fdN (S:DS):Nat→Int→KEY→ENT×Nat
 | 0,_,_=>(ent0,10)
 | h+1,a,k=>if h=0 then fdE (rdN S a true).E k else fdN S h ((rdN S a false).D.getD (childN (rdN S a false).K k) 0) k
def fdG (S:DS):Nat→Int→KEY→Prop
 | 0,_,_=>True
 | h+1,a,k=>(-1000000≤a∧a≤1000000)∧(rdN S a (decide (h=0))).e=0∧(rdN S a (decide (h=0))).E.length≤1000∧(rdN S a (decide (h=0))).K.length≤1000∧
  (h≠0→childN (rdN S a false).K k<(rdN S a false).D.length∧fdG S h ((rdN S a false).D.getD (childN (rdN S a false).K k) 0) k)
theorem fdE_some {E:List ENT}{k:KEY}{i:Nat}(hno:(E.take i).any (fun y=>decide (y.key=k))=false)(hi:i<E.length)(hk:(E.getD i ent0).key=k):fdE E k=(E.getD i ent0,0):=by
 have e:E=E.take i++E.getD i ent0::E.drop (i+1):=by
  rw [gDe,gEe hi,Option.getD_some,List.getElem_cons_drop,List.take_append_drop]
 have hn:(E.take i).find? (fun y=>decide (y.key=k))=none:=by
  rw [List.find?_eq_none]
  intro y hy
  have:=List.any_eq_false.1 hno y hy
  exact this
 have hf:E.find? (fun y=>decide (y.key=k))=some (E.getD i ent0):=by
  conv=>lhs;rw [e]
  rw [List.find?_append,hn,List.find?_cons]
  simp only [hk,decide_true,Option.none_or]
 rw [fdE,hf]
theorem fdE_none {E:List ENT}{k:KEY}(hno:E.any (fun y=>decide (y.key=k))=false):fdE E k=(ent0,10):=by
 have hn:E.find? (fun y=>decide (y.key=k))=none:=by
  rw [List.find?_eq_none]
  intro y hy
  exact List.any_eq_false.1 hno y hy
 rw [fdE,hn]
def delE (E:List ENT)(k:KEY):List ENT:=E.filter (fun y=> !decide (y.key=k))
theorem delE_app (A B:List ENT)(k:KEY):delE (A++B) k=delE A k++delE B k:=List.filter_append ..
theorem delE_none {A:List ENT}{k:KEY}(h:A.any (fun y=>decide (y.key=k))=false):delE A k=A:=by
 rw [delE,List.filter_eq_self]
 intro y hy
 have h1:=List.any_eq_false.1 h y hy
 cases hq:decide (y.key=k)
 ·rfl
 ·exact absurd hq h1
theorem delE_len (A:List ENT)(k:KEY):(delE A k).length≤A.length:=List.length_filter_le ..
def isK (E:List ENT)(k:KEY)(i:Nat):Prop:=i≤E.length∧(E.take i).any (fun y=>decide (y.key=k))=false∧(i<E.length→(E.getD i ent0).key=k)
theorem take_snoc {E:List ENT}{i:Nat}(h:i<E.length):E.take (i+1)=E.take i++ [E.getD i ent0] :=by
 rw [List.take_add_one,gDe,gEe h];rfl
theorem isK_all {E:List ENT}{k:KEY}(h:isK E k E.length):delE E k=E:=by
 have h2:=h.2.1
 rw [List.take_length] at h2
 exact delE_none h2
theorem isK_start {E:List ENT}{k:KEY}{i:Nat}(h:isK E k i)(hi:i<E.length):E.take i=delE (E.take (i+1)) k:=by
 have hk:=h.2.2 hi
 rw [take_snoc hi,delE_app,delE_none h.2.1]
 have:delE [E.getD i ent0] k= [] :=by rw [delE,List.filter_cons,hk];simp
 rw [this,List.append_nil]
theorem del_keep {E:List ENT}{k:KEY}{j:Nat}(hj:j<E.length)(hk:(E.getD j ent0).key≠k):delE (E.take (j+1)) k=delE (E.take j) k++ [E.getD j ent0] :=by
 rw [take_snoc hj,delE_app]
 have:delE [E.getD j ent0] k= [E.getD j ent0] :=by rw [delE,List.filter_cons,dFf hk];rfl
 rw [this]
theorem del_drop {E:List ENT}{k:KEY}{j:Nat}(hj:j<E.length)(hk:(E.getD j ent0).key=k):delE (E.take (j+1)) k=delE (E.take j) k:=by
 rw [take_snoc hj,delE_app]
 have:delE [E.getD j ent0] k= [] :=by rw [delE,List.filter_cons,dTt hk];rfl
 rw [this,List.append_nil]
theorem set_take {X:List ENT}{i:Nat}(v:ENT)(h:i<X.length):(X.set i v).take (i+1)=X.take i++ [v] :=by
 rw [List.take_add_one,List.getElem?_set_self (by omega),List.take_set_of_le (Nat.le_refl i)];rfl
theorem set_drop {X:List ENT}{i j:Nat}(v:ENT)(h:i<j):(X.set i v).drop j=X.drop j:=List.drop_set_of_lt h
def fewN (leaf:Bool)(x:ND3):Bool:=if leaf then decide (x.E.length<3) else decide (x.D.length<8)
def nbO (n i:Nat):Nat:=if i+1=n then i-1 else i+1
def nbF (n i:Nat):Nat:=if i+1=n then i-1 else i
def jdN (leaf:Bool)(v:VS)(D:List Int)(i:Nat)(x:ND3):VS×ND3×Nat×Nat:=
 if fewN leaf x=true∧1<D.length then
  ((giN v (D.getD (nbO D.length i) 0)).1,if i+1=D.length then appN ⟨(rdN v.S (D.getD (nbO D.length i) 0) leaf).E,(rdN v.S (D.getD (nbO D.length i) 0) leaf).K,(rdN v.S (D.getD (nbO D.length i) 0) leaf).D⟩ x
    else appN x ⟨(rdN v.S (D.getD (nbO D.length i) 0) leaf).E,(rdN v.S (D.getD (nbO D.length i) 0) leaf).K,(rdN v.S (D.getD (nbO D.length i) 0) leaf).D⟩,nbF D.length i,2)
 else(v,x,i,1)
def reN (leaf:Bool)(v:VS)(x:ND3)(i c:Nat)(xs:List ND3):VS×ND3×Nat:=
 if(unN leaf v xs).2.2=0 then((unN leaf v xs).1,⟨x.E,x.K.take i++(unN leaf v xs).2.1.K++x.K.drop (i+c),x.D.take i++(unN leaf v xs).2.1.D++x.D.drop (i+c)⟩,0)
 else((unN leaf v xs).1,nd0,(unN leaf v xs).2.2)
def rmS (leaf:Bool)(y:ND3)(i:Nat)(r:VS×ND3×Nat):VS×ND3×Nat:=
 if r.2.2=0 then reN leaf (jdN leaf r.1 y.D i r.2.1).1 y (jdN leaf r.1 y.D i r.2.1).2.2.1 (jdN leaf r.1 y.D i r.2.1).2.2.2 (splitN leaf (jdN leaf r.1 y.D i r.2.1).2.1)
 else(r.1,nd0,r.2.2)
def rmN:Nat→VS→Int→KEY→VS×ND3×Nat
 | 0,v,_,_=>(v,nd0,0)
 | h+1,v,a,k=>
  if h=0 then((giN v a).1,⟨delE (rdN v.S a true).E k,(rdN v.S a true).K,(rdN v.S a true).D⟩,0)
  else rmS (decide (h=1)) ⟨(rdN v.S a false).E,(rdN v.S a false).K,(rdN v.S a false).D⟩ (childN (rdN v.S a false).K k) (rmN h (giN v a).1 ((rdN v.S a false).D.getD (childN (rdN v.S a false).K k) 0) k)
def rdG (leaf:Bool)(v:VS)(a:Int):Prop:=
 (-1000000≤a∧a≤1000000)∧v.S.W.length≤800000∧(rdN v.S a leaf).e=0∧(rdN v.S a leaf).leaf=leaf∧
   okN leaf ⟨(rdN v.S a leaf).E,(rdN v.S a leaf).K,(rdN v.S a leaf).D⟩∧
   (rdN v.S a leaf).E.length≤1000∧(rdN v.S a leaf).D.length≤1000∧(giN v a).2=0
def jdG (leaf:Bool)(v:VS)(D:List Int)(i:Nat)(x:ND3):Prop:=
 v.ok∧okN leaf x∧szN leaf x≤1000∧(fewN leaf x=true→1<D.length→rdG leaf v (D.getD (nbO D.length i) 0))∧
 0<szN leaf (jdN leaf v D i x).2.1∧szN leaf (jdN leaf v D i x).2.1≤1000∧(∀e∈(jdN leaf v D i x).2.1.E,entR e)∧(jdN leaf v D i x).1.S.W.length≤700000
def rmG:Nat→VS→Int→KEY→Prop
 | 0,_,_,_=>False
 | h+1,v,a,k=>rdG (decide (h=0)) v a∧
  (h≠0→childN (rdN v.S a false).K k<(rdN v.S a false).D.length∧rmG h (giN v a).1 ((rdN v.S a false).D.getD (childN (rdN v.S a false).K k) 0) k∧
   ((rmN h (giN v a).1 ((rdN v.S a false).D.getD (childN (rdN v.S a false).K k) 0) k).2.2=0→
     jdG (decide (h=1)) (rmN h (giN v a).1 ((rdN v.S a false).D.getD (childN (rdN v.S a false).K k) 0) k).1 (rdN v.S a false).D (childN (rdN v.S a false).K k) (rmN h (giN v a).1 ((rdN v.S a false).D.getD (childN (rdN v.S a false).K k) 0) k).2.1))
def dlN (v:VS)(a:Int)(h:Nat)(k:KEY):VS×(Int×Nat)×Nat:=
 if(fdN v.S h a k).2≠0 then(v,(0,0),(fdN v.S h a k).2)
 else if(rmN h v a k).2.2=0 then roN 1 (decide (h=1)) (rmN h v a k).1 (splitN (decide (h=1)) (rmN h v a k).2.1) h
 else((rmN h v a k).1,(0,0),(rmN h v a k).2.2)
def dlG (v:VS)(a:Int)(h:Nat)(k:KEY):Prop:=
 h≤5∧v.S.W.length≤800000∧fdG v.S h a k∧((fdN v.S h a k).2=0→rmG h v a k∧(rmN h v a k).1.ok∧((rmN h v a k).2.2=0→
  okN (decide (h=1)) (rmN h v a k).2.1∧szN (decide (h=1)) (rmN h v a k).2.1≤1000∧(∀e∈(rmN h v a k).2.1.E,entR e)∧(rmN h v a k).1.S.W.length≤700000∧
  roG 1 (decide (h=1)) (rmN h v a k).1 (splitN (decide (h=1)) (rmN h v a k).2.1) h))
theorem tree_few (leaf:Bool)(A B C:Option Addr)(x:ND3)(c e f:Nat):
  SpecR Tryz.prog 109 #[ndW leaf (.slice A x.E.length c) (.slice B x.K.length e) (.slice C x.D.length f)] (fun _=>True) (fun r H'=>r= .bool (fewN leaf x)∧H'= []):=by
 refine SpecR.of (fun w hr=>?_)
 refine Calls.enter Tryz.func109 rfl rfl rfl (St.rebase w) ?_
 simp only [argSlots]
 refine Wap ?_
 cases leaf
 ·have hfw:fewN false x=decide ((x.D.length:Int)<8):=by rw [fewN,if_neg (by decide)];exact decide_eq_decide.2 (by omega)
  rw [hfw]
  refine Ws ?_
  (refine Wbx ?_;intro b1)
  refine Ws ?_
  exact Zfn [] (hq:=by exact⟨rfl,rfl⟩)
 ·have hfw:fewN true x=decide ((x.E.length:Int)<3):=by rw [fewN,if_pos rfl];exact decide_eq_decide.2 (by omega)
  rw [hfw]
  refine Ws ?_
  (refine Wbx ?_;intro b1)
  refine Ws ?_
  exact Zfn [] (hq:=by exact⟨rfl,rfl⟩)
theorem tree_remove1 (k:KEY)(y:ENT)(b7:Nat):
  Gv.Spec Tryz.prog 108 #[entV y, .pointer (some ⟨b7,0,none⟩)] [blk b7 38 (keyL k)] (fun r H'=>r= .bool (decide (y.key=k))∧H'= [blk b7 38 (keyL k)]):=by
 refine Gv.Spec.of (fun w h0 hw=>?_)
 refine Calls.enter Tryz.func108 rfl rfl rfl hw ?_
 simp only [argSlots]
 refine Wap ?_
 refine Ws ?_
 (refine Wbx ?_;intro b2)
 refine Ws ?_
 refine Zlg ?_ (hv:=by exact key_cells y) (hl:=by rfl)
 refine Ws ?_
 refine Zla (cs:=keyL k) ?_ (hl:=by rfl)
 refine Ws ?_
 refine ZoeqlA (r:=decide (y.key=k)) ?_ (hax:=by exact keyS_alk y.key) (hay:=by exact keyS_alk k) (hr:=by exact keyS_eq y.key k)
 refine Ws ?_
 exact Zfn [blk b7 38 (keyL k)] (hq:=by exact⟨rfl,rfl⟩)
theorem slices_IndexFuncK (A:Option Addr)(c:Nat)(E:List ENT)(k:KEY)(b7:Nat)(hb:E.length≤1000000):
  Gv.Spec Tryz.prog 116 #[.slice A E.length c, .func (.func 108) #[] #[.pointer (some ⟨b7,0,none⟩)]] [blk b7 38 (keyL k),own 40 8 (.slice A E.length c) E.length (EL E)]
  (fun r H'=> ∃i,r= .int .i64 (if i<E.length then(i:Int) else -1)∧isK E k i∧H'= [blk b7 38 (keyL k),own 40 8 (.slice A E.length c) E.length (EL E)]):=by
 refine Gv.Spec.of (fun w h0 hw=>?_)
 refine Calls.enter Tryz.func116 rfl rfl rfl hw ?_
 simp only [argSlots]
 refine Wap ?_
 refine Ws ?_
 (refine Wl (α:=Σ' (i:Nat),i≤E.length∧(E.take i).any (fun y=>decide (y.key=k))=false) (fun z=>E.length-z.1) (fun z=> [(0, .slice A E.length c),(1, .func (.func 108) #[] #[.pointer (some ⟨b7,0,none⟩)]),(7, .int .i64 (E.length:Int)),(8, .int .i64 (z.1:Int))]) (fun z=> [blk b7 38 (keyL k),own 40 8 (.slice A E.length c) E.length (EL E),Ex h0]) ⟨0,Nat.zero_le _,rfl⟩ ?_;rintro ⟨i,hi,hno⟩ mx hmx;(try dsimp only at hmx ⊢))
 refine Ws ?_
 (refine Wcd ?_ ?_<;>intro hc)
 ·have hil:i<E.length:=by omega
  have hil':i+1≤E.length:=hil
  obtain⟨y,hy⟩: ∃y,y=E.getD i ent0:=⟨_,rfl⟩
  have hE8:((EL E).drop (i*8)).take 8=entL y:=by rw [hy];exact EL_eight E i hil
  have hat:=any_take (fun y:ENT=>decide (y.key=k)) E ent0 i hil
  rw [←hy,hno,Bool.false_or] at hat
  have hcl:Gv.Spec Tryz.prog 108 ([entV y] ++ [Value.pointer (some ⟨b7,0,none⟩)]).toArray _ _:=tree_remove1 k y b7
  refine Ws ?_
  refine Zix (j:=i) ?_ (hj:=by rfl) (hlt:=by exact hil)
  refine Ws ?_
  refine Zlq (ys:=entL y) ?_ (hv:=by exact hE8) (hl:=by rfl)
  refine Ws ?_
  refine Zcf hcl ?_
  rintro r3 H3 ⟨rfl,rfl⟩
  refine Wap ?_
  refine Ws ?_
  by_cases hq:y.key=k
  ·refine Zz 16 true ?_ (hi:=by exact dTt hq)
   refine Ws ?_
   refine Zi 4 (if i<E.length then(i:Int) else -1) ?_ (hi:=by rw [if_pos hil])
   exact Zfn [blk b7 38 (keyL k),own 40 8 (.slice A E.length c) E.length (EL E)] (hq:=by exact⟨i,rfl,⟨hi,hno,fun _=>by rw [←hy];exact hq⟩,rfl⟩)
  ·have hno':(E.take (i+1)).any (fun y=>decide (y.key=k))=false:=by rw [hat];exact dFf hq
   refine Zz 16 false ?_ (hi:=by exact dFf hq)
   refine Ws ?_
   refine Zi 8 ((i+1:Nat):Int) ?_ (hi:=by omega)
   exact Zag ⟨i+1,hil',hno'⟩
 ·have hil:i=E.length:=by omega
  refine Ws ?_
  refine Zi 4 (if i<E.length then(i:Int) else -1) ?_ (hi:=by rw [if_neg (by omega)])
  exact Zfn [blk b7 38 (keyL k),own 40 8 (.slice A E.length c) E.length (EL E)] (hq:=by exact⟨i,rfl,⟨hi,hno,fun q=>absurd hil (by omega)⟩,rfl⟩)
def zeroE:List Value:=entL ent0
theorem zero_oneE: ∀y∈zeroE,y.oneCell'=true:=entL_one5 ent0
structure DW (E:List ENT)(k:KEY) where
 i:Nat
 j:Nat
 X:List ENT
 hij:i<j
 hj:j≤E.length
 hX:X.length=E.length
 ht:X.take i=delE (E.take j) k
 hd:X.drop j=E.drop j
theorem EL_set (X:List ENT)(i:Nat)(v:ENT)(rest:List Value)(h:i<X.length):(EL X++rest).take (0+i*8)++entL v++(EL X++rest).drop (0+i*8+8)=EL (X.set i v)++rest:=by
 have hl:(EL X).length=X.length*8:=EL_lens X rfl
 rw [Nat.zero_add,List.take_append_of_le_length (by omega),List.drop_append_of_le_length (by omega),EL_takes,show i*8+8=(i+1)*8 by omega,EL_drops,List.set_eq_take_append_cons_drop,if_pos h,EL_app,EL,EL,EL,List.flatMap_cons]
 simp only [aAs]
set_option maxRecDepth 4000 in
theorem slices_DelE (A:Option Addr)(c:Nat)(E:List ENT)(k:KEY)(b7:Nat)(hb:E.length≤100000):
  Gv.Spec Tryz.prog 107 #[.slice A E.length c, .func (.func 108) #[] #[.pointer (some ⟨b7,0,none⟩)]] [blk b7 38 (keyL k),own 40 8 (.slice A E.length c) E.length (EL E)]
  (fun r H'=> ∃A' c',r= .slice A' (delE E k).length c'∧H'= [blk b7 38 (keyL k),own 40 8 (.slice A' (delE E k).length c') (delE E k).length (EL (delE E k))]):=by
 refine Gv.Spec.of (fun w h0 hw=>?_)
 refine Calls.enter Tryz.func107 rfl rfl rfl hw ?_
 simp only [argSlots]
 refine Wap ?_
 refine Ws ?_
 have hix:=slices_IndexFuncK A c E k b7 (by omega)
 refine Zcs hix ?_
 rintro r1 H1 ⟨i0,rfl,hK,rfl⟩
 refine Wap ?_
 refine Ws ?_
 rcases Nat.lt_or_ge i0 E.length with hi0 | hi0
 ·rw [if_pos hi0]
  refine Zz 12 false ?_ (hi:=by exact dFf (by omega))
  refine Ws ?_
  refine Tri.ownBlk (e:=40) (size:=8) (v:= .slice A E.length c) (m:=E.length) (xs:=EL E) Wp (by omega) (fun g cap rest hv hc hl hxl2=>?_)
  cases hv
  have hcm:c≤9223372036854775807:=hc.2
  have hrl:rest.length=c*8-E.length*8:=by rw [lAp] at hl;omega
  refine Zi 6 ((i0+1:Nat):Int) ?_ (hi:=by omega)
  (refine Wl (α:=DW E k) (fun z=>E.length-z.j) (fun z=> [(0, .slice (some ⟨g,0,none⟩) E.length c),(1, .func (.func 108) #[] #[.pointer (some ⟨b7,0,none⟩)]),(5, .int .i64 (z.i:Int)),(6, .int .i64 (z.j:Int))]) (fun z=> [blk b7 38 (keyL k),blk g 40 (EL z.X++rest),Ex h0]) ⟨i0,i0+1,E,Nat.lt_succ_self _,hi0,rfl,isK_start hK hi0,rfl⟩ ?_;rintro ⟨i,j,X,hij,hj,hX,ht,hd⟩ mx hmx;(try dsimp only at hmx ⊢))
  (try dsimp only)
  have hXl:(EL X++rest).length=c*8:=by rw [lAp,EL_lens X hX,hrl];have:=hc.1;omega
  refine Ws ?_
  (refine Wcd ?_ ?_<;>intro hcj)
  ·have hjl:j<E.length:=by omega
   have hjl':j+1≤E.length:=hjl
   obtain⟨y,hy⟩: ∃y,y=E.getD j ent0:=⟨_,rfl⟩
   have hXj:X.getD j ent0=y:=by
    have h1:=congrArg (fun l:List ENT=>l.getD 0 ent0) hd
    simp only [gDe,List.getElem?_drop,Nat.add_zero] at h1
    rw [hy,gDe,gDe,h1]
   have hE8:((EL X++rest).drop (0+j*8)).take 8=entL y:=by
    rw [Nat.zero_add,List.drop_append_of_le_length (by rw [EL_lens X hX];omega),List.take_append_of_le_length (by rw [lDp,EL_lens X hX];omega),EL_eight X j (by omega),hXj]
   have hcl:Gv.Spec Tryz.prog 108 ([entV y] ++ [Value.pointer (some ⟨b7,0,none⟩)]).toArray _ _:=tree_remove1 k y b7
   refine Ws ?_
   refine Zv 24 (.pointer (some ⟨g,0+j*8,none⟩)) ?_ (hv:=by rfl)
   refine Zlg ?_ (hv:=by exact hE8) (hl:=by rfl)
   refine Ws ?_
   refine Zal fun b8=>?_
   refine Ws ?_
   refine ZSa (ys:=entL y) ?_ (h1:=by exact entL_one5 y)
   refine Ws ?_
   refine Zla (cs:=entL y) ?_ (hl:=by rfl)
   refine Ws ?_
   refine Zcf hcl ?_
   rintro r3 H3 ⟨rfl,rfl⟩
   refine Wap ?_
   refine Ws ?_
   by_cases hq:y.key=k
   ·refine Zz 29 false ?_ (hi:=by exact dFf (fun q=>q hq))
    have ht':X.take i=delE (E.take (j+1)) k:=by rw [del_drop hjl (by rw [←hy];exact hq)];exact ht
    have hd':X.drop (j+1)=E.drop (j+1):=by rw [←List.drop_drop,hd,List.drop_drop]
    have hij':i<j+1:=by omega
    refine Ws ?_
    refine Zi 6 ((j+1:Nat):Int) ?_ (hi:=by omega)
    exact Zag ⟨i,j+1,X,hij',hjl',hX,ht',hd'⟩
   ·refine Zz 29 true ?_ (hi:=by exact dTt hq)
    have hil:i<X.length:=by omega
    have hil2:i<E.length:=by omega
    have ht':(X.set i y).take (i+1)=delE (E.take (j+1)) k:=by rw [del_keep hjl (by rw [←hy];exact hq),set_take y hil,ht,hy]
    have hd':(X.set i y).drop (j+1)=E.drop (j+1):=by rw [set_drop y (by omega), ←List.drop_drop,hd,List.drop_drop]
    have hij':i+1<j+1:=by omega
    have hX':(X.set i y).length=E.length:=by rw [List.length_set,hX]
    refine Ws ?_
    refine Zla (cs:=entL y) ?_ (hl:=by rfl)
    refine Ws ?_
    refine Zv 33 (.pointer (some ⟨g,0+i*8,none⟩)) ?_ (hv:=by rfl)
    refine ZSg (ys:=entL y) ?_ (h1:=by exact entL_one5 y) (hi:=by rw [hXl];have:=hc.1;omega)
    refine Ws ?_
    rw [EL_set X i y rest hil]
    refine Zi 5 ((i+1:Nat):Int) ?_ (hi:=by omega)
    refine Zi 6 ((j+1:Nat):Int) ?_ (hi:=by omega)
    exact Zag ⟨i+1,j+1,X.set i y,hij',hjl',hX',ht',hd'⟩
  ·have hjl:j=E.length:=by omega
   have hil:i<E.length:=by omega
   rw [hjl,List.take_length] at ht
   have hdl:(delE E k).length=i:=by rw [←ht,lTk];omega
   refine Ws ?_
   refine ZosliceB (lo:=i) (hi:=E.length) (m:=E.length) ?_
   refine Ws ?_
   refine Zoclear ?_ (hfit:=by rw [hXl];have:=hc.1;omega) (h1:=by exact zero_oneE)
   refine Ws ?_
   refine ZosliceB (lo:=0) (hi:=i) (m:=E.length) ?_
   refine Zv 41 (.slice (some ⟨g,0,none⟩) i c) ?_ (hv:=by rfl)
   refine Ws ?_
   rw [hdl]
   refine Tri.blkOwn2 (b:=g) (e:=40) (size:=8) (m:=i) (cap:=c) (xs:=EL (delE E k)) Wp ⟨by omega,hc.2⟩ (by rw [putv_len (by rw [repl_len (s:=8) rfl]) (by rw [hXl];have:=hc.1;omega),hXl]) (by rw [EL_lens _ hdl]) (by
    rw [EL_lens _ hdl,put_low (by rw [hXl];have:=hc.1;omega) (by omega),List.take_append_of_le_length (by rw [EL_lens X hX];omega),EL_takes,ht]) ?_
   exact Zfn [blk b7 38 (keyL k),own 40 8 (.slice (some ⟨g,0,none⟩) i c) i (EL (delE E k))] (hq:=by exact⟨some ⟨g,0,none⟩,c,rfl,rfl⟩)
 ·have hi1:i0=E.length:=by have:=hK.1;omega
  rw [if_neg (by omega),isK_all (by rw [←hi1];exact hK)]
  refine Zz 12 true ?_
  refine Ws ?_
  exact Zfn [blk b7 38 (keyL k),own 40 8 (.slice A E.length c) E.length (EL E)] (hq:=by exact⟨A,c,rfl,rfl⟩)
theorem rd_nilE (h:PH):Rd h (.slice none 0 0) 0 [] :=⟨none,0,rfl,⟨by simp,by decide⟩,fun j u h=>by simp at h⟩
def rds3 (A:Option Addr)(a:Nat)(B:Option Addr)(b:Nat)(C:Option Addr)(c:Nat)(X:ND3):List (Value×Nat×List Value):=
 [(.slice A X.E.length a,X.E.length,EL X.E),(.slice B X.K.length b,X.K.length,KL X.K),(.slice C X.D.length c,X.D.length,NL X.D)]
theorem many_nd0 (h:PH)(_:manyRd [] h):manyRd (rds3 none 0 none 0 none 0 ⟨[], [], []⟩) h:=by
 intro x hx
 simp only [rds3,List.mem_cons,List.not_mem_nil,or_false] at hx
 rcases hx with rfl | rfl | rfl<;>exact rd_nilE h
theorem ndR_rds {w0:World}{H H1:List Atom}{A B C:Option Addr}{a b c:Nat}{X:ND3}(p:Pull H (manyRd (rds3 A a B b C c X)) H1): ∀w,St w0 w H→ndR w (.slice A X.E.length a) (.slice B X.K.length b) (.slice C X.D.length c) X.E X.K X.D:=ndR_many p
set_option maxRecDepth 4000 in
theorem tree_whole (AR:Option Addr)(cr:Nat)(VV:List (Value×Value×Value))(xs:List ND3)(hxl:VV.length=xs.length)(hn:xs.length≤1000000)(hW:shp VV)(Z:ND3)(hZ:joinN xs=Z)(hok:okN false Z)(hZn:Z.D.length≤1000000):
  Gv.Spec Tryz.prog 112 #[.slice AR VV.length cr] [own 125 4 (.slice AR VV.length cr) VV.length (NDL false VV),manyRd (RDS VV xs)]
  (fun r H'=> ∃A a B b C c,r=ndW false (.slice A Z.E.length a) (.slice B Z.K.length b) (.slice C Z.D.length c)∧H'= [manyRd (rds3 A a B b C c Z)]):=by
 refine Gv.Spec.of (fun w h0 hw=>?_)
 refine Calls.enter Tryz.func112 rfl rfl rfl hw ?_
 simp only [argSlots]
 refine Wap ?_
 obtain⟨hZE,hZK⟩:=id hok
 have hZE':Z.E.length=0:=by rw [hZE];rfl
 have hZK':Z.K.length=Z.D.length:=hZK
 have hj0:joinN (xs.take 0)=⟨[], [], []⟩:=rfl
 refine Ws ?_
 refine Zal fun b2=>?_
 refine Ws ?_
 refine Zal fun b3=>?_
 refine Ws ?_
 (with_reducible apply Tri.noneM)
 refine Zat (manyRd []) (manyRd []) ?_
 refine Tri.imp (A:=manyRd []) (B:=manyRd (rds3 none 0 none 0 none 0 (joinN (xs.take 0)))) Wp (fun h hm=>by rw [hj0];exact many_nd0 h hm) ?_
 refine Zat (blk b3 _ _) (blk b3 125 (ndLL false (.slice none (joinN (xs.take 0)).E.length 0) (.slice none (joinN (xs.take 0)).K.length 0) (.slice none (joinN (xs.take 0)).D.length 0))) ?_
 (refine Wl (α:=Σ' (i:Nat) (_:Option Addr) (_:Nat) (_:Option Addr) (_:Nat) (_:Option Addr) (_:Nat),i≤xs.length) (fun x=>xs.length-x.1) (fun x=> [(2, .pointer (some ⟨b2,0,none⟩)),(3, .pointer (some ⟨b3,0,none⟩)),(6, .slice AR VV.length cr),(7, .int .i64 (VV.length:Int)),(8, .int .i64 (x.1:Int))]) (fun x=> [blk b2 125 (ndLL false (.slice none 0 0) (.slice none 0 0) (.slice none 0 0)),blk b3 125 (ndLL false (.slice x.2.1 (joinN (xs.take x.1)).E.length x.2.2.1) (.slice x.2.2.2.1 (joinN (xs.take x.1)).K.length x.2.2.2.2.1) (.slice x.2.2.2.2.2.1 (joinN (xs.take x.1)).D.length x.2.2.2.2.2.2.1)),own 125 4 (.slice AR VV.length cr) VV.length (NDL false VV),manyRd (RDS VV xs),manyRd (rds3 x.2.1 x.2.2.1 x.2.2.2.1 x.2.2.2.2.1 x.2.2.2.2.2.1 x.2.2.2.2.2.2.1 (joinN (xs.take x.1))),Ex h0]) ⟨0,none,0,none,0,none,0,Nat.zero_le _⟩ ?_;rintro ⟨i,A2,a2,B2,b2',C2,c2,hi⟩ mx hmx;(try dsimp only at hmx ⊢))
 refine Ws ?_
 (refine Wcd ?_ ?_<;>intro hc)
 ·have hix:i<xs.length:=by omega
  have hiv:i<VV.length:=by omega
  obtain⟨y,hy⟩: ∃y,xs[i]? =some y:=⟨_,gEe hix⟩
  obtain⟨v,hv⟩: ∃v,VV[i]? =some v:=⟨_,gEe hiv⟩
  obtain⟨A9,B9,a9,b9,C9,c9,i9,j9,k9,hv9⟩:=hW v (List.mem_of_getElem? hv)
  have htk:=joinN_take hy
  have hup:=up_take hZ hok (i+1)
  obtain⟨X,hX⟩: ∃X,X=joinN (xs.take i):=⟨_,rfl⟩
  obtain⟨Y,hY⟩: ∃Y,Y=joinN (xs.take (i+1)):=⟨_,rfl⟩
  rw [←hX, ←hY] at htk
  rw [←hY] at hup
  rw [←hX]
  rw [htk] at hup
  have hJ:=node_JoinU false (.slice A2 X.E.length a2) (.slice B2 X.K.length b2') (.slice C2 X.D.length c2) v.1 v.2.1 v.2.2 X y Z hup (by omega) (by omega) (by omega)
  rw [←htk] at hJ
  have h1v: ∀z∈ndLL false v.1 v.2.1 v.2.2,z.oneCell'=true:=by
   rw [hv9];intro z hz
   simp only [ndLL,List.mem_cons,List.not_mem_nil,or_false] at hz
   rcases hz with rfl | rfl | rfl | rfl<;>rfl
  refine Ws ?_
  refine Zix (j:=i) ?_ (hj:=by rfl) (hlt:=by exact hiv)
  refine Ws ?_
  refine Zlq ?_ (hv:=by exact NDL_at VV i v hv) (hl:=by rfl)
  refine Ws ?_
  refine Zal fun b5=>?_
  refine Ws ?_
  refine ZSa (ys:=ndLL false v.1 v.2.1 v.2.2) ?_ (h1:=by exact h1v)
  refine Ws ?_
  refine Zla (cs:=ndLL false (.slice A2 X.E.length a2) (.slice B2 X.K.length b2') (.slice C2 X.D.length c2)) ?_ (hl:=by rfl)
  refine Ws ?_
  refine Zla (cs:=ndLL false v.1 v.2.1 v.2.2) ?_ (hl:=by rfl)
  refine Ws ?_
  refine Zcr hJ ?_ (hpre:=by exact fun w' hw'=>⟨ndR_rds Wp w' hw',ndR_at Wp hv hy w' hw'⟩)
  rintro r3 H3 ⟨u1,u2,u3,rfl,rfl⟩
  simp only [ownN]
  refine Wap ?_
  (refine Tri.shape (e:=40) (size:=8) (v:=u1) Wp ?_;rintro ⟨A3,a3,rfl⟩)
  (refine Tri.shape (e:=38) (size:=2) (v:=u2) Wp ?_;rintro ⟨B3,b3',rfl⟩)
  (refine Tri.shape (e:=3) (size:=1) (v:=u3) Wp ?_;rintro ⟨C3,c3,rfl⟩)
  refine Ws ?_
  refine ZSa (ys:=ndLL false (.slice A3 Y.E.length a3) (.slice B3 Y.K.length b3') (.slice C3 Y.D.length c3)) ?_ (h1:=by exact ndLL_one false A3 B3 C3 _ a3 _ b3' _ c3)
  refine Ws ?_
  (with_reducible apply Tri.noneM)
  refine Tri.joinS (l:= []) (e:=40) (size:=8) (v:= .slice A3 Y.E.length a3) Wp Wp ?_
  refine Tri.joinS (e:=38) (size:=2) (v:= .slice B3 Y.K.length b3') Wp Wp ?_
  refine Tri.joinS (e:=3) (size:=1) (v:= .slice C3 Y.D.length c3) Wp Wp ?_
  refine Zat (manyRd ([] ++ [(.slice A3 _ a3,_,_)] ++ [_] ++ [_])) (manyRd (rds3 A3 a3 B3 b3' C3 c3 Y)) ?_
  have hix':i+1≤xs.length:=hix
  refine Zi 8 ((i+1:Nat):Int) ?_ (hi:=by omega)
  rw [hY]
  exact Zag ⟨i+1,A3,a3,B3,b3',C3,c3,hix'⟩
 ·have hi':i=xs.length:=by omega
  have hall:joinN (xs.take i)=Z:=by rw [hi',List.take_length];exact hZ
  rw [hall]
  (try dsimp only)
  refine Ws ?_
  refine Zla (cs:=ndLL false (.slice A2 Z.E.length a2) (.slice B2 Z.K.length b2') (.slice C2 Z.D.length c2)) ?_ (hl:=by rfl)
  refine Ws ?_
  refine ZSa (ys:=ndLL false (.slice A2 Z.E.length a2) (.slice B2 Z.K.length b2') (.slice C2 Z.D.length c2)) ?_ (h1:=by exact ndLL_one false A2 B2 C2 _ a2 _ b2' _ c2)
  refine Ws ?_
  exact Zfn [manyRd (rds3 A2 a2 B2 b2' C2 c2 Z)] (h:=ResL.cons (Zra (rfl:(ndLL false (.slice A2 Z.E.length a2) (.slice B2 Z.K.length b2') (.slice C2 Z.D.length c2)).length=4)) (ResL.nil)) (hq:=by exact⟨A2,a2,B2,b2',C2,c2,rfl,rfl⟩)
end Go.Proofs.YtcglabmlhljkmaaGreat
