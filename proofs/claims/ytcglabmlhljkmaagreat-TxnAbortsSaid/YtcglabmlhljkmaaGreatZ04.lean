/- Texts of this claim, put together: NdWalk7, BmPlain, BmWalk, BmPlain2, BmWalk2, BmWalk3, NjPlain, NdWalk8, SlWalk, SlWalk2, SlWalk3, NjWalk, NjWalk2, NjPlain2, NjWalk3, NjPlain3, TvPlain, TvPlain2, TvPlain3, BmWalk4, WkPlain, TvPlain4, BtPlain, DvPlain2, LwPlain, WkPlain2, TvPlain10, TxPlain. -/
import Derived.Test.YtcglabmlhljkmaaGreatZ02
import Derived.Test.YtcglabmlhljkmaaGreatZ03
import Derived.Test.YtcglabmlhljkmaaGreatZ01
import Derived.Test.YtcglabmlhljkmaaGreatZ00
set_option maxHeartbeats 64000000
set_option linter.unusedVariables false
set_option linter.unusedSimpArgs false
namespace Go.Proofs.YtcglabmlhljkmaaGreat
open Go Go.RowKit Go.Gv
theorem ndLL_one (lf:Bool)(A B C:Option Addr)(m c n d k e:Nat): ∀y∈ndLL lf (.slice A m c) (.slice B n d) (.slice C k e),y.oneCell'=true:=by
 intro y hy;simp [ndLL] at hy;rcases hy with rfl | rfl | rfl | rfl<;>rfl
theorem ndLL_nil (lf:Bool)(A:Option Addr)(m c:Nat): ∀y∈ndLL lf (.slice A m c) (.slice none 0 0) (.slice none 0 0),y.oneCell'=true:=ndLL_one lf A none none m c 0 0 0 0
theorem rd_nil0 (h:PH):Rd h (.slice none 0 0) 0 [] :=⟨none,0,rfl,⟨Nat.le_refl _,Nat.zero_le _⟩,fun j u hu=>by simp at hu⟩
theorem node_Get_leaf (v:Value)(l:List UInt8):SpecR Tryz.prog 105 #[.bool true,v] (fun w=>RdW w v l.length (B8 l)) (fun r H'=> ∃A c,r= .tuple #[ndW (decide ((getL l).2=0)) (.slice A (getL l).1.length c) (.slice none 0 0) (.slice none 0 0), .int .i64 ((getL l).2:Int)] ∧H'= [own 40 8 (.slice A (getL l).1.length c) (getL l).1.length (EL (getL l).1)]):=by
 refine SpecR.of (fun w hr=>?_)
 have hlen:=hr.le
 obtain⟨A0,c0,rfl,_⟩:=id hr
 refine Calls.enter Tryz.func105 rfl rfl rfl (St.rebase w) ?_
 simp only [argSlots]
 refine Ws ?_
 refine Zal fun b4=>?_
 refine Ws ?_
 (refine ZcB 15 ?_ ?_<;>intro h1)
 ·have g1:=of_decide_eq_true h1
  have hg:getL l=([],3):=by rw [getL,if_pos (.inl (by omega))]
  refine Ws ?_
  refine ZSa (ys:=ndLL false (.slice none 0 0) (.slice none 0 0) (.slice none 0 0)) ?_ (h1:=by exact ndLL_nil false none 0 0)
  refine Ws ?_
  (with_reducible apply Tri.ownNil 40 8)
  rw [hg]
  exact Zfn [own 40 8 (.slice none 0 0) 0 []] (h:=ResL.cons (Zra (ndLL_len false (.slice none 0 0) (.slice none 0 0) (.slice none 0 0))) (ResL.cons (Res1.tmp rfl) (ResL.nil))) (hq:=by exact⟨none,0,rfl,rfl⟩)
 ·have g1:=of_decide_eq_false h1
  have x0:=(l.getD 0 0).toNat_lt
  refine Ws ?_
  refine Zir (hr:=hr) (j:=0) ?_ (hj:=by rfl) (hlt:=by omega) (hl:=by rw [B8_length];omega)
  refine Ws ?_
  refine Zlr (v:= .int .u8 ((l.getD 0 0).toNat:Int)) (hr:=hr) ?_ (hv:=by exact get_or' l 0 (by omega))
  refine Ws ?_
  (refine Wcd ?_ ?_<;>intro h2)
  ·have hg:getL l=([],3):=by rw [getL,if_pos (.inr (by unfold cntG;omega))]
   refine Ws ?_
   refine ZSa (ys:=ndLL false (.slice none 0 0) (.slice none 0 0) (.slice none 0 0)) ?_ (h1:=by exact ndLL_nil false none 0 0)
   refine Ws ?_
   (with_reducible apply Tri.ownNil 40 8)
   rw [hg]
   exact Zfn [own 40 8 (.slice none 0 0) 0 []] (h:=ResL.cons (Zra (ndLL_len false (.slice none 0 0) (.slice none 0 0) (.slice none 0 0))) (ResL.cons (Res1.tmp rfl) (ResL.nil))) (hq:=by exact⟨none,0,rfl,rfl⟩)
  ·obtain⟨n,hn⟩: ∃n,n=cntG l:=⟨_,rfl⟩
   have hn':n=(l.getD 0 0).toNat:=hn
   have hll:l.length=1+n*30:=by omega
   refine Ws ?_
   refine Zbu (ys:=ndLL true (.slice none 0 0) (.slice none 0 0) (.slice none 0 0)) ?_
   refine Ws ?_
   refine Zal fun b7=>?_
   refine Ws ?_
   refine ZSa (ys:=ndLL true (.slice none 0 0) (.slice none 0 0) (.slice none 0 0)) ?_ (h1:=by exact ndLL_nil true none 0 0)
   refine Ws ?_
   refine Zsl (lo:=1) (hi:=l.length) ?_ (hr:=by exact rdw_ex Wp hr)
   have hd1:=drop_rd hr 1 (by omega)
   obtain⟨A1,c1,he,_⟩:=id hd1
   rw [he] at hd1
   refine Zv 31 (.slice A1 (l.drop 1).length c1) ?_ (hv:=by exact he)
   refine Ws ?_
   refine Zbu (ys:= [.slice A1 (l.drop 1).length c1]) ?_
   refine Ws ?_
   (refine Wbx ?_;intro b8)
   refine Ws ?_
   refine Zir (hr:=hr) (j:=0) ?_ (hj:=by rfl) (hlt:=by omega) (hl:=by rw [B8_length];omega)
   refine Ws ?_
   refine Zlr (v:= .int .u8 ((l.getD 0 0).toNat:Int)) (hr:=hr) ?_ (hv:=by exact get_or' l 0 (by omega))
   refine Ws ?_
   (with_reducible apply Tri.ownNil 40 8)
   refine Zat (own 40 8 _ 0 []) (own 40 8 (.slice none 0 0) 0 (EL (entsG l 0))) ?_
   refine Zi 37 (n:Int) ?_ (hi:=by rw [hn'])
   (refine Wl (α:=Σ' (i:Nat) (Ak:Option Addr) (ck:Nat) (A1:Option Addr) (c1:Nat),i≤n∧Rd (hp w) (.slice A1 (l.drop (1+i*30)).length c1) (l.drop (1+i*30)).length (B8 (l.drop (1+i*30)))) (fun x=>n-x.1) (fun x=> [(0, .bool true),(1, .slice A0 l.length c0),(4, .pointer (some ⟨b4,0,none⟩)),(7, .pointer (some ⟨b7,0,none⟩)),(8, .pointer (some ⟨b8,0,none⟩)),(37, .int .i64 (n:Int)),(38, .int .i64 (x.1:Int))]) (fun x=> [blk b4 125 [.bool false, .slice none 0 0, .slice none 0 0, .slice none 0 0],blk b7 125 (ndLL true (.slice x.2.1 x.1 x.2.2.1) (.slice none 0 0) (.slice none 0 0)),blk b8 237 [.slice x.2.2.2.1 (l.drop (1+x.1*30)).length x.2.2.2.2.1],own 40 8 (.slice x.2.1 x.1 x.2.2.1) x.1 (EL (entsG l x.1)),Ex (hp w)]) ⟨0,none,0,A1,c1,Nat.zero_le _,hd1⟩ ?_;rintro ⟨i,Ak,ck,A1,c1,hi,hu⟩ mx hmx;(try dsimp only at hmx ⊢))
   refine Ws ?_
   (refine Wcd ?_ ?_<;>intro hc)
   ·have hin:i<n:=by omega
    refine Ws ?_
    refine Wm [Ex (hp w)] ?_
    refine Wq [0,2] ?_
    refine ZA2 1 3 ?_ ?_
    ·refine Zl ?_
     refine Zw ?_
     refine ZA 3 ?_
     refine Zcs (node_entry b8 (.slice A1 (l.drop (1+i*30)).length c1) (l.drop (1+i*30)) (hp w) hu (by rw [lDp];omega)) ?_
     rintro x1 H1 ⟨rfl,A2,c2,hr2,rfl⟩
     simp only [List.drop_drop] at hr2 ⊢
     rw [show 1+i*30+30=1+(i+1)*30 by omega] at hr2 ⊢
     refine Wap ?_
     refine Zw ?_
     refine ZA 4 ?_
     (refine Zli (ys:=entL (entP (l.drop (1+i*30)))) ?_;intro vl)
     refine Zw ?_
     refine ZA 5 ?_
     refine Zap ?_ (hr:=by exact rdw_own Wp) (hl:=by rfl) (h1:=by exact entL_one _)
     intro kv2
     (refine Tri.shape (e:=40) (size:=8) (v:=kv2) Wp ?_;rintro ⟨A3,c3,rfl⟩)
     refine Zw ?_
     refine Wq [6] ?_
     refine ZA 7 ?_
     refine ZS ?_ (hi:=by show 1<4;omega)
     refine Zw ?_
     refine ZE ?_
     refine Ws ?_
     refine Zat (own 40 8 (.slice A3 _ c3) _ _) (own 40 8 (.slice A3 (i+1) c3) (i+1) (EL (entsG l (i+1)))) ?_ (e:=by rw [entsG_succ,EL_snoc])
     exact Zag ⟨i+1,A3,c3,A2,c2,by omega,hr2⟩
    ·refine Zcs (node_entry b8 (.slice A1 (l.drop (1+i*30)).length c1) (l.drop (1+i*30)) (hp w) hu (by rw [lDp];omega)) ?_
     rintro x1 H1 ⟨rfl,A2,c2,hr2,rfl⟩
     simp only [List.drop_drop] at hr2 ⊢
     rw [show 1+i*30+30=1+(i+1)*30 by omega] at hr2 ⊢
     refine Wap ?_
     refine Zw ?_
     refine ZA2 1 4 ?_ ?_
     ·refine Zl ?_
      refine Zw ?_
      refine ZA 4 ?_
      (refine Zli (ys:=entL (entP (l.drop (1+i*30)))) ?_;intro vl)
      refine Zw ?_
      refine ZA 5 ?_
      refine Zap ?_ (hr:=by exact rdw_own Wp) (hl:=by rfl) (h1:=by exact entL_one _)
      intro kv2
      (refine Tri.shape (e:=40) (size:=8) (v:=kv2) Wp ?_;rintro ⟨A3,c3,rfl⟩)
      refine Zw ?_
      refine Wq [6] ?_
      refine ZA 7 ?_
      refine ZS ?_ (hi:=by show 1<4;omega)
      refine Zw ?_
      refine ZE ?_
      refine Ws ?_
      refine Zat (own 40 8 (.slice A3 _ c3) _ _) (own 40 8 (.slice A3 (i+1) c3) (i+1) (EL (entsG l (i+1)))) ?_ (e:=by rw [entsG_succ,EL_snoc])
      exact Zag ⟨i+1,A3,c3,A2,c2,by omega,hr2⟩
     ·(refine Zli (ys:=entL (entP (l.drop (1+i*30)))) ?_;intro vl)
      refine Zw ?_
      refine ZA 1 ?_
      refine Zl ?_
      refine Zw ?_
      refine ZA 5 ?_
      refine Zap ?_ (hr:=by exact rdw_own Wp) (hl:=by rfl) (h1:=by exact entL_one _)
      intro kv2
      (refine Tri.shape (e:=40) (size:=8) (v:=kv2) Wp ?_;rintro ⟨A3,c3,rfl⟩)
      refine Zw ?_
      refine Wq [6] ?_
      refine ZA 7 ?_
      refine ZS ?_ (hi:=by show 1<4;omega)
      refine Zw ?_
      refine ZE ?_
      refine Ws ?_
      refine Zat (own 40 8 (.slice A3 _ c3) _ _) (own 40 8 (.slice A3 (i+1) c3) (i+1) (EL (entsG l (i+1)))) ?_ (e:=by rw [entsG_succ,EL_snoc])
      exact Zag ⟨i+1,A3,c3,A2,c2,by omega,hr2⟩
   ·obtain rfl:i=n:=by omega
    have hnk:(entsG l i).length=i:=entsG_length l i
    have hRe: ∀e∈entsG l i,entR e:=fun e he=>by
     obtain⟨k,hk,rfl⟩:=List.mem_map.1 he
     have hk':k<i:=List.mem_range.1 hk
     have hb: ∀a m,a+m≤30→numB (((l.drop (1+k*30)).drop a).take m)<256 ^ m:=fun a m h=>by
      have:=numB_lt (((l.drop (1+k*30)).drop a).take m)
      rwa [show (((l.drop (1+k*30)).drop a).take m).length=m by rw [lTk,lDp,lDp];omega] at this
     have q0:=hb 4 8 (by omega)
     have q1:=hb 12 8 (by omega)
     have q6:=hb 26 4 (by omega)
     refine⟨?_, ?_,q6⟩
     ·unfold i64R;simp only [entP];unfold s64;split<;>omega
     ·unfold i64R;simp only [entP];unfold s64;split<;>omega
    refine Ws ?_
    refine Zla (cs:=ndLL true (.slice Ak i ck) (.slice none 0 0) (.slice none 0 0)) ?_ (hl:=by rfl)
    refine Ws ?_
    have hpre: ∀{H H1:List Atom} (p1:Pull H (own 40 8 (.slice Ak i ck) i (EL (entsG l i))) H1) (w':World),St w w' H→ndR w' (.slice Ak i ck) (.slice none 0 0) (.slice none 0 0) (entsG l i) [] [] :=fun p1 w' hw'=>⟨by rw [hnk];exact rdw_own p1 w' hw',rd_nil0 _,rd_nil0 _⟩
    by_cases hok:leafB (entsG l i)=true
    ·have hrn:rightN true (entsG l i) [] [] =true:=by rw [rightN,if_pos rfl,hok];rfl
     refine Zcr (node_PutN true (.slice Ak i ck) (.slice none 0 0) (.slice none 0 0) (entsG l i) [] [] hrn hRe) ?_ (hpre:=by exact hpre Wp)
     rintro r1 H1 ⟨u,rfl,rfl⟩
     rw [show putN true (entsG l i) [] [] =putL (entsG l i) from rfl]
     refine Wap ?_
     refine Ws ?_
     refine Zz 71 false ?_
     refine Ws ?_
     refine Zcv (bytes_Equal2 u (.slice A0 l.length c0) (putL (entsG l i)) l) ?_ (hpre:=by exact fun w' hw'=>⟨rdw_own Wp w' hw',rdw_ex Wp hr w' hw'⟩)
     refine Ws ?_
     by_cases hpe:putL (entsG l i)=l
     ·have hg:getL l=(entsG l i,0):=by rw [getL,if_neg (by rw [←hn];omega), ←hn,if_pos ⟨hok,hpe⟩]
      refine Zz 76 false ?_ (hi:=by simp [hpe])
      refine Ws ?_
      refine Zla (cs:=ndLL true (.slice Ak i ck) (.slice none 0 0) (.slice none 0 0)) ?_ (hl:=by rfl)
      refine Ws ?_
      refine ZSa (ys:=ndLL true (.slice Ak i ck) (.slice none 0 0) (.slice none 0 0)) ?_ (h1:=by exact ndLL_nil true Ak i ck)
      refine Ws ?_
      rw [hg]
      simp only [hnk]
      exact Zfn [own 40 8 (.slice Ak i ck) i (EL (entsG l i))] (h:=ResL.cons (Zra (ndLL_len true (.slice Ak i ck) (.slice none 0 0) (.slice none 0 0))) (ResL.cons (Res1.tmp rfl) (ResL.nil))) (hq:=by exact⟨Ak,ck,rfl,rfl⟩)
     ·have hg:getL l=([],3):=by rw [getL,if_neg (by rw [←hn];omega), ←hn,if_neg (fun h=>hpe h.2)]
      refine Zz 76 true ?_ (hi:=by simp [hpe])
      refine Ws ?_
      refine ZSa (ys:=ndLL false (.slice none 0 0) (.slice none 0 0) (.slice none 0 0)) ?_ (h1:=by exact ndLL_nil false none 0 0)
      refine Ws ?_
      (with_reducible apply Tri.ownNil 40 8)
      rw [hg]
      exact Zfn [own 40 8 (.slice none 0 0) 0 []] (h:=ResL.cons (Zra (ndLL_len false (.slice none 0 0) (.slice none 0 0) (.slice none 0 0))) (ResL.cons (Res1.tmp rfl) (ResL.nil))) (hq:=by exact⟨none,0,rfl,rfl⟩)
    ·have hg:getL l=([],3):=by rw [getL,if_neg (by rw [←hn];omega), ←hn,if_neg (fun h=>hok h.1)]
     have hrn:rightN true (entsG l i) [] [] =false:=by
      rw [Bool.eq_false_iff];intro h;apply hok
      rw [rightN,if_pos rfl] at h;simpa using h
     refine Zcv (node_PutN_no true (.slice Ak i ck) (.slice none 0 0) (.slice none 0 0) (entsG l i) [] [] hrn) ?_ (hpre:=by exact hpre Wp)
     refine Ws ?_
     refine Zz 71 true ?_
     refine Ws ?_
     refine ZSa (ys:=ndLL false (.slice none 0 0) (.slice none 0 0) (.slice none 0 0)) ?_ (h1:=by exact ndLL_nil false none 0 0)
     refine Ws ?_
     (with_reducible apply Tri.ownNil 40 8)
     rw [hg]
     exact Zfn [own 40 8 (.slice none 0 0) 0 []] (h:=ResL.cons (Zra (ndLL_len false (.slice none 0 0) (.slice none 0 0) (.slice none 0 0))) (ResL.cons (Res1.tmp rfl) (ResL.nil))) (hq:=by exact⟨none,0,rfl,rfl⟩)
structure GOT where
 leaf:Bool
 E:List ENT
 K:List KEY
 D:List Int
 e:Nat
def getN (isLeaf:Bool)(l:List UInt8):GOT:=if isLeaf then⟨decide ((getL l).2=0),(getL l).1, [], [],(getL l).2⟩ else⟨false, [],(getI l).1.1,(getI l).1.2,(getI l).2⟩
theorem node_GetN (isLeaf:Bool)(v:Value)(l:List UInt8):SpecR Tryz.prog 105 #[.bool isLeaf,v] (fun w=>RdW w v l.length (B8 l)) (fun r H'=> ∃A c B d C e,r= .tuple #[ndW (getN isLeaf l).leaf (.slice A (getN isLeaf l).E.length c) (.slice B (getN isLeaf l).K.length d) (.slice C (getN isLeaf l).D.length e), .int .i64 ((getN isLeaf l).e:Int)]
  ∧H'= [own 40 8 (.slice A (getN isLeaf l).E.length c) (getN isLeaf l).E.length (EL (getN isLeaf l).E),own 38 2 (.slice B (getN isLeaf l).K.length d) (getN isLeaf l).K.length (KL (getN isLeaf l).K),own 3 1 (.slice C (getN isLeaf l).D.length e) (getN isLeaf l).D.length (NL (getN isLeaf l).D)]):=by
 cases isLeaf
 ·refine SpecR.conv (node_Get_inner v l) (fun r H' h=>?_)
  obtain⟨A,c,B,d,rfl,rfl⟩:=h
  exact⟨_,⟨none,0,A,c,B,d,rfl,rfl⟩,fun w0 w H hw=>St.pure1 (own_nil _ _) hw⟩
 ·refine SpecR.conv (node_Get_leaf v l) (fun r H' h=>?_)
  obtain⟨A,c,rfl,rfl⟩:=h
  exact⟨_,⟨A,c,none,0,none,0,rfl,rfl⟩,fun w0 w H hw=>St.pure2 (own_nil _ _) (St.pure2 (own_nil _ _) hw)⟩
end Go.Proofs.YtcglabmlhljkmaaGreat
namespace Go.Gv
structure BM where
 p:Int
 u:List Bool
def useAt (u:List Bool)(i:Nat):Bool:=u.getD i false
def fitAt (m:BM)(i:Nat):Bool:= !(decide (i<2) && !useAt m.u i || decide (m.p≤i) && useAt m.u i)
def rightM (m:BM):Bool:=decide (8≤m.p) && decide (m.p≤512) && (List.range 512).all (fitAt m)
def newM (p:Int):BM:=⟨min (max p 8) 512, [true,true] ++List.replicate 510 false⟩
def zeroM:BM:=⟨0,List.replicate 512 false⟩
def freeTo (m:BM):Nat→Nat
 | 0=>0
 | k+1=>freeTo m k+if decide ((k:Int)<m.p) && !useAt m.u k then 1 else 0
def freeM (m:BM):Nat:=freeTo m 512
def bothAt (m o:BM)(i:Nat):Bool:=useAt m.u i || useAt o.u i
def runTo (m o:BM):Nat→Nat
 | 0=>0
 | k+1=>if bothAt m o k then 0 else runTo m o k+1
def alikeM (m o:BM):Bool:=rightM m && rightM o && decide (m.p=o.p)
def setFrom (u:List Bool)(b:Bool)(at_:Nat):Nat→List Bool
 | 0=>u
 | k+1=>(setFrom u b at_ k).set (at_+k) b
theorem setFrom_length (u:List Bool)(b:Bool)(a:Nat): ∀k,(setFrom u b a k).length=u.length
 | 0=>rfl
 | k+1=>by simp [setFrom,setFrom_length u b a k]
def seek (m o:BM)(n:Int):Nat→Nat→Option Nat
 | 0,_=>none
 | f+1,k=>if(runTo m o (k+1):Int)=n then some (k+1-n.toNat) else seek m o n f (k+1)
def takeM (m o:BM)(n:Int):BM×Int×Nat:=
 if !alikeM m o || decide (n<1) then(zeroM,0,1)
 else match seek m o n m.p.toNat 0 with
  | some at_=>(⟨m.p,setFrom m.u true at_ n.toNat⟩,at_,0)
  | none=>(zeroM,0,5)
def allUsed (m:BM)(at_ n:Nat):Bool:=(List.range n).all fun i=>useAt m.u (at_+i)
def giveM (m:BM)(at_ n:Int):BM×Nat:=
 if !rightM m || decide (n<0) || decide (at_<2) || decide (m.p<at_) || decide (m.p-at_<n) then(zeroM,1)
 else if allUsed m at_.toNat n.toNat then(⟨m.p,setFrom m.u false at_.toNat n.toNat⟩,0) else(zeroM,10)
theorem fit_all {m:BM}(h: ∀j,j<512→fitAt m j=true):(List.range 512).all (fitAt m)=true:=List.all_eq_true.2 (fun j hj=>h j (List.mem_range.1 hj))
theorem fit_none {m:BM}{i:Nat}(hi:i<512)(h:fitAt m i=false):(List.range 512).all (fitAt m)=false:=by
 cases hh:(List.range 512).all (fitAt m)
 ·rfl
 ·rw [List.all_eq_true.1 hh i (List.mem_range.2 hi)] at h;cases h
end Go.Gv
namespace Go.Proofs.YtcglabmlhljkmaaGreat
open Go Go.RowKit Go.Gv
def bmL (m:BM):List Value:= .int .i64 m.p::m.u.map .bool
def bmV (m:BM):Value:= .agg (bmL m).toArray
theorem bmL_length (m:BM)(h:m.u.length=512):(bmL m).length=513:=by simp [bmL,h]
theorem bmL_one (m:BM): ∀y∈bmL m,y.oneCell'=true:=by
 intro y hy;simp [bmL] at hy;rcases hy with rfl | ⟨_,rfl⟩ | ⟨_,rfl⟩<;>rfl
theorem useAt_get (u:List Bool)(i:Nat)(h:i<u.length):(u.map Value.bool)[i]? =some (.bool (useAt u i)):=by
 simp [useAt,h]
theorem bmL_get (m:BM)(i:Nat)(h:i<m.u.length):(bmL m)[i+1]? =some (.bool (useAt m.u i)):=by
 rw [bmL,List.getElem?_cons_succ];exact useAt_get m.u i h
theorem bmL_set (m:BM)(i:Nat)(b:Bool):(bmL m).set (i+1) (.bool b)=bmL ⟨m.p,m.u.set i b⟩:=by simp [bmL,List.map_set]
theorem bmL_zero:bmL zeroM= [.int .i64 0] ++List.replicate 512 (.bool false):=by rw [bmL,zeroM,List.map_replicate];rfl
theorem bmL_drop (m:BM)(h:m.u.length=512):((bmL m).drop 1).take 512=m.u.map .bool:=by
 rw [bmL,List.drop_succ_cons,List.drop_zero,List.take_of_length_le (by simp [h])]
theorem bm_Right (m:BM)(hm:m.u.length=512):SpecR Tryz.prog 70 #[bmV m] (fun _=>True) (fun r H'=>r= .bool (rightM m)∧H'= []):=by
 refine SpecR.of (fun w _=>?_)
 refine Calls.enter Tryz.func70 rfl rfl rfl (St.rebase w) ?_
 simp only [argSlots]
 refine Ws ?_
 (refine Wbx ?_;intro bt)
 refine Ws ?_
 (refine ZcB 8 ?_ ?_<;>intro h8)
 ·refine Ws ?_
  refine Zfn [] (hq:=?_)
  exact⟨by have h8':=of_decide_eq_true h8;simp only [tupled,rightM];rw [dFf (show ¬8≤m.p by omega)];rfl,rfl⟩
 ·have h8':=of_decide_eq_false h8
  refine Ws ?_
  (refine Wcd ?_ ?_<;>intro h9)
  ·refine Ws ?_
   refine Zfn [] (hq:=?_)
   exact⟨by simp only [tupled,rightM];rw [dFf (show ¬m.p≤512 by omega),Bool.and_false,Bool.false_and],rfl⟩
  ·refine Ws ?_
   refine Zlg ?_ (hv:=by exact bmL_drop m hm) (hl:=by rw [List.length_map];exact hm)
   refine Ws ?_
   (refine Wl (α:={ i:Nat//i≤512∧ ∀j,j<i→fitAt m j=true }) (fun x=>512-x.1) (fun x=> [(1, .pointer (some ⟨bt,0,none⟩)),(14, .agg (m.u.map Value.bool).toArray),(15, .int .i64 (x.1:Int))]) (fun _=> [blk bt 60 (bmL m),Ex (hp w)]) ⟨0,Nat.zero_le _,fun j hj=>absurd hj (Nat.not_lt_zero j)⟩ ?_;rintro ⟨i,hi,hf⟩ mx hmx;(try dsimp only at hmx ⊢))
   refine Ws ?_
   (refine Wcd ?_ ?_<;>intro h)
   ·have hi':i<512:=by omega
    refine Ws ?_
    refine Zoindex ?_ (hv:=by exact useAt_get m.u i (by omega))
    refine Ws ?_
    have no:fitAt m i=false→rightM m=false:=fun h0=>by rw [rightM,fit_none hi' h0,Bool.and_false]
    have yes:fitAt m i=true→ ∀j,j<i+1→fitAt m j=true:=fun h0 j hj=>by
     by_cases e:j=i
     ·rw [e];exact h0
     ·exact hf j (by omega)
    (refine ZcB 21 ?_ ?_<;>intro h2)
    ·have h2':=of_decide_eq_true h2
     refine Ws ?_
     (refine ZcB 25 ?_ ?_<;>intro h3)
     ·refine Ws ?_
      refine Zfn [] (hq:=?_)
      exact⟨by simp only [tupled];rw [no (by unfold fitAt;rw [dTt (show i<2 by omega),h3];rfl)],rfl⟩
     ·refine Ws ?_
      refine Zz 30 false ?_ (hi:=by exact dFf (by omega))
      refine Ws ?_
      exact Zag ⟨i+1,by omega,yes (by unfold fitAt;rw [h3,dFf (show ¬m.p≤(i:Int) by omega),Bool.and_false,Bool.false_and];simp)⟩
    ·have h2':=of_decide_eq_false h2
     refine Ws ?_
     (refine ZcB 30 ?_ ?_<;>intro h4)
     ·refine Ws ?_
      (refine Wcb ?_ ?_<;>intro h5)
      ·refine Ws ?_
       refine Zfn [] (hq:=?_)
       exact⟨by simp only [tupled];rw [no (by unfold fitAt;rw [dTt (of_decide_eq_true h4),h5,Bool.and_true,Bool.or_true];rfl)],rfl⟩
      ·refine Ws ?_
       exact Zag ⟨i+1,by omega,yes (by unfold fitAt;rw [dFf (show ¬i<2 by omega),h5,Bool.and_false];simp)⟩
     ·refine Ws ?_
      exact Zag ⟨i+1,by omega,yes (by unfold fitAt;rw [dFf (show ¬i<2 by omega),dFf (of_decide_eq_false h4)];simp)⟩
   ·refine Ws ?_
    have e:i=512:=by omega
    subst e
    refine Zfn [] (hq:=?_)
    exact⟨by simp only [tupled,rightM];rw [dTt (show 8≤m.p by omega),dTt (show m.p≤512 by omega),fit_all hf];rfl,rfl⟩
end Go.Proofs.YtcglabmlhljkmaaGreat
namespace Go.Gv
theorem freeTo_le (m:BM): ∀k,freeTo m k≤k
 | 0=>Nat.le_refl _
 | k+1=>by
  have:=freeTo_le m k
  rw [freeTo];split<;>omega
theorem runTo_le (m o:BM): ∀k,runTo m o k≤k
 | 0=>Nat.le_refl _
 | k+1=>by
  have:=runTo_le m o k
  rw [runTo];split<;>omega
theorem rightM_spec {m:BM}(h:rightM m=true):8≤m.p∧m.p≤512∧ ∀j,j<512→fitAt m j=true:=by
 simp only [rightM,Bool.and_eq_true,decide_eq_true_eq] at h
 exact⟨h.1.1,h.1.2,fun j hj=>List.all_eq_true.1 h.2 j (List.mem_range.2 hj)⟩
theorem alikeM_spec {m o:BM}(h:alikeM m o=true):rightM m=true∧rightM o=true∧m.p=o.p:=by
 simp only [alikeM,Bool.and_eq_true,decide_eq_true_eq] at h
 exact⟨h.1.1,h.1.2,h.2⟩
theorem useAt_set (u:List Bool)(i j:Nat)(b:Bool)(hi:i<u.length):useAt (u.set i b) j=if j=i then b else useAt u j:=by
 unfold useAt
 rw [gDe,List.getElem?_set]
 by_cases h:i=j
 ·subst h;simp [hi]
 ·rw [if_neg h,if_neg (Ne.symm h), ←gDe]
theorem useAt_setFrom (u:List Bool)(b:Bool)(a j:Nat): ∀k,a+k≤u.length→useAt (setFrom u b a k) j=if a≤j∧j<a+k then b else useAt u j
 | 0,_=>by rw [setFrom,if_neg (by omega)]
 | k+1,h=>by
  rw [setFrom,useAt_set _ _ _ _ (by rw [setFrom_length];omega),useAt_setFrom u b a j k (by omega)]
  by_cases h1:j=a+k
  ·rw [if_pos h1,if_pos (by omega)]
  ·rw [if_neg h1]
   by_cases h2:a≤j∧j<a+k
   ·rw [if_pos h2,if_pos (by omega)]
   ·rw [if_neg h2,if_neg (by omega)]
theorem newM_length (p:Int):(newM p).u.length=512:=by
 show ([true,true] ++List.replicate 510 false).length=512
 rw [lAp,List.length_replicate];rfl
theorem zeroM_length:zeroM.u.length=512:=List.length_replicate
theorem takeM_length (m o:BM)(n:Int)(h:m.u.length=512):(takeM m o n).1.u.length=512:=by
 unfold takeM
 split
 ·exact zeroM_length
 ·split
  ·simp only [setFrom_length];exact h
  ·exact zeroM_length
theorem giveM_length (m:BM)(a n:Int)(h:m.u.length=512):(giveM m a n).1.u.length=512:=by
 unfold giveM
 split
 ·exact zeroM_length
 ·split
  ·simp only [setFrom_length];exact h
  ·exact zeroM_length
end Go.Gv
namespace Go.Proofs.YtcglabmlhljkmaaGreat
open Go Go.RowKit Go.Gv
theorem bm_alike (m o:BM)(hm:m.u.length=512)(ho:o.u.length=512):SpecR Tryz.prog 121 #[bmV m,bmV o] (fun _=>True) (fun r H'=>r= .bool (alikeM m o)∧H'= []):=by
 refine SpecR.of (fun w _=>?_)
 refine Calls.enter Tryz.func121 rfl rfl rfl (St.rebase w) ?_
 simp only [argSlots]
 refine Ws ?_
 (refine Wbx ?_;intro bm)
 refine Ws ?_
 (refine Wbx ?_;intro bo)
 refine Ws ?_
 refine Zla ?_ (hl:=by exact bmL_length m hm)
 refine Ws ?_
 refine Zcv (bm_Right m hm) ?_
 refine Ws ?_
 (refine ZcB 7 ?_ ?_<;>intro h1)
 ·refine Ws ?_
  refine Zla ?_ (hl:=by exact bmL_length o ho)
  refine Ws ?_
  refine Zcv (bm_Right o ho) ?_
  refine Ws ?_
  (refine ZcB 11 ?_ ?_<;>intro h2)
  ·refine Ws ?_
   exact Zfr (hq:=by simp only [tupled];(rw [alikeM,h1,h2];rfl))
  ·refine Ws ?_
   exact Zfr (hq:=by simp only [tupled];(rw [alikeM,h1,h2];rfl))
 ·refine Ws ?_
  exact Zfr (hq:=by simp only [tupled];(rw [alikeM,h1];rfl))
theorem z513:([.int .i64 0] ++List.replicate 512 (.bool false):List Value).length=513:=by rw [lAp,List.length_replicate];rfl
theorem fill_first (place:Nat→Option (Nat×Nat))(v:Int)(zs:List Value)(h:place 0=some (0,1)):fillL place (.int .i64 0::zs) [(0, .int .i64 v)] =some (.int .i64 v::zs):=by
 have e:Nat.ble 1 (zs.length+1)=true:=by rw [Nat.ble_eq];omega
 simp [fillL,h,Value.cells,e]
theorem fill_map (p:Int):fillL (fun i=> [(0,1),(1,512)][i]?) ([.int .i64 0] ++List.replicate 512 (.bool false)) [(0, .int .i64 p)] =some (bmL ⟨p,List.replicate 512 false⟩):=by
 rw [bmL,List.map_replicate,List.singleton_append]
 exact fill_first _ _ _ rfl
theorem bm_New (p:Int):SpecR Tryz.prog 21 #[.int .i64 p] (fun _=>True) (fun r H'=>r=bmV (newM p)∧H'= []):=by
 refine SpecR.of (fun w _=>?_)
 refine Calls.enter Tryz.func21 rfl rfl rfl (St.rebase w) ?_
 simp only [argSlots]
 refine Ws ?_
 refine Zal fun br=>?_
 refine Ws ?_
 refine Zbu ?_ (hf:=by exact fill_map _)
 refine Ws ?_
 refine Zal fun bt=>?_
 refine Ws ?_
 refine ZSa ?_ (hl:=by exact bmL_length _ List.length_replicate) (hc:=by exact z513) (h1:=by exact bmL_one _)
 refine Ws ?_
 refine Zat (blk bt _ _) (blk bt 60 (bmL ⟨min (max p 8) 512,List.replicate 0 true++List.replicate (512-0) false⟩)) ?_ (e:=by simp only [List.replicate_zero,nAp,Nat.sub_zero])
 (refine Wl (α:={ k:Nat//k≤2 }) (fun x=>2-x.1) (fun x=> [(2, .pointer (some ⟨br,0,none⟩)),(3, .pointer (some ⟨bt,0,none⟩)),(9, .int .i64 (x.1:Int))]) (fun x=> [blk br 60 ([.int .i64 0] ++List.replicate 512 (.bool false)),blk bt 60 (bmL ⟨min (max p 8) 512,List.replicate x.1 true++List.replicate (512-x.1) false⟩),Ex (hp w)]) ⟨0,Nat.zero_le _⟩ ?_;rintro ⟨k,hk⟩ mx hmx;(try dsimp only at hmx ⊢))
 refine Ws ?_
 (refine Wcd ?_ ?_<;>intro h)
 ·have hk':k<2:=by omega
  have hlen:(List.replicate k true++List.replicate (512-k) false).length=512:=by simp;omega
  refine Ws ?_
  refine ZS ?_ (hi:=by rw [bmL_length _ hlen];omega)
  have es:((List.replicate k true++List.replicate (512-k) false).set k true)=List.replicate (k+1) true++List.replicate (512-(k+1)) false:=by
   have:k=0∨k=1:=by omega
   rcases this with rfl | rfl<;>rfl
  refine Zat (blk bt _ _) (blk bt 60 (bmL ⟨min (max p 8) 512,List.replicate (k+1) true++List.replicate (512-(k+1)) false⟩)) ?_ (e:=by rw [Nat.zero_add,Nat.mul_one,Nat.add_comm 1 k,bmL_set];simp only [es])
  refine Ws ?_
  exact Zag ⟨k+1,by omega⟩
 ·have e:k=2:=by omega
  subst e
  refine Ws ?_
  refine Zat (blk bt _ _) (blk bt 60 (bmL (newM p))) ?_
  refine Zla ?_ (hl:=by exact bmL_length _ (newM_length p))
  refine Ws ?_
  refine ZSa ?_ (hl:=by exact bmL_length _ (newM_length p)) (hc:=by exact z513) (h1:=by exact bmL_one _)
  refine Ws ?_
  exact Zfr (h:=ResL.cons (Zra (bmL_length _ (newM_length p))) (ResL.nil)) (hq:=by simp only [tupled];rfl)
theorem bm_Free (m:BM)(hm:m.u.length=512):SpecR Tryz.prog 54 #[bmV m] (fun _=>True) (fun r H'=>r= .int .i64 (freeM m:Int)∧H'= []):=by
 refine SpecR.of (fun w _=>?_)
 refine Calls.enter Tryz.func54 rfl rfl rfl (St.rebase w) ?_
 simp only [argSlots]
 refine Ws ?_
 (refine Wbx ?_;intro bt)
 refine Ws ?_
 refine Zlg ?_ (hv:=by exact bmL_drop m hm) (hl:=by rw [List.length_map];exact hm)
 refine Ws ?_
 (refine Wl (α:={ i:Nat//i≤512 }) (fun x=>512-x.1) (fun x=> [(1, .pointer (some ⟨bt,0,none⟩)),(7, .agg (m.u.map Value.bool).toArray),(8, .int .i64 (x.1:Int)),(3, .int .i64 (freeTo m x.1:Int))]) (fun _=> [blk bt 60 (bmL m),Ex (hp w)]) ⟨0,Nat.zero_le _⟩ ?_;rintro ⟨i,hi⟩ mx hmx;(try dsimp only at hmx ⊢))
 refine Ws ?_
 (refine Wcd ?_ ?_<;>intro h)
 ·have hi':i<512:=by omega
  have hfl:=freeTo_le m i
  refine Ws ?_
  refine Zoindex ?_ (hv:=by exact useAt_get m.u i (by omega))
  refine Ws ?_
  (refine ZcB 16 ?_ ?_<;>intro h2)
  ·refine Ws ?_
   (refine Wcb ?_ ?_<;>intro h3)
   ·refine Ws ?_
    refine Zi 3 (freeTo m (i+1):Int) ?_ (hi:=by rw [freeTo,h2,h3];rfl)
    exact Zag ⟨i+1,by omega⟩
   ·refine Ws ?_
    refine Zi 3 (freeTo m (i+1):Int) ?_ (hi:=by rw [freeTo,h2,h3];rfl)
    exact Zag ⟨i+1,by omega⟩
  ·refine Ws ?_
   refine Zi 3 (freeTo m (i+1):Int) ?_ (hi:=by rw [freeTo,h2];rfl)
   exact Zag ⟨i+1,by omega⟩
 ·have e:i=512:=by omega
  subst e
  refine Ws ?_
  exact Zfr (hq:=by simp only [tupled];rfl)
theorem z_one: ∀y∈([.int .i64 0] ++List.replicate 512 (.bool false):List Value),y.oneCell'=true:=by
 rw [←bmL_zero];exact bmL_one zeroM
theorem off_get (m:BM)(i:Nat)(h:i<m.u.length):(bmL m)[0+1+i*1]? =some (.bool (useAt m.u i)):=by
 rw [Nat.zero_add,Nat.mul_one,Nat.add_comm 1 i];exact bmL_get m i h
theorem off_set (m:BM)(i:Nat)(b:Bool):(bmL m).set (0+1+i*1) (.bool b)=bmL ⟨m.p,m.u.set i b⟩:=by
 rw [Nat.zero_add,Nat.mul_one,Nat.add_comm 1 i];exact bmL_set m i b
theorem bmV_zero:bmV zeroM= .agg ([.int .i64 0] ++List.replicate 512 (.bool false):List Value).toArray:=by rw [bmV,bmL_zero]
theorem bm_Take (m o:BM)(n:Int)(hm:m.u.length=512)(ho:o.u.length=512):SpecR Tryz.prog 75 #[bmV m,bmV o, .int .i64 n] (fun _=>True) (fun r H'=>r= .tuple #[bmV (takeM m o n).1, .int .i64 (takeM m o n).2.1, .int .i64 ((takeM m o n).2.2:Int)] ∧H'= []):=by
 refine SpecR.of (fun w _=>?_)
 refine Calls.enter Tryz.func75 rfl rfl rfl (St.rebase w) ?_
 simp only [argSlots]
 refine Ws ?_
 (refine Wbx ?_;intro bm)
 refine Ws ?_
 (refine Wbx ?_;intro bo)
 refine Ws ?_
 refine Zal fun br=>?_
 refine Ws ?_
 refine Zla ?_ (hl:=by exact bmL_length m hm)
 refine Ws ?_
 refine Zla ?_ (hl:=by exact bmL_length o ho)
 refine Ws ?_
 refine Zcv (bm_alike m o hm ho) ?_
 refine Ws ?_
 (refine ZcB 17 ?_ ?_<;>intro h1)
 ·refine Ws ?_
  refine ZSa ?_ (hl:=by exact z513) (hc:=by exact z513) (h1:=by exact z_one)
  refine Ws ?_
  exact Zfr (h:=ResL.cons (Zra z513) (ResL.cons (Res1.tmp rfl) (ResL.cons (Res1.tmp rfl) (ResL.nil)))) (hq:=by simp only [tupled];(rw [takeM,h1,Bool.true_or,if_pos rfl,bmV_zero];rfl))
 ·refine Ws ?_
  (refine Wcd ?_ ?_<;>intro h2)
  ·refine Ws ?_
   refine ZSa ?_ (hl:=by exact z513) (hc:=by exact z513) (h1:=by exact z_one)
   refine Ws ?_
   exact Zfr (h:=ResL.cons (Zra z513) (ResL.cons (Res1.tmp rfl) (ResL.cons (Res1.tmp rfl) (ResL.nil)))) (hq:=by simp only [tupled];(rw [takeM,h1,dTt h2,Bool.false_or,if_pos rfl,bmV_zero];rfl))
  ·have hal:=alikeM_spec (m:=m) (o:=o) (by cases hq:alikeM m o<;>simp [hq] at h1 ⊢)
   have hr:=rightM_spec hal.1
   have ht:takeM m o n=match seek m o n m.p.toNat 0 with
     | some at_=>(⟨m.p,setFrom m.u true at_ n.toNat⟩,(at_:Int),0)
     | none=>(zeroM,0,5):=by
    rw [takeM,h1,dFf h2,Bool.false_or,if_neg (by simp)]
    all_goals (cases seek m o n m.p.toNat 0<;>rfl)
   refine Ws ?_
   (refine Wl (α:={ i:Nat//i≤m.p.toNat∧seek m o n m.p.toNat 0=seek m o n (m.p.toNat-i) i }) (fun x=>m.p.toNat-x.1) (fun x=> [(3, .pointer (some ⟨bm,0,none⟩)),(4, .pointer (some ⟨bo,0,none⟩)),(6, .pointer (some ⟨br,0,none⟩)),(2, .int .i64 n),(23, .int .i64 m.p),(24, .int .i64 (x.1:Int)),(9, .int .i64 (runTo m o x.1:Int))]) (fun _=> [blk bm 60 (bmL m),blk bo 60 (bmL o),blk br 60 ([.int .i64 0] ++List.replicate 512 (.bool false)),Ex (hp w)]) ⟨0,Nat.zero_le _,rfl⟩ ?_;rintro ⟨i,hi,hs⟩ mx hmx;(try dsimp only at hmx ⊢))
   refine Ws ?_
   (refine Wcd ?_ ?_<;>intro h)
   ·have hi':i<m.p.toNat:=by omega
    have hrl:=runTo_le m o i
    have hf:m.p.toNat-i=(m.p.toNat-(i+1))+1:=by omega
    refine Ws ?_
    refine Zl ?_ (hv:=by exact off_get m i (by omega))
    refine Ws ?_
    (refine ZcB 31 ?_ ?_<;>intro h3)
    ·have hru:runTo m o (i+1)=0:=by rw [runTo,bothAt,h3];rfl
     refine Ws ?_
     refine Zi 9 (runTo m o (i+1):Int) ?_ (hi:=by rw [hru];rfl)
     exact Zag ⟨i+1,by omega,by rw [hs,hf,seek,if_neg (by rw [hru];omega)]⟩
    ·refine Ws ?_
     refine Zl ?_ (hv:=by exact off_get o i (by omega))
     refine Ws ?_
     (refine Wcb ?_ ?_<;>intro h4)
     ·have hru:runTo m o (i+1)=0:=by rw [runTo,bothAt,h4,Bool.or_true];rfl
      refine Ws ?_
      refine Zi 9 (runTo m o (i+1):Int) ?_ (hi:=by rw [hru];rfl)
      exact Zag ⟨i+1,by omega,by rw [hs,hf,seek,if_neg (by rw [hru];omega)]⟩
     ·have hru:runTo m o (i+1)=runTo m o i+1:=by rw [runTo,bothAt,h3,h4];rfl
      refine Ws ?_
      (refine Wcd ?_ ?_<;>intro h5)
      ·have hN:n.toNat=runTo m o i+1:=by omega
       have hfound:seek m o n m.p.toNat 0=some (i+1-n.toNat):=by rw [hs,hf,seek,if_pos (by rw [hru];omega)]
       refine Ws ?_
       refine Zi 12 ((i+1-n.toNat:Nat):Int) ?_ (hi:=by omega)
       refine Zi 11 ((i+1-n.toNat:Nat):Int) ?_ (hi:=by omega)
       refine Zat (blk bm _ _) (blk bm 60 (bmL ⟨m.p,setFrom m.u true (i+1-n.toNat) 0⟩)) ?_
       (refine Wl (α:={ x:Nat//x≤n.toNat }) (fun x=>n.toNat-x.1) (fun x=> [(3, .pointer (some ⟨bm,0,none⟩)),(6, .pointer (some ⟨br,0,none⟩)),(10, .int .i64 (i:Int)),(11, .int .i64 ((i+1-n.toNat:Nat):Int)),(12, .int .i64 ((i+1-n.toNat+x.1:Nat):Int))]) (fun x=> [blk bm 60 (bmL ⟨m.p,setFrom m.u true (i+1-n.toNat) x.1⟩),blk br 60 ([.int .i64 0] ++List.replicate 512 (.bool false)),Ex (hp w)]) ⟨0,Nat.zero_le _⟩ ?_;rintro ⟨x,hx⟩ mx hmx;(try dsimp only at hmx ⊢))
       refine Ws ?_
       have hlen:(setFrom m.u true (i+1-n.toNat) x).length=512:=by rw [setFrom_length];exact hm
       (refine Wcd ?_ ?_<;>intro h6)
       ·have hx':x<n.toNat:=by omega
        refine Ws ?_
        refine ZS ?_ (hi:=by rw [bmL_length _ hlen];omega)
        refine Zat (blk bm _ _) (blk bm 60 (bmL ⟨m.p,setFrom m.u true (i+1-n.toNat) (x+1)⟩)) ?_ (e:=by rw [off_set];rfl)
        refine Ws ?_
        exact Zag ⟨x+1,by omega⟩
       ·have e:x=n.toNat:=by omega
        subst e
        refine Ws ?_
        refine Zla ?_ (hl:=by exact bmL_length _ hlen)
        refine Ws ?_
        refine ZSa ?_ (hl:=by exact bmL_length _ hlen) (hc:=by exact z513) (h1:=by exact bmL_one _)
        refine Ws ?_
        exact Zfr (h:=ResL.cons (Zra (bmL_length _ hlen)) (ResL.cons (Res1.tmp rfl) (ResL.cons (Res1.tmp rfl) (ResL.nil)))) (hq:=by simp only [tupled];(rw [ht,hfound];rfl))
      ·refine Ws ?_
       refine Zi 9 (runTo m o (i+1):Int) ?_ (hi:=by rw [hru];rfl)
       exact Zag ⟨i+1,by omega,by rw [hs,hf,seek,if_neg (by rw [hru];omega)]⟩
   ·have e:i=m.p.toNat:=by omega
    subst e
    have hnone:seek m o n m.p.toNat 0=none:=by rw [hs,Nat.sub_self];rfl
    refine Ws ?_
    refine ZSa ?_ (hl:=by exact z513) (hc:=by exact z513) (h1:=by exact z_one)
    refine Ws ?_
    exact Zfr (h:=ResL.cons (Zra z513) (ResL.cons (Res1.tmp rfl) (ResL.cons (Res1.tmp rfl) (ResL.nil)))) (hq:=by simp only [tupled];(rw [ht,hnone,bmV_zero];rfl))
theorem flat_drop {α:Type}{f:α→List Value}{m:Nat}(hf: ∀x,(f x).length=m): ∀(l:List α) (i:Nat),(l.flatMap f).drop (i*m)=(l.drop i).flatMap f
 | [],i=>by simp
 | x::l,0=>by simp
 | x::l,i+1=>by
  have h:=hf x
  rw [List.flatMap_cons,List.drop_succ_cons, ←flat_drop hf l i,Nat.add_mul,Nat.one_mul,Nat.add_comm, ←List.drop_drop,List.drop_left' h]
theorem flat_take {α:Type}{f:α→List Value}{m:Nat}(hf: ∀x,(f x).length=m): ∀(l:List α) (i:Nat),(l.flatMap f).take (i*m)=(l.take i).flatMap f
 | [],i=>by simp
 | x::l,0=>by simp
 | x::l,i+1=>by
  have h:=hf x
  rw [List.flatMap_cons,List.take_succ_cons,List.flatMap_cons, ←flat_take hf l i,Nat.add_mul,Nat.one_mul,Nat.add_comm,List.take_append,h,List.take_of_length_le (by omega)]
  congr 2;omega
theorem flat_cut {α:Type}{f:α→List Value}{m:Nat}(hf: ∀x,(f x).length=m)(l:List α)(lo hi:Nat):((l.flatMap f).drop (lo*m)).take ((hi-lo)*m)=((l.drop lo).take (hi-lo)).flatMap f:=by
 rw [flat_drop hf,flat_take hf]
theorem flat_len {α:Type}{f:α→List Value}{m:Nat}(hf: ∀x,(f x).length=m): ∀l:List α,(l.flatMap f).length=l.length*m
 | [] =>by simp
 | x::l=>by rw [List.flatMap_cons,lAp,hf x,flat_len hf l,lCn,Nat.add_mul,Nat.one_mul,Nat.add_comm]
theorem flat_one {α:Type}{f:α→List Value}(hf: ∀x, ∀y∈f x,y.oneCell'=true)(l:List α): ∀y∈l.flatMap f,y.oneCell'=true:=by
 intro y hy
 obtain⟨x,_,hx⟩:=List.mem_flatMap.1 hy
 exact hf x y hx
theorem entL_len5 (e:ENT):(entL e).length=8:=rfl
theorem keyL_len5 (k:KEY):(keyL k).length=2:=rfl
theorem entL_one5 (e:ENT): ∀y∈entL e,y.oneCell'=true:=by
 intro y hy
 simp only [entL,List.mem_cons,List.not_mem_nil,or_false] at hy
 rcases hy with rfl | rfl | rfl | rfl | rfl | rfl | rfl | rfl<;>rfl
theorem keyL_one5 (k:KEY): ∀y∈keyL k,y.oneCell'=true:=by
 intro y hy
 simp only [keyL,List.mem_cons,List.not_mem_nil,or_false] at hy
 rcases hy with rfl | rfl<;>rfl
theorem cutE {h:PH}{v:Value}{E:List ENT}{n:Nat}(hr:Rd h v n (EL E))(lo hi:Nat)(h1:lo≤hi)(h2:hi≤n):Rd h (subv v 8 lo hi) (hi-lo) (EL ((E.drop lo).take (hi-lo))):=by
 have q:=hr.subv (size:=8) h1 h2
 rw [show ((EL E).drop (lo*8)).take ((hi-lo)*8)=EL ((E.drop lo).take (hi-lo)) from flat_cut entL_len5 E lo hi] at q
 exact q
theorem cutK {h:PH}{v:Value}{K:List KEY}{n:Nat}(hr:Rd h v n (KL K))(lo hi:Nat)(h1:lo≤hi)(h2:hi≤n):Rd h (subv v 2 lo hi) (hi-lo) (KL ((K.drop lo).take (hi-lo))):=by
 have q:=hr.subv (size:=2) h1 h2
 rw [show ((KL K).drop (lo*2)).take ((hi-lo)*2)=KL ((K.drop lo).take (hi-lo)) from flat_cut keyL_len5 K lo hi] at q
 exact q
theorem cutD {h:PH}{v:Value}{D:List Int}{n:Nat}(hr:Rd h v n (NL D))(lo hi:Nat)(h1:lo≤hi)(h2:hi≤n):Rd h (subv v 1 lo hi) (hi-lo) (NL ((D.drop lo).take (hi-lo))):=by
 have q:=hr.subv (size:=1) h1 h2
 rw [Nat.mul_one,Nat.mul_one,show ((NL D).drop lo).take (hi-lo)=NL ((D.drop lo).take (hi-lo)) by simp [NL,List.map_take,List.map_drop]] at q
 exact q
theorem NL_one5 (D:List Int): ∀y∈NL D,y.oneCell'=true:=by
 intro y hy
 obtain⟨x,_,rfl⟩:=List.mem_map.1 hy
 rfl
theorem NL_len (D:List Int):(NL D).length=D.length:=by simp [NL]
def cutL {α:Type}(l:List α)(lo hi:Nat):List α:=(l.drop lo).take (hi-lo)
theorem cutL_len {α:Type}(l:List α)(lo hi:Nat)(h2:hi≤l.length):(cutL l lo hi).length=hi-lo:=by
 unfold cutL
 rw [lTk,lDp];omega
theorem EL_at (F:List ENT)(k:Nat)(h:k<F.length)(j:Nat)(hj:j<8):(EL F)[k*8+j]? =(entL (F.getD k ent0))[j]? :=by
 rw [←EL_eight F k h,List.getElem?_take,if_pos hj,List.getElem?_drop]
theorem slices_Cloneint (v:Value)(n:Nat)(xs:List Value)(hl:xs.length=n*1)(h1: ∀y∈xs,y.oneCell'=true)(hb:n≤5000000):SpecR Tryz.prog 103 #[v] (fun w=>RdW w v n xs) (fun r H'=>H'= [own 3 1 r n xs]):=by
 refine SpecR.of (fun w hr=>?_)
 refine Calls.enter Tryz.func103 rfl rfl rfl (St.rebase w) ?_
 simp only [argSlots]
 refine Ws ?_
 refine ZoeqlSN ?_ (hr:=by exact rdw_ex Wp hr)
 intro b hbl
 cases b
 ·refine Ws ?_
  (refine Zli (ys:= []) ?_;intro vr)
  refine Ws ?_
  refine Zap ?_ (hr:=by exact rdw_ex Wp hr) (hl:=by exact hl) (h1:=by exact h1)
  intro v'
  refine Ws ?_
  ((with_reducible apply Tri.eqA (A:=own 3 1 v' _ _) (B:=own 3 1 v' n xs));(case p=>(first | ((repeat (first | with_reducible exact Pull.head | with_reducible apply Pull.tail));done) | (repeat (first | exact Pull.head | apply Pull.tail))));(case e=>(rw [Nat.zero_add,nAp])))
  refine Zfn [own 3 1 v' n xs] (hq:=?_)
  simp only [tupled]
 ·have hx:xs= [] :=hbl rfl
  subst hx
  obtain rfl:n=0:=by simp at hl;omega
  refine Ws ?_
  (with_reducible apply Tri.ownNil 3 1)
  refine Zfn [own 3 1 (.slice none 0 0) 0 []] (hq:=?_)
  rfl
theorem slices_CloneKey (v:Value)(n:Nat)(xs:List Value)(hl:xs.length=n*2)(h1: ∀y∈xs,y.oneCell'=true)(hb:n≤5000000):SpecR Tryz.prog 102 #[v] (fun w=>RdW w v n xs) (fun r H'=>H'= [own 38 2 r n xs]):=by
 refine SpecR.of (fun w hr=>?_)
 refine Calls.enter Tryz.func102 rfl rfl rfl (St.rebase w) ?_
 simp only [argSlots]
 refine Ws ?_
 refine ZoeqlSN ?_ (hr:=by exact rdw_ex Wp hr)
 intro b hbl
 cases b
 ·refine Ws ?_
  (refine Zli (ys:= []) ?_;intro vr)
  refine Ws ?_
  refine Zap ?_ (hr:=by exact rdw_ex Wp hr) (hl:=by exact hl) (h1:=by exact h1)
  intro v'
  refine Ws ?_
  ((with_reducible apply Tri.eqA (A:=own 38 2 v' _ _) (B:=own 38 2 v' n xs));(case p=>(first | ((repeat (first | with_reducible exact Pull.head | with_reducible apply Pull.tail));done) | (repeat (first | exact Pull.head | apply Pull.tail))));(case e=>(rw [Nat.zero_add,nAp])))
  refine Zfn [own 38 2 v' n xs] (hq:=?_)
  simp only [tupled]
 ·have hx:xs= [] :=hbl rfl
  subst hx
  obtain rfl:n=0:=by simp at hl;omega
  refine Ws ?_
  (with_reducible apply Tri.ownNil 38 2)
  refine Zfn [own 38 2 (.slice none 0 0) 0 []] (hq:=?_)
  rfl
theorem slices_CloneEntry (v:Value)(n:Nat)(xs:List Value)(hl:xs.length=n*8)(h1: ∀y∈xs,y.oneCell'=true)(hb:n≤5000000):SpecR Tryz.prog 59 #[v] (fun w=>RdW w v n xs) (fun r H'=>H'= [own 40 8 r n xs]):=by
 refine SpecR.of (fun w hr=>?_)
 refine Calls.enter Tryz.func59 rfl rfl rfl (St.rebase w) ?_
 simp only [argSlots]
 refine Ws ?_
 refine ZoeqlSN ?_ (hr:=by exact rdw_ex Wp hr)
 intro b hbl
 cases b
 ·refine Ws ?_
  (refine Zli (ys:= []) ?_;intro vr)
  refine Ws ?_
  refine Zap ?_ (hr:=by exact rdw_ex Wp hr) (hl:=by exact hl) (h1:=by exact h1)
  intro v'
  refine Ws ?_
  ((with_reducible apply Tri.eqA (A:=own 40 8 v' _ _) (B:=own 40 8 v' n xs));(case p=>(first | ((repeat (first | with_reducible exact Pull.head | with_reducible apply Pull.tail));done) | (repeat (first | exact Pull.head | apply Pull.tail))));(case e=>(rw [Nat.zero_add,nAp])))
  refine Zfn [own 40 8 v' n xs] (hq:=?_)
  simp only [tupled]
 ·have hx:xs= [] :=hbl rfl
  subst hx
  obtain rfl:n=0:=by simp at hl;omega
  refine Ws ?_
  (with_reducible apply Tri.ownNil 40 8)
  refine Zfn [own 40 8 (.slice none 0 0) 0 []] (hq:=?_)
  rfl
theorem nil_rdw (h:PH):Rd h (.slice none 0 0) 0 [] :=⟨none,0,rfl,⟨Nat.le_refl _,Nat.zero_le _⟩,fun j u hu=>by simp at hu⟩
theorem slices_Growint (n:Nat)(hb:n≤5000000):SpecR Tryz.prog 203 #[.slice none 0 0, .int .i64 (n:Int)] (fun _=>True) (fun r H'=>H'= [own 3 1 r 0 []]):=by
 refine SpecR.of (fun w _=>?_)
 refine Calls.enter Tryz.func203 rfl rfl rfl (St.rebase w) ?_
 simp only [argSlots]
 refine Ws ?_
 refine Zz 6 false ?_ (hi:=by exact dFf (by omega))
 refine Ws ?_
 refine Zocap ?_
 refine Ws ?_
 refine Zi 1 (n:Int) ?_ (hi:=by omega)
 refine Ws ?_
 (refine Wcd ?_ ?_<;>intro h)
 ·refine Ws ?_
  refine Zocap ?_
  refine Ws ?_
  refine Zsl (lo:=0) (hi:=0) ?_ (hr:=by exact fun _ _=>nil_rdw _)
  refine Zv 20 (.slice none 0 0) ?_ (hv:=by rfl)
  refine Ws ?_
  (with_reducible apply Tri.ownNil 3 1)
  refine ZoappendN (k:=n) ?_ (hi:=by rfl) (h0:=by omega)
  intro v' zs
  refine Ws ?_
  refine Zsl (lo:=0) (hi:=0) ?_ (hr:=by exact rdw_own (v:=v') Wp)
  refine Ws ?_
  refine Tri.ownCut (v:=v') (e:=3) (size:=1) 0 Wp (Nat.zero_le _) ?_
  refine Zat (own 3 1 (subv v' 1 0 0) 0 _) (own 3 1 (subv v' 1 0 0) 0 []) ?_ (e:=by rw [Nat.zero_mul,List.take_zero])
  refine Zfn [own 3 1 (subv v' 1 0 0) 0 []] (hq:=?_)
  rfl
 ·obtain rfl:n=0:=by omega
  refine Ws ?_
  (with_reducible apply Tri.ownNil 3 1)
  refine Zfn [own 3 1 (.slice none 0 0) 0 []] (hq:=?_)
  rfl
theorem slices_GrowKey (n:Nat)(hb:n≤5000000):SpecR Tryz.prog 202 #[.slice none 0 0, .int .i64 (n:Int)] (fun _=>True) (fun r H'=>H'= [own 38 2 r 0 []]):=by
 refine SpecR.of (fun w _=>?_)
 refine Calls.enter Tryz.func202 rfl rfl rfl (St.rebase w) ?_
 simp only [argSlots]
 refine Ws ?_
 refine Zz 6 false ?_ (hi:=by exact dFf (by omega))
 refine Ws ?_
 refine Zocap ?_
 refine Ws ?_
 refine Zi 1 (n:Int) ?_ (hi:=by omega)
 refine Ws ?_
 (refine Wcd ?_ ?_<;>intro h)
 ·refine Ws ?_
  refine Zocap ?_
  refine Ws ?_
  refine Zsl (lo:=0) (hi:=0) ?_ (hr:=by exact fun _ _=>nil_rdw _)
  refine Zv 20 (.slice none 0 0) ?_ (hv:=by rfl)
  refine Ws ?_
  (with_reducible apply Tri.ownNil 38 2)
  refine ZoappendN (k:=n) ?_ (hi:=by rfl) (h0:=by omega)
  intro v' zs
  refine Ws ?_
  refine Zsl (lo:=0) (hi:=0) ?_ (hr:=by exact rdw_own (v:=v') Wp)
  refine Ws ?_
  refine Tri.ownCut (v:=v') (e:=38) (size:=2) 0 Wp (Nat.zero_le _) ?_
  refine Zat (own 38 2 (subv v' 2 0 0) 0 _) (own 38 2 (subv v' 2 0 0) 0 []) ?_ (e:=by rw [Nat.zero_mul,List.take_zero])
  refine Zfn [own 38 2 (subv v' 2 0 0) 0 []] (hq:=?_)
  rfl
 ·obtain rfl:n=0:=by omega
  refine Ws ?_
  (with_reducible apply Tri.ownNil 38 2)
  refine Zfn [own 38 2 (.slice none 0 0) 0 []] (hq:=?_)
  rfl
theorem slices_GrowEntry (n:Nat)(hb:n≤5000000):SpecR Tryz.prog 201 #[.slice none 0 0, .int .i64 (n:Int)] (fun _=>True) (fun r H'=>H'= [own 40 8 r 0 []]):=by
 refine SpecR.of (fun w _=>?_)
 refine Calls.enter Tryz.func201 rfl rfl rfl (St.rebase w) ?_
 simp only [argSlots]
 refine Ws ?_
 refine Zz 6 false ?_ (hi:=by exact dFf (by omega))
 refine Ws ?_
 refine Zocap ?_
 refine Ws ?_
 refine Zi 1 (n:Int) ?_ (hi:=by omega)
 refine Ws ?_
 (refine Wcd ?_ ?_<;>intro h)
 ·refine Ws ?_
  refine Zocap ?_
  refine Ws ?_
  refine Zsl (lo:=0) (hi:=0) ?_ (hr:=by exact fun _ _=>nil_rdw _)
  refine Zv 20 (.slice none 0 0) ?_ (hv:=by rfl)
  refine Ws ?_
  (with_reducible apply Tri.ownNil 40 8)
  refine ZoappendN (k:=n) ?_ (hi:=by rfl) (h0:=by omega)
  intro v' zs
  refine Ws ?_
  refine Zsl (lo:=0) (hi:=0) ?_ (hr:=by exact rdw_own (v:=v') Wp)
  refine Ws ?_
  refine Tri.ownCut (v:=v') (e:=40) (size:=8) 0 Wp (Nat.zero_le _) ?_
  refine Zat (own 40 8 (subv v' 8 0 0) 0 _) (own 40 8 (subv v' 8 0 0) 0 []) ?_ (e:=by rw [Nat.zero_mul,List.take_zero])
  refine Zfn [own 40 8 (subv v' 8 0 0) 0 []] (hq:=?_)
  rfl
 ·obtain rfl:n=0:=by omega
  refine Ws ?_
  (with_reducible apply Tri.ownNil 40 8)
  refine Zfn [own 40 8 (.slice none 0 0) 0 []] (hq:=?_)
  rfl
def s3 (a b:Nat):Nat→Nat
 | 0=>0
 | 1=>a
 | _=>a+b
def x3 {α:Type}(a b:List α):Nat→List α
 | 0=> []
 | 1=>a
 | _=>a++b
theorem two_of {h:PH}{v1 v2:Value}{n1 n2 size:Nat}{xs1 xs2:List Value}(r1:Rd h v1 n1 xs1)(r2:Rd h v2 n2 xs2)(l1:xs1.length=n1*size)(l2:xs2.length=n2*size)(o1: ∀y∈xs1,y.oneCell'=true)(o2: ∀y∈xs2,y.oneCell'=true)(i:Nat)(hi:i<2):
  ∃v n xs, [v1,v2][i*1]? =some v∧Rd h v n xs∧xs.length=n*size∧(∀y∈xs,y.oneCell'=true)∧s3 n1 n2 (i+1)=s3 n1 n2 i+n∧x3 xs1 xs2 (i+1)=x3 xs1 xs2 i++xs∧s3 n1 n2 i+n≤n1+n2:=by
 match i,hi with
 | 0,_=>exact⟨v1,n1,xs1,rfl,r1,l1,o1,(by show n1=0+n1;omega),rfl,(by show 0+n1≤n1+n2;omega)⟩
 | 1,_=>exact⟨v2,n2,xs2,rfl,r2,l2,o2,rfl,rfl,Nat.le_refl _⟩
theorem slices_Concatint (v v1 v2:Value)(n1 n2:Nat)(xs1 xs2:List Value)(l1:xs1.length=n1*1)(l2:xs2.length=n2*1)(o1: ∀y∈xs1,y.oneCell'=true)(o2: ∀y∈xs2,y.oneCell'=true)(hb:n1+n2≤5000000):SpecR Tryz.prog 179 #[v] (fun w=>RdW w v 2 [v1,v2] ∧RdW w v1 n1 xs1∧RdW w v2 n2 xs2) (fun r H'=>H'= [own 3 1 r (n1+n2) (xs1++xs2)]):=by
 refine SpecR.of (fun w hr=>?_)
 obtain⟨hrv,hr1,hr2⟩:=hr
 have hw2: [v1,v2].length=2*1:=rfl
 refine Calls.enter Tryz.func179 rfl rfl rfl (St.rebase w) ?_
 simp only [argSlots]
 refine Ws ?_
 refine Zlr2 (hr:=hrv) ?_
 refine Ws ?_
 (refine Wl (α:={ i:Nat//i≤2 }) (fun x=>2-x.1) (fun x=> [(0,v),(2, .slice none 0 0),(3, .int .i64 (s3 n1 n2 x.1:Int)),(9,v),(10, .int .i64 ((2:Nat):Int)),(11, .int .i64 (x.1:Int))]) (fun x=> [Ex (hp w)]) ⟨0,Nat.zero_le _⟩ ?_;rintro ⟨i,hi⟩ mx hmx;(try dsimp only at hmx ⊢))
 refine Ws ?_
 (refine Wcd ?_ ?_<;>intro h)
 ·have hi2:i<2:=by omega
  obtain⟨vi,ni,xi,hg,hri,hli,hoi,hs,hx,hbi⟩:=two_of hr1 hr2 l1 l2 o1 o2 i hi2
  have hi3:i+1≤2:=by omega
  refine Ws ?_
  refine Zir (hr:=hrv) (j:=i) ?_ (hj:=by rfl) (hlt:=by omega) (hl:=by rw [hw2];omega)
  refine Ws ?_
  refine Zlr (hr:=hrv) ?_ (hv:=by exact hg)
  refine Ws ?_
  refine Zlr2 (hr:=hri) ?_
  refine Ws ?_
  refine Zi 3 (s3 n1 n2 (i+1):Int) ?_ (hi:=by rw [hs];first | omega | (rw [wrap_i64 (by omega)];omega))
  refine Zz 20 false ?_ (hi:=by exact dFf (by omega))
  refine Ws ?_
  refine Zi 11 ((i+1:Nat):Int) ?_ (hi:=by omega)
  exact Zag ⟨i+1,hi3⟩
 ·obtain rfl:i=2:=by omega
  have hs2:s3 n1 n2 2=n1+n2:=rfl
  rw [hs2]
  refine Ws ?_
  refine Zcr (slices_Growint (n1+n2) hb) ?_
  rintro u0 H0 rfl
  refine Wap ?_
  refine Ws ?_
  refine Zlr2 (hr:=hrv) ?_
  refine Ws ?_
  refine Zat (own 3 1 u0 0 []) (own 3 1 u0 (s3 n1 n2 0) (x3 xs1 xs2 0)) ?_
  (refine Wl (α:=Σ' (i:Nat) (u:Value),i≤2) (fun x=>2-x.1) (fun x=> [(2, .slice none 0 0),(6,x.2.1),(25,v),(26, .int .i64 ((2:Nat):Int)),(27, .int .i64 (x.1:Int))]) (fun x=> [own 3 1 x.2.1 (s3 n1 n2 x.1) (x3 xs1 xs2 x.1),Ex (hp w)]) ⟨0,u0,Nat.zero_le _⟩ ?_;rintro ⟨i,u,hi⟩ mx hmx;(try dsimp only at hmx ⊢))
  refine Ws ?_
  (refine Wcd ?_ ?_<;>intro h2)
  ·have hi2:i<2:=by omega
   obtain⟨vi,ni,xi,hg,hri,hli,hoi,hs,hx,hbi⟩:=two_of hr1 hr2 l1 l2 o1 o2 i hi2
   have hi3:i+1≤2:=by omega
   refine Ws ?_
   refine Zir (hr:=hrv) (j:=i) ?_ (hj:=by rfl) (hlt:=by omega) (hl:=by rw [hw2];omega)
   refine Ws ?_
   refine Zlr (hr:=hrv) ?_ (hv:=by exact hg)
   refine Ws ?_
   refine Zap ?_ (hr:=by exact rdw_ex Wp hri) (hl:=by exact hli) (h1:=by exact hoi)
   intro u'
   refine Ws ?_
   refine Zat (own 3 1 u' _ _) (own 3 1 u' (s3 n1 n2 (i+1)) (x3 xs1 xs2 (i+1))) ?_ (e:=by rw [hs,hx])
   refine Zi 27 ((i+1:Nat):Int) ?_ (hi:=by omega)
   exact Zag ⟨i+1,u',hi3⟩
  ·obtain rfl:i=2:=by omega
   refine Ws ?_
   refine Zat (own 3 1 u _ _) (own 3 1 u (n1+n2) (xs1++xs2)) ?_
   refine Zfn [own 3 1 u (n1+n2) (xs1++xs2)] (hq:=?_)
   rfl
theorem slices_ConcatKey (v v1 v2:Value)(n1 n2:Nat)(xs1 xs2:List Value)(l1:xs1.length=n1*2)(l2:xs2.length=n2*2)(o1: ∀y∈xs1,y.oneCell'=true)(o2: ∀y∈xs2,y.oneCell'=true)(hb:n1+n2≤5000000):SpecR Tryz.prog 178 #[v] (fun w=>RdW w v 2 [v1,v2] ∧RdW w v1 n1 xs1∧RdW w v2 n2 xs2) (fun r H'=>H'= [own 38 2 r (n1+n2) (xs1++xs2)]):=by
 refine SpecR.of (fun w hr=>?_)
 obtain⟨hrv,hr1,hr2⟩:=hr
 have hw2: [v1,v2].length=2*1:=rfl
 refine Calls.enter Tryz.func178 rfl rfl rfl (St.rebase w) ?_
 simp only [argSlots]
 refine Ws ?_
 refine Zlr2 (hr:=hrv) ?_
 refine Ws ?_
 (refine Wl (α:={ i:Nat//i≤2 }) (fun x=>2-x.1) (fun x=> [(0,v),(2, .slice none 0 0),(3, .int .i64 (s3 n1 n2 x.1:Int)),(9,v),(10, .int .i64 ((2:Nat):Int)),(11, .int .i64 (x.1:Int))]) (fun x=> [Ex (hp w)]) ⟨0,Nat.zero_le _⟩ ?_;rintro ⟨i,hi⟩ mx hmx;(try dsimp only at hmx ⊢))
 refine Ws ?_
 (refine Wcd ?_ ?_<;>intro h)
 ·have hi2:i<2:=by omega
  obtain⟨vi,ni,xi,hg,hri,hli,hoi,hs,hx,hbi⟩:=two_of hr1 hr2 l1 l2 o1 o2 i hi2
  have hi3:i+1≤2:=by omega
  refine Ws ?_
  refine Zir (hr:=hrv) (j:=i) ?_ (hj:=by rfl) (hlt:=by omega) (hl:=by rw [hw2];omega)
  refine Ws ?_
  refine Zlr (hr:=hrv) ?_ (hv:=by exact hg)
  refine Ws ?_
  refine Zlr2 (hr:=hri) ?_
  refine Ws ?_
  refine Zi 3 (s3 n1 n2 (i+1):Int) ?_ (hi:=by rw [hs];first | omega | (rw [wrap_i64 (by omega)];omega))
  refine Zz 20 false ?_ (hi:=by exact dFf (by omega))
  refine Ws ?_
  refine Zi 11 ((i+1:Nat):Int) ?_ (hi:=by omega)
  exact Zag ⟨i+1,hi3⟩
 ·obtain rfl:i=2:=by omega
  have hs2:s3 n1 n2 2=n1+n2:=rfl
  rw [hs2]
  refine Ws ?_
  refine Zcr (slices_GrowKey (n1+n2) hb) ?_
  rintro u0 H0 rfl
  refine Wap ?_
  refine Ws ?_
  refine Zlr2 (hr:=hrv) ?_
  refine Ws ?_
  refine Zat (own 38 2 u0 0 []) (own 38 2 u0 (s3 n1 n2 0) (x3 xs1 xs2 0)) ?_
  (refine Wl (α:=Σ' (i:Nat) (u:Value),i≤2) (fun x=>2-x.1) (fun x=> [(2, .slice none 0 0),(6,x.2.1),(25,v),(26, .int .i64 ((2:Nat):Int)),(27, .int .i64 (x.1:Int))]) (fun x=> [own 38 2 x.2.1 (s3 n1 n2 x.1) (x3 xs1 xs2 x.1),Ex (hp w)]) ⟨0,u0,Nat.zero_le _⟩ ?_;rintro ⟨i,u,hi⟩ mx hmx;(try dsimp only at hmx ⊢))
  refine Ws ?_
  (refine Wcd ?_ ?_<;>intro h2)
  ·have hi2:i<2:=by omega
   obtain⟨vi,ni,xi,hg,hri,hli,hoi,hs,hx,hbi⟩:=two_of hr1 hr2 l1 l2 o1 o2 i hi2
   have hi3:i+1≤2:=by omega
   refine Ws ?_
   refine Zir (hr:=hrv) (j:=i) ?_ (hj:=by rfl) (hlt:=by omega) (hl:=by rw [hw2];omega)
   refine Ws ?_
   refine Zlr (hr:=hrv) ?_ (hv:=by exact hg)
   refine Ws ?_
   refine Zap ?_ (hr:=by exact rdw_ex Wp hri) (hl:=by exact hli) (h1:=by exact hoi)
   intro u'
   refine Ws ?_
   refine Zat (own 38 2 u' _ _) (own 38 2 u' (s3 n1 n2 (i+1)) (x3 xs1 xs2 (i+1))) ?_ (e:=by rw [hs,hx])
   refine Zi 27 ((i+1:Nat):Int) ?_ (hi:=by omega)
   exact Zag ⟨i+1,u',hi3⟩
  ·obtain rfl:i=2:=by omega
   refine Ws ?_
   refine Zat (own 38 2 u _ _) (own 38 2 u (n1+n2) (xs1++xs2)) ?_
   refine Zfn [own 38 2 u (n1+n2) (xs1++xs2)] (hq:=?_)
   rfl
theorem slices_ConcatEntry (v v1 v2:Value)(n1 n2:Nat)(xs1 xs2:List Value)(l1:xs1.length=n1*8)(l2:xs2.length=n2*8)(o1: ∀y∈xs1,y.oneCell'=true)(o2: ∀y∈xs2,y.oneCell'=true)(hb:n1+n2≤5000000):SpecR Tryz.prog 177 #[v] (fun w=>RdW w v 2 [v1,v2] ∧RdW w v1 n1 xs1∧RdW w v2 n2 xs2) (fun r H'=>H'= [own 40 8 r (n1+n2) (xs1++xs2)]):=by
 refine SpecR.of (fun w hr=>?_)
 obtain⟨hrv,hr1,hr2⟩:=hr
 have hw2: [v1,v2].length=2*1:=rfl
 refine Calls.enter Tryz.func177 rfl rfl rfl (St.rebase w) ?_
 simp only [argSlots]
 refine Ws ?_
 refine Zlr2 (hr:=hrv) ?_
 refine Ws ?_
 (refine Wl (α:={ i:Nat//i≤2 }) (fun x=>2-x.1) (fun x=> [(0,v),(2, .slice none 0 0),(3, .int .i64 (s3 n1 n2 x.1:Int)),(9,v),(10, .int .i64 ((2:Nat):Int)),(11, .int .i64 (x.1:Int))]) (fun x=> [Ex (hp w)]) ⟨0,Nat.zero_le _⟩ ?_;rintro ⟨i,hi⟩ mx hmx;(try dsimp only at hmx ⊢))
 refine Ws ?_
 (refine Wcd ?_ ?_<;>intro h)
 ·have hi2:i<2:=by omega
  obtain⟨vi,ni,xi,hg,hri,hli,hoi,hs,hx,hbi⟩:=two_of hr1 hr2 l1 l2 o1 o2 i hi2
  have hi3:i+1≤2:=by omega
  refine Ws ?_
  refine Zir (hr:=hrv) (j:=i) ?_ (hj:=by rfl) (hlt:=by omega) (hl:=by rw [hw2];omega)
  refine Ws ?_
  refine Zlr (hr:=hrv) ?_ (hv:=by exact hg)
  refine Ws ?_
  refine Zlr2 (hr:=hri) ?_
  refine Ws ?_
  refine Zi 3 (s3 n1 n2 (i+1):Int) ?_ (hi:=by rw [hs];first | omega | (rw [wrap_i64 (by omega)];omega))
  refine Zz 20 false ?_ (hi:=by exact dFf (by omega))
  refine Ws ?_
  refine Zi 11 ((i+1:Nat):Int) ?_ (hi:=by omega)
  exact Zag ⟨i+1,hi3⟩
 ·obtain rfl:i=2:=by omega
  have hs2:s3 n1 n2 2=n1+n2:=rfl
  rw [hs2]
  refine Ws ?_
  refine Zcr (slices_GrowEntry (n1+n2) hb) ?_
  rintro u0 H0 rfl
  refine Wap ?_
  refine Ws ?_
  refine Zlr2 (hr:=hrv) ?_
  refine Ws ?_
  refine Zat (own 40 8 u0 0 []) (own 40 8 u0 (s3 n1 n2 0) (x3 xs1 xs2 0)) ?_
  (refine Wl (α:=Σ' (i:Nat) (u:Value),i≤2) (fun x=>2-x.1) (fun x=> [(2, .slice none 0 0),(6,x.2.1),(25,v),(26, .int .i64 ((2:Nat):Int)),(27, .int .i64 (x.1:Int))]) (fun x=> [own 40 8 x.2.1 (s3 n1 n2 x.1) (x3 xs1 xs2 x.1),Ex (hp w)]) ⟨0,u0,Nat.zero_le _⟩ ?_;rintro ⟨i,u,hi⟩ mx hmx;(try dsimp only at hmx ⊢))
  refine Ws ?_
  (refine Wcd ?_ ?_<;>intro h2)
  ·have hi2:i<2:=by omega
   obtain⟨vi,ni,xi,hg,hri,hli,hoi,hs,hx,hbi⟩:=two_of hr1 hr2 l1 l2 o1 o2 i hi2
   have hi3:i+1≤2:=by omega
   refine Ws ?_
   refine Zir (hr:=hrv) (j:=i) ?_ (hj:=by rfl) (hlt:=by omega) (hl:=by rw [hw2];omega)
   refine Ws ?_
   refine Zlr (hr:=hrv) ?_ (hv:=by exact hg)
   refine Ws ?_
   refine Zap ?_ (hr:=by exact rdw_ex Wp hri) (hl:=by exact hli) (h1:=by exact hoi)
   intro u'
   refine Ws ?_
   refine Zat (own 40 8 u' _ _) (own 40 8 u' (s3 n1 n2 (i+1)) (x3 xs1 xs2 (i+1))) ?_ (e:=by rw [hs,hx])
   refine Zi 27 ((i+1:Nat):Int) ?_ (hi:=by omega)
   exact Zag ⟨i+1,u',hi3⟩
  ·obtain rfl:i=2:=by omega
   refine Ws ?_
   refine Zat (own 40 8 u _ _) (own 40 8 u (n1+n2) (xs1++xs2)) ?_
   refine Zfn [own 40 8 u (n1+n2) (xs1++xs2)] (hq:=?_)
   rfl
def ownN (u1 u2 u3:Value)(E:List ENT)(K:List KEY)(D:List Int):List Atom:= [own 40 8 u1 E.length (EL E),own 38 2 u2 K.length (KL K),own 3 1 u3 D.length (NL D)]
theorem EL_ones (E:List ENT): ∀y∈EL E,y.oneCell'=true:=flat_one entL_one5 E
theorem KL_ones (K:List KEY): ∀y∈KL K,y.oneCell'=true:=flat_one keyL_one5 K
theorem EL_lens (E:List ENT){n:Nat}(h:E.length=n):(EL E).length=n*8:=by rw [←h];exact flat_len entL_len5 E
theorem KL_lens (K:List KEY){n:Nat}(h:K.length=n):(KL K).length=n*2:=by rw [←h];exact flat_len keyL_len5 K
theorem NL_lens (D:List Int){n:Nat}(h:D.length=n):(NL D).length=n*1:=by rw [NL_len,h,Nat.mul_one]
theorem node_part_leaf (ev kv dv:Value)(E:List ENT)(K:List KEY)(D:List Int)(lo hi:Nat)(h1:lo≤hi)(h2:hi≤E.length)(hb:hi≤5000000):SpecR Tryz.prog 115 #[ndW true ev kv dv, .int .i64 (lo:Int), .int .i64 (hi:Int)] (fun w=>ndR w ev kv dv E K D) (fun r H'=> ∃u1 u2 u3,r=ndW true u1 u2 u3∧H'=ownN u1 u2 u3 (cutL E lo hi) [] []):=by
 refine SpecR.of (fun w hr=>?_)
 obtain⟨hrE,hrK,hrD⟩:=hr
 have q1:=cutE hrE lo hi h1 h2
 have hcl:=cutL_len E lo hi h2
 have hx1:=EL_lens (cutL E lo hi) hcl
 refine Calls.enter Tryz.func115 rfl rfl rfl (St.rebase w) ?_
 simp only [argSlots]
 refine Ws ?_
 (refine Wbx ?_;intro b3)
 refine Ws ?_
 refine Zal fun b6=>?_
 refine Ws ?_
 refine Zsl (lo:=lo) (hi:=hi) ?_ (hr:=by exact rdw_ex Wp hrE)
 refine Ws ?_
 refine Zcr (slices_CloneEntry (subv ev 8 lo hi) (hi-lo) (EL (cutL E lo hi)) hx1 (EL_ones _) (by omega)) ?_ (hpre:=by exact rdw_ex Wp q1)
 rintro u1 H1 rfl
 refine Wap ?_
 refine Ws ?_
 refine Tri.shape (e:=40) (size:=8) (v:=u1) Wp ?_
 rintro ⟨A1,c1,rfl⟩
 refine Zbu (ys:=ndLL true (.slice A1 (hi-lo) c1) (.slice none 0 0) (.slice none 0 0)) ?_
 refine Ws ?_
 refine ZSa (ys:=ndLL true (.slice A1 (hi-lo) c1) (.slice none 0 0) (.slice none 0 0)) ?_ (h1:=by exact ndLL_one true A1 none none _ c1 0 0 0 0)
 refine Ws ?_
 (with_reducible apply Tri.ownNil 38 2)
 (with_reducible apply Tri.ownNil 3 1)
 refine Zat (own 40 8 (.slice A1 (hi-lo) c1) _ _) (own 40 8 (.slice A1 (hi-lo) c1) (cutL E lo hi).length (EL (cutL E lo hi))) ?_ (e:=by rw [hcl])
 exact Zfn [own 40 8 (.slice A1 (hi-lo) c1) (cutL E lo hi).length (EL (cutL E lo hi)),own 38 2 (.slice none 0 0) 0 [],own 3 1 (.slice none 0 0) 0 []] (h:=ResL.cons (Zra (rfl:(ndLL true (.slice A1 (hi-lo) c1) (.slice none 0 0) (.slice none 0 0)).length=4)) (ResL.nil)) (hq:=by exact⟨_,_,_,rfl,rfl⟩)
theorem node_part_inner (ev kv dv:Value)(E:List ENT)(K:List KEY)(D:List Int)(lo hi:Nat)(h1:lo≤hi)(h2:hi≤D.length)(hk:K.length=D.length)(hb:hi≤5000000):SpecR Tryz.prog 115 #[ndW false ev kv dv, .int .i64 (lo:Int), .int .i64 (hi:Int)] (fun w=>ndR w ev kv dv E K D) (fun r H'=> ∃u1 u2 u3,r=ndW false u1 u2 u3∧H'=ownN u1 u2 u3 [] (cutL K lo hi) (cutL D lo hi)):=by
 refine SpecR.of (fun w hr=>?_)
 obtain⟨hrE,hrK,hrD⟩:=hr
 have h3:hi≤K.length:=by omega
 have q1:=cutK hrK lo hi h1 h3
 have q2:=cutD hrD lo hi h1 h2
 have hcl:=cutL_len K lo hi h3
 have hcl2:=cutL_len D lo hi h2
 have hx1:=KL_lens (cutL K lo hi) hcl
 have hx2:=NL_lens (cutL D lo hi) hcl2
 refine Calls.enter Tryz.func115 rfl rfl rfl (St.rebase w) ?_
 simp only [argSlots]
 refine Ws ?_
 (refine Wbx ?_;intro b3)
 refine Ws ?_
 refine Zal fun b6=>?_
 refine Ws ?_
 refine Wm [blk b3 125 (ndLL false ev kv dv),Ex (hp w)] ?_
 refine Wq [0,1,2,3] ?_
 refine Zm 4 (h:=fun _ _ qK=>by exact Zsl (lo:=lo) (hi:=hi) qK (hr:=by exact rdw_ex Wp hrK)) (k:=?_)
 refine Wq [6,7,8,9] ?_
 refine Zm 10 (h:=fun _ _ qK=>by exact Zsl (lo:=lo) (hi:=hi) qK (hr:=by exact rdw_ex Wp hrD)) (k:=?_)
 refine ZA 5 ?_
 refine Zcr (slices_CloneKey (subv kv 2 lo hi) (hi-lo) (KL (cutL K lo hi)) hx1 (KL_ones _) (by omega)) ?_ (hpre:=by exact rdw_ex Wp q1)
 rintro u1 H1 rfl
 refine Wap ?_
 refine Tri.shape (e:=38) (size:=2) (v:=u1) Wp ?_
 rintro ⟨A1,c1,rfl⟩
 refine Zw ?_
 refine ZA 11 ?_
 refine Zcr (slices_Cloneint (subv dv 1 lo hi) (hi-lo) (NL (cutL D lo hi)) hx2 (NL_one5 _) (by omega)) ?_ (hpre:=by exact rdw_ex Wp q2)
 rintro u2 H2 rfl
 refine Wap ?_
 refine Tri.shape (e:=3) (size:=1) (v:=u2) Wp ?_
 rintro ⟨A2,c2,rfl⟩
 refine Zw ?_
 refine Zm 12 (h:=fun _ _ qK=>by exact Zbu (ys:=ndLL false (.slice none 0 0) (.slice A1 (hi-lo) c1) (.slice A2 (hi-lo) c2)) qK) (k:=?_)
 refine ZA 13 ?_
 refine ZSa (ys:=ndLL false (.slice none 0 0) (.slice A1 (hi-lo) c1) (.slice A2 (hi-lo) c2)) ?_ (h1:=by exact ndLL_one false none A1 A2 0 0 _ c1 _ c2)
 refine Zw ?_
 refine ZE ?_
 refine Ws ?_
 (with_reducible apply Tri.ownNil 40 8)
 refine Zat (own 38 2 (.slice A1 (hi-lo) c1) _ _) (own 38 2 (.slice A1 (hi-lo) c1) (cutL K lo hi).length (KL (cutL K lo hi))) ?_ (e:=by rw [hcl])
 refine Zat (own 3 1 (.slice A2 (hi-lo) c2) _ _) (own 3 1 (.slice A2 (hi-lo) c2) (cutL D lo hi).length (NL (cutL D lo hi))) ?_ (e:=by rw [hcl2])
 exact Zfn [own 40 8 (.slice none 0 0) 0 [],own 38 2 (.slice A1 (hi-lo) c1) (cutL K lo hi).length (KL (cutL K lo hi)),own 3 1 (.slice A2 (hi-lo) c2) (cutL D lo hi).length (NL (cutL D lo hi))] (h:=ResL.cons (Zra (rfl:(ndLL false (.slice none 0 0) (.slice A1 (hi-lo) c1) (.slice A2 (hi-lo) c2)).length=4)) (ResL.nil)) (hq:=by exact⟨_,_,_,rfl,rfl⟩)
theorem EL_app (a b:List ENT):EL (a++b)=EL a++EL b:=by simp [EL]
theorem KL_app (a b:List KEY):KL (a++b)=KL a++KL b:=by simp [KL]
theorem NL_app (a b:List Int):NL (a++b)=NL a++NL b:=by simp [NL]
theorem node_Join_leaf (ev kv dv ev2 kv2 dv2:Value)(E E2:List ENT)(K K2:List KEY)(D D2:List Int)(hb:E.length+E2.length≤5000000):SpecR Tryz.prog 148 #[ndW true ev kv dv,ndW true ev2 kv2 dv2] (fun w=>ndR w ev kv dv E K D∧ndR w ev2 kv2 dv2 E2 K2 D2) (fun r H'=> ∃u1 u2 u3,r=ndW true u1 u2 u3∧H'=ownN u1 u2 u3 (E++E2) [] []):=by
 refine SpecR.of (fun w hr=>?_)
 obtain⟨⟨hrE,hrK,hrD⟩,⟨hrE2,hrK2,hrD2⟩⟩:=hr
 obtain⟨X1,y1,rfl,_⟩:=id hrE
 obtain⟨X2,y2,rfl,_⟩:=id hrE2
 refine Calls.enter Tryz.func148 rfl rfl rfl (St.rebase w) ?_
 simp only [argSlots]
 refine Ws ?_
 (refine Wbx ?_;intro b2)
 refine Ws ?_
 (refine Wbx ?_;intro b3)
 refine Ws ?_
 refine Zal fun b4=>?_
 refine Ws ?_
 (refine Zli (ys:= [.slice X1 E.length y1, .slice X2 E2.length y2]) ?_;intro vl)
 refine Ws ?_
 refine Zcr (slices_ConcatEntry vl (.slice X1 E.length y1) (.slice X2 E2.length y2) E.length E2.length (EL E) (EL E2) (EL_lens E rfl) (EL_lens E2 rfl) (EL_ones _) (EL_ones _) hb) ?_ (hpre:=by exact fun w' hw'=>⟨rdw_own (v:=vl) Wp w' hw',rdw_ex Wp hrE w' hw',rdw_ex Wp hrE2 w' hw'⟩)
 rintro u1 H1 rfl
 refine Wap ?_
 refine Ws ?_
 refine Tri.shape (e:=40) (size:=8) (v:=u1) Wp ?_
 rintro ⟨A1,c1,rfl⟩
 refine Zbu (ys:=ndLL true (.slice A1 (E.length+E2.length) c1) (.slice none 0 0) (.slice none 0 0)) ?_
 refine Ws ?_
 refine ZSa (ys:=ndLL true (.slice A1 (E.length+E2.length) c1) (.slice none 0 0) (.slice none 0 0)) ?_ (h1:=by exact ndLL_one true A1 none none _ c1 0 0 0 0)
 refine Ws ?_
 (with_reducible apply Tri.ownNil 38 2)
 (with_reducible apply Tri.ownNil 3 1)
 refine Zat (own 40 8 (.slice A1 (E.length+E2.length) c1) _ _) (own 40 8 (.slice A1 (E.length+E2.length) c1) (E++E2).length (EL (E++E2))) ?_ (e:=by rw [lAp,EL_app])
 exact Zfn [own 40 8 (.slice A1 (E.length+E2.length) c1) (E++E2).length (EL (E++E2)),own 38 2 (.slice none 0 0) 0 [],own 3 1 (.slice none 0 0) 0 []] (h:=ResL.cons (Zra (rfl:(ndLL true (.slice A1 (E.length+E2.length) c1) (.slice none 0 0) (.slice none 0 0)).length=4)) (ResL.nil)) (hq:=by exact⟨_,_,_,rfl,rfl⟩)
theorem node_Join_inner (ev kv dv ev2 kv2 dv2:Value)(E E2:List ENT)(Ks Kt:List KEY)(D D2:List Int)(hb:Ks.length+Kt.length≤5000000)(hb2:D.length+D2.length≤5000000):SpecR Tryz.prog 148 #[ndW false ev kv dv,ndW false ev2 kv2 dv2] (fun w=>ndR w ev kv dv E Ks D∧ndR w ev2 kv2 dv2 E2 Kt D2) (fun r H'=> ∃u1 u2 u3,r=ndW false u1 u2 u3∧H'=ownN u1 u2 u3 [] (Ks++Kt) (D++D2)):=by
 refine SpecR.of (fun w hr=>?_)
 obtain⟨⟨hrE,hrK,hrD⟩,⟨hrE2,hrK2,hrD2⟩⟩:=hr
 obtain⟨X1,y1,rfl,_⟩:=id hrK
 obtain⟨X2,y2,rfl,_⟩:=id hrK2
 obtain⟨X3,y3,rfl,_⟩:=id hrD
 obtain⟨X4,y4,rfl,_⟩:=id hrD2
 refine Calls.enter Tryz.func148 rfl rfl rfl (St.rebase w) ?_
 simp only [argSlots]
 refine Ws ?_
 (refine Wbx ?_;intro b2)
 refine Ws ?_
 (refine Wbx ?_;intro b3)
 refine Ws ?_
 refine Zal fun b4=>?_
 refine Ws ?_
 refine Wm [blk b2 125 (ndLL false ev (.slice X1 Ks.length y1) (.slice X3 D.length y3)),blk b3 125 (ndLL false ev2 (.slice X2 Kt.length y2) (.slice X4 D2.length y4)),Ex (hp w)] ?_
 refine Wq [0,1,2,3,6,7,8,9] ?_
 refine ZA2 4 10 ?_ ?_
 ·(refine Zli (ys:= [.slice X1 Ks.length y1, .slice X2 Kt.length y2]) ?_;intro va)
  refine Zw ?_
  refine ZA2 5 10 ?_ ?_
  ·refine Zcr (slices_ConcatKey va (.slice X1 Ks.length y1) (.slice X2 Kt.length y2) Ks.length Kt.length (KL Ks) (KL Kt) (KL_lens Ks rfl) (KL_lens Kt rfl) (KL_ones _) (KL_ones _) hb) ?_ (hpre:=by exact fun w' hw'=>⟨rdw_own (v:=va) Wp w' hw',rdw_ex Wp hrK w' hw',rdw_ex Wp hrK2 w' hw'⟩)
   rintro u1 H1 rfl
   refine Wap ?_
   (refine Tri.shape (e:=38) (size:=2) (v:=u1) Wp ?_;rintro ⟨A1,c1,rfl⟩)
   refine Zw ?_
   refine ZA 10 ?_
   (refine Zli (ys:= [.slice X3 D.length y3, .slice X4 D2.length y4]) ?_;intro vb)
   refine Zw ?_
   refine ZA 11 ?_
   refine Zcr (slices_Concatint vb (.slice X3 D.length y3) (.slice X4 D2.length y4) D.length D2.length (NL D) (NL D2) (NL_lens D rfl) (NL_lens D2 rfl) (NL_one5 _) (NL_one5 _) hb2) ?_ (hpre:=by exact fun w' hw'=>⟨rdw_own (v:=vb) Wp w' hw',rdw_ex Wp hrD w' hw',rdw_ex Wp hrD2 w' hw'⟩)
   rintro u2 H2 rfl
   refine Wap ?_
   (refine Tri.shape (e:=3) (size:=1) (v:=u2) Wp ?_;rintro ⟨A2,c2,rfl⟩)
   refine Zw ?_
   refine Zm 12 (h:=fun _ _ qK=>by exact Zbu (ys:=ndLL false (.slice none 0 0) (.slice A1 (Ks.length+Kt.length) c1) (.slice A2 (D.length+D2.length) c2)) qK) (k:=?_)
   refine ZA 13 ?_
   refine ZSa (ys:=ndLL false (.slice none 0 0) (.slice A1 (Ks.length+Kt.length) c1) (.slice A2 (D.length+D2.length) c2)) ?_ (h1:=by exact ndLL_one false none A1 A2 0 0 _ c1 _ c2)
   refine Zw ?_
   refine ZE ?_
   refine Ws ?_
   (with_reducible apply Tri.ownNil 40 8)
   refine Zat (own 38 2 (.slice A1 (Ks.length+Kt.length) c1) _ _) (own 38 2 (.slice A1 (Ks.length+Kt.length) c1) (Ks++Kt).length (KL (Ks++Kt))) ?_ (e:=by rw [lAp,KL_app])
   refine Zat (own 3 1 (.slice A2 (D.length+D2.length) c2) _ _) (own 3 1 (.slice A2 (D.length+D2.length) c2) (D++D2).length (NL (D++D2))) ?_ (e:=by rw [lAp,NL_app])
   exact Zfn [own 40 8 (.slice none 0 0) 0 [],own 38 2 (.slice A1 (Ks.length+Kt.length) c1) (Ks++Kt).length (KL (Ks++Kt)),own 3 1 (.slice A2 (D.length+D2.length) c2) (D++D2).length (NL (D++D2))] (h:=ResL.cons (Zra (rfl:(ndLL false (.slice none 0 0) (.slice A1 (Ks.length+Kt.length) c1) (.slice A2 (D.length+D2.length) c2)).length=4)) (ResL.nil)) (hq:=by exact⟨_,_,_,rfl,rfl⟩)
  ·(refine Zli (ys:= [.slice X3 D.length y3, .slice X4 D2.length y4]) ?_;intro vb)
   refine Zw ?_
   refine ZA 5 ?_
   refine Zcr (slices_ConcatKey va (.slice X1 Ks.length y1) (.slice X2 Kt.length y2) Ks.length Kt.length (KL Ks) (KL Kt) (KL_lens Ks rfl) (KL_lens Kt rfl) (KL_ones _) (KL_ones _) hb) ?_ (hpre:=by exact fun w' hw'=>⟨rdw_own (v:=va) Wp w' hw',rdw_ex Wp hrK w' hw',rdw_ex Wp hrK2 w' hw'⟩)
   rintro u1 H1 rfl
   refine Wap ?_
   (refine Tri.shape (e:=38) (size:=2) (v:=u1) Wp ?_;rintro ⟨A1,c1,rfl⟩)
   refine Zw ?_
   refine ZA 11 ?_
   refine Zcr (slices_Concatint vb (.slice X3 D.length y3) (.slice X4 D2.length y4) D.length D2.length (NL D) (NL D2) (NL_lens D rfl) (NL_lens D2 rfl) (NL_one5 _) (NL_one5 _) hb2) ?_ (hpre:=by exact fun w' hw'=>⟨rdw_own (v:=vb) Wp w' hw',rdw_ex Wp hrD w' hw',rdw_ex Wp hrD2 w' hw'⟩)
   rintro u2 H2 rfl
   refine Wap ?_
   (refine Tri.shape (e:=3) (size:=1) (v:=u2) Wp ?_;rintro ⟨A2,c2,rfl⟩)
   refine Zw ?_
   refine Zm 12 (h:=fun _ _ qK=>by exact Zbu (ys:=ndLL false (.slice none 0 0) (.slice A1 (Ks.length+Kt.length) c1) (.slice A2 (D.length+D2.length) c2)) qK) (k:=?_)
   refine ZA 13 ?_
   refine ZSa (ys:=ndLL false (.slice none 0 0) (.slice A1 (Ks.length+Kt.length) c1) (.slice A2 (D.length+D2.length) c2)) ?_ (h1:=by exact ndLL_one false none A1 A2 0 0 _ c1 _ c2)
   refine Zw ?_
   refine ZE ?_
   refine Ws ?_
   (with_reducible apply Tri.ownNil 40 8)
   refine Zat (own 38 2 (.slice A1 (Ks.length+Kt.length) c1) _ _) (own 38 2 (.slice A1 (Ks.length+Kt.length) c1) (Ks++Kt).length (KL (Ks++Kt))) ?_ (e:=by rw [lAp,KL_app])
   refine Zat (own 3 1 (.slice A2 (D.length+D2.length) c2) _ _) (own 3 1 (.slice A2 (D.length+D2.length) c2) (D++D2).length (NL (D++D2))) ?_ (e:=by rw [lAp,NL_app])
   exact Zfn [own 40 8 (.slice none 0 0) 0 [],own 38 2 (.slice A1 (Ks.length+Kt.length) c1) (Ks++Kt).length (KL (Ks++Kt)),own 3 1 (.slice A2 (D.length+D2.length) c2) (D++D2).length (NL (D++D2))] (h:=ResL.cons (Zra (rfl:(ndLL false (.slice none 0 0) (.slice A1 (Ks.length+Kt.length) c1) (.slice A2 (D.length+D2.length) c2)).length=4)) (ResL.nil)) (hq:=by exact⟨_,_,_,rfl,rfl⟩)
 ·(refine Zli (ys:= [.slice X3 D.length y3, .slice X4 D2.length y4]) ?_;intro vb)
  refine Zw ?_
  refine ZA 4 ?_
  (refine Zli (ys:= [.slice X1 Ks.length y1, .slice X2 Kt.length y2]) ?_;intro va)
  refine Zw ?_
  refine ZA 5 ?_
  refine Zcr (slices_ConcatKey va (.slice X1 Ks.length y1) (.slice X2 Kt.length y2) Ks.length Kt.length (KL Ks) (KL Kt) (KL_lens Ks rfl) (KL_lens Kt rfl) (KL_ones _) (KL_ones _) hb) ?_ (hpre:=by exact fun w' hw'=>⟨rdw_own (v:=va) Wp w' hw',rdw_ex Wp hrK w' hw',rdw_ex Wp hrK2 w' hw'⟩)
  rintro u1 H1 rfl
  refine Wap ?_
  (refine Tri.shape (e:=38) (size:=2) (v:=u1) Wp ?_;rintro ⟨A1,c1,rfl⟩)
  refine Zw ?_
  refine ZA 11 ?_
  refine Zcr (slices_Concatint vb (.slice X3 D.length y3) (.slice X4 D2.length y4) D.length D2.length (NL D) (NL D2) (NL_lens D rfl) (NL_lens D2 rfl) (NL_one5 _) (NL_one5 _) hb2) ?_ (hpre:=by exact fun w' hw'=>⟨rdw_own (v:=vb) Wp w' hw',rdw_ex Wp hrD w' hw',rdw_ex Wp hrD2 w' hw'⟩)
  rintro u2 H2 rfl
  refine Wap ?_
  (refine Tri.shape (e:=3) (size:=1) (v:=u2) Wp ?_;rintro ⟨A2,c2,rfl⟩)
  refine Zw ?_
  refine Zm 12 (h:=fun _ _ qK=>by exact Zbu (ys:=ndLL false (.slice none 0 0) (.slice A1 (Ks.length+Kt.length) c1) (.slice A2 (D.length+D2.length) c2)) qK) (k:=?_)
  refine ZA 13 ?_
  refine ZSa (ys:=ndLL false (.slice none 0 0) (.slice A1 (Ks.length+Kt.length) c1) (.slice A2 (D.length+D2.length) c2)) ?_ (h1:=by exact ndLL_one false none A1 A2 0 0 _ c1 _ c2)
  refine Zw ?_
  refine ZE ?_
  refine Ws ?_
  (with_reducible apply Tri.ownNil 40 8)
  refine Zat (own 38 2 (.slice A1 (Ks.length+Kt.length) c1) _ _) (own 38 2 (.slice A1 (Ks.length+Kt.length) c1) (Ks++Kt).length (KL (Ks++Kt))) ?_ (e:=by rw [lAp,KL_app])
  refine Zat (own 3 1 (.slice A2 (D.length+D2.length) c2) _ _) (own 3 1 (.slice A2 (D.length+D2.length) c2) (D++D2).length (NL (D++D2))) ?_ (e:=by rw [lAp,NL_app])
  exact Zfn [own 40 8 (.slice none 0 0) 0 [],own 38 2 (.slice A1 (Ks.length+Kt.length) c1) (Ks++Kt).length (KL (Ks++Kt)),own 3 1 (.slice A2 (D.length+D2.length) c2) (D++D2).length (NL (D++D2))] (h:=ResL.cons (Zra (rfl:(ndLL false (.slice none 0 0) (.slice A1 (Ks.length+Kt.length) c1) (.slice A2 (D.length+D2.length) c2)).length=4)) (ResL.nil)) (hq:=by exact⟨_,_,_,rfl,rfl⟩)
structure ND3 where
 E:List ENT
 K:List KEY
 D:List Int
def szN (leaf:Bool)(x:ND3):Nat:=if leaf then x.E.length else x.D.length
def okN (leaf:Bool)(x:ND3):Prop:=if leaf then x.K= [] ∧x.D= [] else x.E= [] ∧x.K.length=x.D.length
def partN (leaf:Bool)(x:ND3)(lo hi:Nat):ND3:=if leaf then⟨cutL x.E lo hi, [], []⟩ else⟨[],cutL x.K lo hi,cutL x.D lo hi⟩
def appN (x y:ND3):ND3:=⟨x.E++y.E,x.K++y.K,x.D++y.D⟩
theorem partN_sz {leaf:Bool}{x:ND3}{lo hi:Nat}(h:hi≤szN leaf x):szN leaf (partN leaf x lo hi)=hi-lo:=by
 cases leaf
 ·exact cutL_len x.D lo hi h
 ·exact cutL_len x.E lo hi h
theorem partN_ok {leaf:Bool}{x:ND3}{lo hi:Nat}(hx:okN leaf x)(h:hi≤szN leaf x):okN leaf (partN leaf x lo hi):=by
 cases leaf
 ·have h2:hi≤x.D.length:=h
  have h3:x.K.length=x.D.length:=hx.2
  exact⟨rfl,by show (cutL x.K lo hi).length=(cutL x.D lo hi).length;rw [cutL_len _ _ _ (by omega),cutL_len _ _ _ h2]⟩
 ·exact⟨rfl,rfl⟩
theorem cutL_all {α:Type}(l:List α):cutL l 0 l.length=l:=by
 unfold cutL
 rw [List.drop_zero,Nat.sub_zero,List.take_length]
theorem cutL_app {α:Type}(l:List α)(m:Nat)(h:m≤l.length):cutL l 0 m++cutL l m l.length=l:=by
 unfold cutL
 rw [List.drop_zero,Nat.sub_zero,List.take_of_length_le (l:=l.drop m) (by rw [lDp];omega),List.take_append_drop]
theorem partN_all {leaf:Bool}{x:ND3}(hx:okN leaf x):partN leaf x 0 (szN leaf x)=x:=by
 obtain⟨E,K,D⟩:=x
 cases leaf
 ·obtain⟨h1,h2⟩:=hx
  simp only at h1 h2
  subst h1
  show ND3.mk [] (cutL K 0 D.length) (cutL D 0 D.length)=_
  rw [cutL_all, ←h2,cutL_all]
 ·obtain⟨h1,h2⟩:=hx
  simp only at h1 h2
  subst h1;subst h2
  show ND3.mk (cutL E 0 E.length) [] [] =_
  rw [cutL_all]
theorem partN_app {leaf:Bool}{x:ND3}(hx:okN leaf x)(m:Nat)(h:m≤szN leaf x):appN (partN leaf x 0 m) (partN leaf x m (szN leaf x))=x:=by
 obtain⟨E,K,D⟩:=x
 cases leaf
 ·obtain⟨h1,h2⟩:=hx
  simp only at h1 h2
  subst h1
  have h':m≤D.length:=h
  show ND3.mk ([] ++ []) (cutL K 0 m++cutL K m D.length) (cutL D 0 m++cutL D m D.length)=_
  rw [cutL_app D m h', ←h2,cutL_app K m (by omega)]
  rfl
 ·obtain⟨h1,h2⟩:=hx
  simp only at h1 h2
  subst h1;subst h2
  have h':m≤E.length:=h
  show ND3.mk (cutL E 0 m++cutL E m E.length) ([] ++ []) ([] ++ [])=_
  rw [cutL_app E m h']
  rfl
def mostN (leaf:Bool):Nat:=if leaf then 7 else 16
def splN (leaf:Bool):Nat→ND3→List ND3
 | 0,_=> []
 | f+1,x=>if szN leaf x=0 then [] else if szN leaf x≤mostN leaf then [partN leaf x 0 (szN leaf x)] else
   splN leaf f (partN leaf x 0 ((szN leaf x+1)/2))++splN leaf f (partN leaf x ((szN leaf x+1)/2) (szN leaf x))
def joinN:List ND3→ND3
 | [] =>⟨[], [], []⟩
 | x::l=>appN x (joinN l)
theorem appN_nil (x:ND3):appN x ⟨[], [], []⟩=x:=by simp [appN]
theorem appN_assoc (x y z:ND3):appN (appN x y) z=appN x (appN y z):=by simp [appN]
theorem joinN_app: ∀a b:List ND3,joinN (a++b)=appN (joinN a) (joinN b)
 | [],b=>by simp [joinN,appN]
 | x::a,b=>by rw [cAp,joinN,joinN,joinN_app a b,appN_assoc]
theorem nil_of {leaf:Bool}{x:ND3}(hx:okN leaf x)(h:szN leaf x=0):x=⟨[], [], []⟩:=by
 obtain⟨E,K,D⟩:=x
 cases leaf
 ·obtain⟨h1,h2⟩:=hx
  have h3:D.length=0:=h
  simp only at h1 h2
  rw [h1,List.eq_nil_of_length_eq_zero h3,List.eq_nil_of_length_eq_zero (show K.length=0 by omega)]
 ·obtain⟨h1,h2⟩:=hx
  have h3:E.length=0:=h
  simp only at h1 h2
  rw [h1,h2,List.eq_nil_of_length_eq_zero h3]
theorem most_pos (leaf:Bool):7≤mostN leaf:=by cases leaf<;>decide
theorem splN_join {leaf:Bool}: ∀(f:Nat) (x:ND3),okN leaf x→szN leaf x≤f→joinN (splN leaf f x)=x
 | 0,x,hx,h=>by rw [splN,joinN,nil_of hx (by omega)]
 | f+1,x,hx,h=>by
  have hm:=most_pos leaf
  rw [splN]
  split
  ·rename_i h0
   rw [joinN,nil_of hx h0]
  ·rename_i h0
   split
   ·rw [joinN,joinN,appN_nil,partN_all hx]
   ·rename_i h1
    have a1:(szN leaf x+1)/2≤szN leaf x:=by omega
    have s1:=partN_sz (leaf:=leaf) (x:=x) (lo:=0) a1
    have s2:=partN_sz (leaf:=leaf) (x:=x) (lo:=(szN leaf x+1)/2) (Nat.le_refl _)
    rw [joinN_app,splN_join f _ (partN_ok hx a1) (by omega),splN_join f _ (partN_ok hx (Nat.le_refl _)) (by omega),partN_app hx _ a1]
theorem splN_sz {leaf:Bool}: ∀(f:Nat) (x:ND3),okN leaf x→ ∀y∈splN leaf f x,okN leaf y∧1≤szN leaf y∧szN leaf y≤mostN leaf∧(mostN leaf<szN leaf x→mostN leaf≤2*szN leaf y)
 | 0,x,hx,y,hy=>by cases hy
 | f+1,x,hx,y,hy=>by
  have hm:=most_pos leaf
  rw [splN] at hy
  split at hy
  ·cases hy
  ·rename_i h0
   split at hy
   ·rename_i h1
    simp only [List.mem_singleton] at hy
    subst hy
    have s1:=partN_sz (leaf:=leaf) (x:=x) (lo:=0) (Nat.le_refl (szN leaf x))
    exact⟨partN_ok hx (Nat.le_refl _),by omega,by omega,fun c=>by omega⟩
   ·rename_i h1
    have a1:(szN leaf x+1)/2≤szN leaf x:=by omega
    have s1:=partN_sz (leaf:=leaf) (x:=x) (lo:=0) a1
    have s2:=partN_sz (leaf:=leaf) (x:=x) (lo:=(szN leaf x+1)/2) (Nat.le_refl _)
    have key: ∀(p:ND3),okN leaf p→y∈splN leaf f p→mostN leaf≤2*szN leaf p→okN leaf y∧1≤szN leaf y∧szN leaf y≤mostN leaf∧mostN leaf≤2*szN leaf y:=by
     intro p hp hyp hsz
     obtain⟨k1,k2,k3,k4⟩:=splN_sz f p hp y hyp
     refine⟨k1,k2,k3, ?_⟩
     by_cases hc:mostN leaf<szN leaf p
     ·exact k4 hc
     ·cases f with
      | zero=>cases hyp
      | succ f=>
       rw [splN,if_neg (by omega),if_pos (by omega)] at hyp
       simp only [List.mem_singleton] at hyp
       rw [hyp,partN_sz (Nat.le_refl _)]
       omega
    rcases List.mem_append.1 hy with hy | hy
    ·obtain⟨k1,k2,k3,k4⟩:=key _ (partN_ok hx a1) hy (by omega)
     exact⟨k1,k2,k3,fun _=>k4⟩
    ·obtain⟨k1,k2,k3,k4⟩:=key _ (partN_ok hx (Nat.le_refl _)) hy (by omega)
     exact⟨k1,k2,k3,fun _=>k4⟩
def NDL (leaf:Bool)(VS:List (Value×Value×Value)):List Value:=VS.flatMap fun v=>ndLL leaf v.1 v.2.1 v.2.2
def RDS:List (Value×Value×Value)→List ND3→List (Value×Nat×List Value)
 | v::VS,x::xs=>(v.1,x.E.length,EL x.E)::(v.2.1,x.K.length,KL x.K)::(v.2.2,x.D.length,NL x.D)::RDS VS xs
 | _,_=> []
theorem RDS_app: ∀(V1 V2:List (Value×Value×Value)) (x1 x2:List ND3),V1.length=x1.length→RDS (V1++V2) (x1++x2)=RDS V1 x1++RDS V2 x2
 | [],V2, [],x2,_=>rfl
 | v::V1,V2,x::x1,x2,h=>by
  rw [cAp,cAp,RDS,RDS,RDS_app V1 V2 x1 x2 (by simpa using h)]
  rfl
theorem NDL_app (leaf:Bool)(a b:List (Value×Value×Value)):NDL leaf (a++b)=NDL leaf a++NDL leaf b:=by simp [NDL]
theorem NDL_len (leaf:Bool)(a:List (Value×Value×Value)):(NDL leaf a).length=a.length*4:=flat_len (f:=fun v:Value×Value×Value=>ndLL leaf v.1 v.2.1 v.2.2) (fun _=>rfl) a
def ownX (leaf:Bool)(r:Value)(f:Nat)(x:ND3)(H:List Atom):Prop:= ∃VS:List (Value×Value×Value),VS.length=(splN leaf f x).length∧(∀v∈VS, ∃A a B b C c i j k,v=(Value.slice A i a,Value.slice B j b,Value.slice C k c))∧H= [own 125 4 r VS.length (NDL leaf VS),manyRd (RDS VS (splN leaf f x))]
theorem splN_len {leaf:Bool}: ∀(f:Nat) (x:ND3),(splN leaf f x).length≤szN leaf x
 | 0,x=>Nat.zero_le _
 | f+1,x=>by
  have hm:=most_pos leaf
  rw [splN]
  split
  ·exact Nat.zero_le _
  ·split
   ·show 1≤_;omega
   ·have a1:(szN leaf x+1)/2≤szN leaf x:=by omega
    have s1:=partN_sz (leaf:=leaf) (x:=x) (lo:=0) a1
    have s2:=partN_sz (leaf:=leaf) (x:=x) (lo:=(szN leaf x+1)/2) (Nat.le_refl _)
    have q1:=splN_len (leaf:=leaf) f (partN leaf x 0 ((szN leaf x+1)/2))
    have q2:=splN_len (leaf:=leaf) f (partN leaf x ((szN leaf x+1)/2) (szN leaf x))
    rw [lAp];omega
theorem NDL_one {leaf:Bool}{VS:List (Value×Value×Value)}(h: ∀v∈VS, ∃A a B b C c i j k,v=(Value.slice A i a,Value.slice B j b,Value.slice C k c)): ∀y∈NDL leaf VS,y.oneCell'=true:=by
 intro y hy
 obtain⟨v,hv,hyv⟩:=List.mem_flatMap.1 hy
 obtain⟨A,a,B,b,C,c,i,j,k,rfl⟩:=h v hv
 exact ndLL_one leaf A B C i a j b k c y hyv
theorem node_part (leaf:Bool)(ev kv dv:Value)(x:ND3)(lo hi:Nat)(hx:okN leaf x)(h1:lo≤hi)(h2:hi≤szN leaf x)(hb:hi≤5000000):SpecR Tryz.prog 115 #[ndW leaf ev kv dv, .int .i64 (lo:Int), .int .i64 (hi:Int)] (fun w=>ndR w ev kv dv x.E x.K x.D) (fun r H'=> ∃u1 u2 u3,r=ndW leaf u1 u2 u3∧H'=ownN u1 u2 u3 (partN leaf x lo hi).E (partN leaf x lo hi).K (partN leaf x lo hi).D):=by
 cases leaf
 ·exact node_part_inner ev kv dv x.E x.K x.D lo hi h1 h2 hx.2 hb
 ·exact node_part_leaf ev kv dv x.E x.K x.D lo hi h1 h2 hb
theorem node_Split (leaf:Bool): ∀(f:Nat) (x:ND3) (ev kv dv:Value),okN leaf x→szN leaf x≤f→szN leaf x≤4500000→SpecR Tryz.prog 69 #[ndW leaf ev kv dv] (fun w=>ndR w ev kv dv x.E x.K x.D) (fun r H'=>ownX leaf r (f+1) x H'):=by
 intro f
 induction f using Nat.strongRecOn with
 | ind f ih=>
 intro x ev kv dv hx hf hb
 refine SpecR.of (fun w hr=>?_)
 obtain⟨hrE,hrK,hrD⟩:=id hr
 refine Calls.enter Tryz.func69 rfl rfl rfl (St.rebase w) ?_
 simp only [argSlots]
 refine Ws ?_
 (refine Wbx ?_;intro b1)
 refine Ws ?_
 refine Zla (cs:=ndLL leaf ev kv dv) ?_ (hl:=by rfl)
 refine Ws ?_
 refine Zcv (node_Size leaf ev kv dv x.E x.K x.D) ?_ (hpre:=by exact fun w' hw'=>⟨rdw_ex Wp hrE w' hw',rdw_ex Wp hrK w' hw',rdw_ex Wp hrD w' hw'⟩)
 have hsz:sizeN leaf x.E x.D=szN leaf x:=rfl
 rw [hsz]
 obtain⟨n,hn⟩: ∃n,n=szN leaf x:=⟨_,rfl⟩
 rw [←hn] at hf hb ⊢
 refine Wo ?_
 (refine Wme (α:=Unit) (fun _=> [(1, .pointer (some ⟨b1,0,none⟩)),(2, .slice none 0 0),(3, .int .i64 (n:Int)),(4, .int .i64 ((mostN leaf:Nat):Int))]) (fun _=> [blk b1 125 (ndLL leaf ev kv dv),Ex (hp w)]) ?_ ?_;rotate_left;rintro ⟨⟩;(try dsimp only);rotate_left)
 ·cases leaf
  ·refine Ws ?_
   refine Wo ?_
   exact Zrc ()
  ·refine Ws ?_
   refine Wo ?_
   exact Zrc ()
 have hm:=most_pos leaf
 refine Ws ?_
 (refine Wcd ?_ ?_<;>intro h0)
 ·have h0':n=0:=by omega
  have hs:splN leaf (f+1) x= [] :=by rw [splN,if_pos (by omega)]
  refine Ws ?_
  (with_reducible apply Tri.ownNil 125 4)
  (with_reducible apply Tri.noneM)
  refine Zfn [own 125 4 (.slice none 0 0) 0 [],manyRd []] (hq:=?_)
  exact⟨[],(by rw [hs];rfl),(fun v hv=>by cases hv),(by rw [hs];rfl)⟩
 ·refine Ws ?_
  (refine Wcd ?_ ?_<;>intro h1)
  ·have h1':n≤mostN leaf:=by omega
   have hs:splN leaf (f+1) x= [partN leaf x 0 n] :=by rw [splN,if_neg (by omega),if_pos (by omega), ←hn]
   refine Ws ?_
   refine Zla (cs:=ndLL leaf ev kv dv) ?_ (hl:=by rfl)
   refine Ws ?_
   obtain⟨Q,hQ⟩: ∃Q,Q=partN leaf x 0 n:=⟨_,rfl⟩
   have hpart:=node_part leaf ev kv dv x 0 n hx (Nat.zero_le _) (by omega) (by omega)
   rw [←hQ] at hpart hs
   refine Zcr hpart ?_ (hpre:=by exact fun w' hw'=>⟨rdw_ex Wp hrE w' hw',rdw_ex Wp hrK w' hw',rdw_ex Wp hrD w' hw'⟩)
   rintro r1 H1 ⟨u1,u2,u3,rfl,rfl⟩
   simp only [ownN]
   refine Wap ?_
   (refine Tri.shape (e:=40) (size:=8) (v:=u1) Wp ?_;rintro ⟨A1,c1,rfl⟩)
   (refine Tri.shape (e:=38) (size:=2) (v:=u2) Wp ?_;rintro ⟨A2,c2,rfl⟩)
   (refine Tri.shape (e:=3) (size:=1) (v:=u3) Wp ?_;rintro ⟨A3,c3,rfl⟩)
   refine Ws ?_
   (refine Zli (ys:=ndLL leaf (.slice A1 Q.E.length c1) (.slice A2 Q.K.length c2) (.slice A3 Q.D.length c3)) ?_;intro vl)
   refine Ws ?_
   (with_reducible apply Tri.noneM)
   refine Tri.joinS (e:=40) (size:=8) (v:= .slice A1 Q.E.length c1) Wp Wp ?_
   refine Tri.joinS (e:=38) (size:=2) (v:= .slice A2 Q.K.length c2) Wp Wp ?_
   refine Tri.joinS (e:=3) (size:=1) (v:= .slice A3 Q.D.length c3) Wp Wp ?_
   refine Zat (own 125 4 vl _ _) (own 125 4 vl 1 (NDL leaf [(.slice A1 Q.E.length c1, .slice A2 Q.K.length c2, .slice A3 Q.D.length c3)])) ?_
   refine Zfn [own 125 4 vl 1 (NDL leaf [(.slice A1 Q.E.length c1, .slice A2 Q.K.length c2, .slice A3 Q.D.length c3)]),manyRd ([] ++ [(.slice A1 Q.E.length c1,Q.E.length,EL Q.E)] ++ [(.slice A2 Q.K.length c2,Q.K.length,KL Q.K)] ++ [(.slice A3 Q.D.length c3,Q.D.length,NL Q.D)])] (hq:=?_)
   exact⟨[(.slice A1 Q.E.length c1, .slice A2 Q.K.length c2, .slice A3 Q.D.length c3)],(by rw [hs];rfl),(fun v hv=>by rw [List.mem_singleton.1 hv];exact⟨_,_,_,_,_,_,_,_,_,rfl⟩),(by rw [hs];rfl)⟩
  ·refine Ws ?_
   have hn1:mostN leaf<n:=by omega
   obtain⟨m,rfl⟩: ∃m,f=m+1:=⟨f-1,by omega⟩
   obtain⟨hh,hhd⟩: ∃hh,hh=(n+1)/2:=⟨_,rfl⟩
   have hs:splN leaf (m+1+1) x=splN leaf (m+1) (partN leaf x 0 hh)++splN leaf (m+1) (partN leaf x hh n):=by rw [splN,if_neg (by omega),if_neg (by omega),hhd,hn]
   have z1:szN leaf (partN leaf x 0 hh)=hh-0:=partN_sz (by omega)
   have z2:szN leaf (partN leaf x hh n)=n-hh:=partN_sz (by omega)
   have o1:okN leaf (partN leaf x 0 hh):=partN_ok hx (by omega)
   have o2:okN leaf (partN leaf x hh n):=partN_ok hx (by omega)
   have hpart1:=node_part leaf ev kv dv x 0 hh hx (Nat.zero_le _) (by omega) (by omega)
   have hpart2:=node_part leaf ev kv dv x hh n hx (by omega) (by omega) (by omega)
   have b1':=splN_len (leaf:=leaf) (m+1) (partN leaf x 0 hh)
   have b2':=splN_len (leaf:=leaf) (m+1) (partN leaf x hh n)
   have ih1:=fun e k d=>ih m (by omega) (partN leaf x 0 hh) e k d o1 (by omega) (by omega)
   have ih2:=fun e k d=>ih m (by omega) (partN leaf x hh n) e k d o2 (by omega) (by omega)
   obtain⟨Q1,hQ1⟩: ∃Q,Q=partN leaf x 0 hh:=⟨_,rfl⟩
   obtain⟨Q2,hQ2⟩: ∃Q,Q=partN leaf x hh n:=⟨_,rfl⟩
   rw [←hQ1] at hpart1 hs b1' ih1 z1
   rw [←hQ2] at hpart2 hs b2' ih2 z2
   refine Zi 5 (hh:Int) ?_ (hi:=by omega)
   refine Wm [blk b1 125 (ndLL leaf ev kv dv),Ex (hp w)] ?_
   refine Zm 0 (h:=fun _ _ qK=>by exact Zla (cs:=ndLL leaf ev kv dv) qK (hl:=by rfl)) (k:=?_)
   refine Wq [1] ?_
   refine Zm 4 (h:=fun _ _ qK=>by exact Zla (cs:=ndLL leaf ev kv dv) qK (hl:=by rfl)) (k:=?_)
   refine Wq [5,6] ?_
   refine ZA 2 ?_
   refine Zcr hpart1 ?_ (hpre:=by exact fun w' hw'=>⟨rdw_ex Wp hrE w' hw',rdw_ex Wp hrK w' hw',rdw_ex Wp hrD w' hw'⟩)
   rintro r1 H1 ⟨u1,u2,u3,rfl,rfl⟩
   simp only [ownN]
   refine Wap ?_
   refine Zw ?_
   refine ZA 3 ?_
   refine Zcr (ih1 u1 u2 u3) ?_ (hpre:=by exact fun w' hw'=>⟨rdw_own (v:=u1) Wp w' hw',rdw_own (v:=u2) Wp w' hw',rdw_own (v:=u3) Wp w' hw'⟩)
   rintro r2 H2 ⟨V1,hV1,hW1,rfl⟩
   refine Wap ?_
   refine Zw ?_
   refine ZA 7 ?_
   refine Zcr hpart2 ?_ (hpre:=by exact fun w' hw'=>⟨rdw_ex Wp hrE w' hw',rdw_ex Wp hrK w' hw',rdw_ex Wp hrD w' hw'⟩)
   rintro r3 H3 ⟨u4,u5,u6,rfl,rfl⟩
   simp only [ownN]
   refine Wap ?_
   refine Zw ?_
   refine ZA 8 ?_
   refine Zcr (ih2 u4 u5 u6) ?_ (hpre:=by exact fun w' hw'=>⟨rdw_own (v:=u4) Wp w' hw',rdw_own (v:=u5) Wp w' hw',rdw_own (v:=u6) Wp w' hw'⟩)
   rintro r4 H4 ⟨V2,hV2,hW2,rfl⟩
   refine Wap ?_
   refine Zw ?_
   refine ZA 9 ?_
   refine Zap ?_ (hr:=by exact rdw_own (v:=r4) Wp) (hl:=by exact NDL_len leaf V2) (h1:=by exact NDL_one hW2)
   intro r5
   refine Zw ?_
   refine Wq [10] ?_
   refine ZE ?_
   refine Ws ?_
   refine Tri.joinM (l1:=RDS V1 (splN leaf (m+1) Q1)) (l2:=RDS V2 (splN leaf (m+1) Q2)) Wp Wp ?_
   refine Zat (own 125 4 r5 _ _) (own 125 4 r5 (V1++V2).length (NDL leaf (V1++V2))) ?_ (e:=by rw [lAp,NDL_app])
   refine Zfn [own 125 4 r5 (V1++V2).length (NDL leaf (V1++V2)),manyRd (RDS V1 (splN leaf (m+1) Q1)++RDS V2 (splN leaf (m+1) Q2))] (hq:=?_)
   exact⟨V1++V2,(by rw [hs,lAp,lAp,hV1,hV2]),(fun v hv=>by rcases List.mem_append.1 hv with q | q;exact hW1 v q;exact hW2 v q),(by rw [hs,RDS_app _ _ _ _ hV1];rfl)⟩
theorem rds_at: ∀(VS:List (Value×Value×Value)) (xs:List ND3) (i:Nat) (v:Value×Value×Value) (y:ND3),VS[i]? =some v→xs[i]? =some y→
  (v.1,y.E.length,EL y.E)∈RDS VS xs∧(v.2.1,y.K.length,KL y.K)∈RDS VS xs∧(v.2.2,y.D.length,NL y.D)∈RDS VS xs
 | [],_,_,_,_,h,_=>by simp at h
 | _::_, [],_,_,_,_,h=>by simp at h
 | u::VS,x::xs,0,v,y,h1,h2=>by
  simp at h1 h2
  subst h1;subst h2
  exact⟨.head _, .tail _ (.head _), .tail _ (.tail _ (.head _))⟩
 | u::VS,x::xs,i+1,v,y,h1,h2=>by
  obtain⟨a,b,c⟩:=rds_at VS xs i v y (by simpa using h1) (by simpa using h2)
  exact⟨.tail _ (.tail _ (.tail _ a)), .tail _ (.tail _ (.tail _ b)), .tail _ (.tail _ (.tail _ c))⟩
theorem NDL_at {leaf:Bool}: ∀(VS:List (Value×Value×Value)) (i:Nat) (v:Value×Value×Value),VS[i]? =some v→((NDL leaf VS).drop (i*4)).take 4=ndLL leaf v.1 v.2.1 v.2.2
 | [],_,_,h=>by simp at h
 | u::VS,0,v,h=>by simp at h;subst h;rfl
 | u::VS,i+1,v,h=>by
  have:(NDL leaf (u::VS)).drop ((i+1)*4)=(NDL leaf VS).drop (i*4):=by
   show (ndLL leaf u.1 u.2.1 u.2.2++NDL leaf VS).drop ((i+1)*4)=_
   rw [show (i+1)*4=(ndLL leaf u.1 u.2.1 u.2.2).length+i*4 by show _=4+_;omega,List.drop_append,Nat.add_sub_cancel_left,List.drop_eq_nil_of_le (by omega),nAp]
  rw [this]
  exact NDL_at VS i v (by simpa using h)
theorem joinN_take {xs:List ND3}{i:Nat}{y:ND3}(h:xs[i]? =some y):joinN (xs.take (i+1))=appN (joinN (xs.take i)) y:=by
 rw [List.take_add_one,h,joinN_app]
 show appN _ (appN y ⟨[], [], []⟩)=_
 rw [appN_nil]
theorem joinN_split (xs:List ND3)(i:Nat):appN (joinN (xs.take i)) (joinN (xs.drop i))=joinN xs:=by
 rw [←joinN_app,List.take_append_drop]
def upN (leaf:Bool)(y X:ND3):Prop:=(if leaf then y.K= [] ∧y.D= [] else y.E= [])∧y.E.length≤X.E.length∧y.K.length≤X.K.length∧y.D.length≤X.D.length
theorem up_take {leaf:Bool}{xs:List ND3}{X:ND3}(hX:joinN xs=X)(hok:okN leaf X)(i:Nat):upN leaf (joinN (xs.take i)) X:=by
 have h:=joinN_split xs i
 rw [hX] at h
 generalize joinN (xs.take i)=y at*
 generalize joinN (xs.drop i)=z at*
 obtain⟨yE,yK,yD⟩:=y
 obtain⟨zE,zK,zD⟩:=z
 subst h
 simp only [appN] at hok ⊢
 refine⟨?_,by simp,by simp,by simp⟩
 cases leaf
 ·obtain⟨h1,_⟩:=hok
  simp only [List.append_eq_nil_iff] at h1
  exact h1.1
 ·obtain⟨h1,h2⟩:=hok
  simp only [List.append_eq_nil_iff] at h1 h2
  exact⟨h1.1,h2.1⟩
theorem node_JoinU (leaf:Bool)(ev kv dv ev2 kv2 dv2:Value)(x y X:ND3)(hu:upN leaf (appN x y) X)(h1:X.E.length≤5000000)(h2:X.K.length≤5000000)(h3:X.D.length≤5000000):
  SpecR Tryz.prog 148 #[ndW leaf ev kv dv,ndW leaf ev2 kv2 dv2] (fun w=>ndR w ev kv dv x.E x.K x.D∧ndR w ev2 kv2 dv2 y.E y.K y.D) (fun r H'=> ∃u1 u2 u3,r=ndW leaf u1 u2 u3∧H'=ownN u1 u2 u3 (appN x y).E (appN x y).K (appN x y).D):=by
 obtain⟨hu,l1,l2,l3⟩:=hu
 have e1:(appN x y).E.length=x.E.length+y.E.length:=lAp
 have e2:(appN x y).K.length=x.K.length+y.K.length:=lAp
 have e3:(appN x y).D.length=x.D.length+y.D.length:=lAp
 cases leaf
 ·have hE:(appN x y).E= [] :=hu
  rw [hE]
  exact node_Join_inner ev kv dv ev2 kv2 dv2 x.E y.E x.K y.K x.D y.D (by omega) (by omega)
 ·obtain⟨hK,hD⟩:=hu
  rw [hK,hD]
  exact node_Join_leaf ev kv dv ev2 kv2 dv2 x.E y.E x.K y.K x.D y.D (by omega)
theorem ndR_at {w0:World}{H H1:List Atom}{VS:List (Value×Value×Value)}{xs:List ND3}{i:Nat}{v:Value×Value×Value}{y:ND3}(p:Pull H (manyRd (RDS VS xs)) H1)(h1:VS[i]? =some v)(h2:xs[i]? =some y): ∀w,St w0 w H→ndR w v.1 v.2.1 v.2.2 y.E y.K y.D:=fun w hw=>
 have q:=rds_at VS xs i v y h1 h2
 ⟨rdw_many p q.1 w hw,rdw_many p q.2.1 w hw,rdw_many p q.2.2 w hw⟩
theorem ndR_many {w0:World}{H H1:List Atom}{ev kv dv:Value}{E:List ENT}{K:List KEY}{D:List Int}(p:Pull H (manyRd [(ev,E.length,EL E),(kv,K.length,KL K),(dv,D.length,NL D)]) H1): ∀w,St w0 w H→ndR w ev kv dv E K D:=fun w hw=>
 ⟨rdw_many p (.head _) w hw,rdw_many p (.tail _ (.head _)) w hw,rdw_many p (.tail _ (.tail _ (.head _))) w hw⟩
structure VS where
 S:DS
 gen:Nat
 m:BM
 old:BM
def kindN (leaf:Bool):UInt8:=if leaf then 76 else 73
def rdN (S:DS)(a:Int)(leaf:Bool):GOT:=if(rdPg S a (kindN leaf)).2=0 then getN leaf (rdPg S a (kindN leaf)).1.b else⟨false, [], [], [],(rdPg S a (kindN leaf)).2⟩
def wrN (v:VS)(leaf:Bool)(x:ND3):VS×Int×Nat:=
 if rightN leaf x.E x.K x.D=false then(v,0,1)
 else if(takeM v.m v.old 1).2.2≠0 then(v,0,(takeM v.m v.old 1).2.2)
 else(⟨(wrPg v.S ⟨kindN leaf,(takeM v.m v.old 1).2.1,v.gen,putN leaf x.E x.K x.D⟩).1,v.gen,(takeM v.m v.old 1).1,v.old⟩,(takeM v.m v.old 1).2.1,(wrPg v.S ⟨kindN leaf,(takeM v.m v.old 1).2.1,v.gen,putN leaf x.E x.K x.D⟩).2)
structure VS.ok (v:VS):Prop where
 S:v.S.ok
 g:v.gen<18446744073709551616
 m:v.m.u.length=512
 o:v.old.u.length=512
def viewL (d:Nat)(v:VS):List Value:=tabL++(.pointer (some ⟨d,0,none⟩):: .int .u64 (v.gen:Int)::(bmL v.m++bmL v.old))
theorem bmL_len {m:BM}(h:m.u.length=512):(bmL m).length=513:=by simp [bmL,h]
theorem viewL_len {d:Nat}{v:VS}(h:v.ok):(viewL d v).length=1284:=by
 simp only [viewL,lAp,lCn,tabL_length,bmL_len h.m,bmL_len h.o]
theorem viewL_tab (d:Nat)(v:VS):((viewL d v).drop (0+0)).take 256=tabL:=by
 rw [List.drop_zero,viewL,List.take_left' tabL_length]
theorem viewL_at {d:Nat}{v:VS}(i:Nat):(viewL d v)[256+i]? =(Value.pointer (some ⟨d,0,none⟩):: .int .u64 (v.gen:Int)::(bmL v.m++bmL v.old))[i]? :=by
 rw [viewL,List.getElem?_append_right (by rw [tabL_length];omega),tabL_length,Nat.add_sub_cancel_left]
theorem viewL_d (d:Nat)(v:VS):(viewL d v)[0+256]? =some (.pointer (some ⟨d,0,none⟩)):=viewL_at 0
theorem viewL_g (d:Nat)(v:VS):(viewL d v)[0+257]? =some (.int .u64 (v.gen:Int)):=viewL_at 1
theorem viewL_drop (d:Nat)(v:VS)(i:Nat):(viewL d v).drop (256+i)=(Value.pointer (some ⟨d,0,none⟩):: .int .u64 (v.gen:Int)::(bmL v.m++bmL v.old)).drop i:=by
 rw [viewL,List.drop_append,List.drop_eq_nil_of_le (by rw [tabL_length];omega),tabL_length,Nat.add_sub_cancel_left,nAp]
theorem viewL_m {d:Nat}{v:VS}(h:v.ok):((viewL d v).drop (0+258)).take 513=bmL v.m:=by
 rw [show 0+258=256+2 by omega,viewL_drop]
 show (bmL v.m++bmL v.old).take 513=_
 rw [List.take_left' (bmL_len h.m)]
theorem viewL_o {d:Nat}{v:VS}(h:v.ok):((viewL d v).drop (0+771)).take 513=bmL v.old:=by
 rw [show 0+771=256+(2+513) by omega,viewL_drop]
 show ((bmL v.m++bmL v.old).drop 513).take 513=_
 rw [List.drop_append,List.drop_eq_nil_of_le (by rw [bmL_len h.m];omega),bmL_len h.m,Nat.sub_self,List.drop_zero,nAp,List.take_of_length_le (by rw [bmL_len h.o];omega)]
theorem viewL_set {d:Nat}{v:VS}(h:v.ok)(m':BM)(S':DS):(viewL d v).take (0+258)++bmL m'++(viewL d v).drop (0+258+513)=viewL d ⟨S',v.gen,m',v.old⟩:=by
 have e1:(viewL d v).take (0+258)=tabL++ [.pointer (some ⟨d,0,none⟩), .int .u64 (v.gen:Int)] :=by
  rw [viewL,List.take_append,tabL_length,List.take_of_length_le (by rw [tabL_length];omega)]
  rfl
 have e2:(viewL d v).drop (0+258+513)=bmL v.old:=by
  rw [show 0+258+513=256+(2+513) by omega,viewL_drop]
  show (bmL v.m++bmL v.old).drop 513=_
  rw [List.drop_append,List.drop_eq_nil_of_le (by rw [bmL_len h.m];omega),bmL_len h.m,Nat.sub_self,List.drop_zero,nAp]
 rw [e1,e2,viewL]
 simp only [aAs,cAp,nAp]
theorem wrPg_ok {S:DS}(h:S.ok)(q:PG):(wrPg S q).1.ok:=by
 rw [wrPg];split
 ·exact DS.wrs_ok _ _ h
 ·exact h
theorem wrN_ok {v:VS}(h:v.ok)(leaf:Bool)(x:ND3):(wrN v leaf x).1.ok:=by
 rw [wrN];split
 ·exact h
 ·split
  ·exact h
  ·exact⟨wrPg_ok h.S _,h.g,takeM_length _ _ _ h.m,h.o⟩
theorem wrPg_len (S:DS)(q:PG):(wrPg S q).1.W.length≤S.W.length+4:=by
 rw [wrPg];split
 ·have:=(DS.wrs_len (secs (putP q) 4) S (q.a*4)).1
  rw [secs_length] at this
  exact this
 ·exact Nat.le_add_right _ _
theorem wrN_len (v:VS)(leaf:Bool)(x:ND3):(wrN v leaf x).1.S.W.length≤v.S.W.length+4:=by
 rw [wrN];split
 ·exact Nat.le_add_right _ _
 ·split
  ·exact Nat.le_add_right _ _
  ·exact wrPg_len _ _
def unGo (leaf:Bool):VS→List ND3→VS×List Int×Nat
 | v, [] =>(v, [],0)
 | v,x::xs=>if(wrN v leaf x).2.2≠0 then((wrN v leaf x).1, [],(wrN v leaf x).2.2)
  else((unGo leaf (wrN v leaf x).1 xs).1,(wrN v leaf x).2.1::(unGo leaf (wrN v leaf x).1 xs).2.1,(unGo leaf (wrN v leaf x).1 xs).2.2)
def least3 (leaf:Bool)(x:ND3):KEY:=leastN leaf x.E x.K
theorem unGo_snoc (leaf:Bool): ∀(xs:List ND3) (v:VS) (x:ND3),(unGo leaf v xs).2.2=0→
  (unGo leaf v (xs++ [x])).1=(wrN (unGo leaf v xs).1 leaf x).1∧(unGo leaf v (xs++ [x])).2.2=(wrN (unGo leaf v xs).1 leaf x).2.2∧
  ((wrN (unGo leaf v xs).1 leaf x).2.2=0→(unGo leaf v (xs++ [x])).2.1=(unGo leaf v xs).2.1++ [(wrN (unGo leaf v xs).1 leaf x).2.1])
 | [],v,x,_=>by
  simp only [nAp,unGo]
  split
  ·rename_i h;exact⟨rfl,rfl,fun q=>absurd q h⟩
  ·rename_i h
   have h':(wrN v leaf x).2.2=0:=by omega
   exact⟨rfl,h'.symm,fun _=>rfl⟩
 | y::xs,v,x,h=>by
  rw [unGo] at h
  split at h
  ·rename_i q;exact absurd h q
  ·rename_i q
   obtain⟨h1,h2,h3⟩:=unGo_snoc leaf xs (wrN v leaf y).1 x h
   have e:unGo leaf v (y::xs)=((unGo leaf (wrN v leaf y).1 xs).1,(wrN v leaf y).2.1::(unGo leaf (wrN v leaf y).1 xs).2.1,(unGo leaf (wrN v leaf y).1 xs).2.2):=by rw [unGo,if_neg q]
   have e2:unGo leaf v (y::xs++ [x])=((unGo leaf (wrN v leaf y).1 (xs++ [x])).1,(wrN v leaf y).2.1::(unGo leaf (wrN v leaf y).1 (xs++ [x])).2.1,(unGo leaf (wrN v leaf y).1 (xs++ [x])).2.2):=by rw [cAp,unGo,if_neg q]
   rw [e,e2]
   exact⟨h1,h2,fun q=>by show _::_=_::_++_;rw [h3 q];rfl⟩
theorem unGo_stop (leaf:Bool): ∀(xs:List ND3) (v:VS) (zs:List ND3),(unGo leaf v xs).2.2≠0→unGo leaf v (xs++zs)=unGo leaf v xs
 | [],v,zs,h=>absurd rfl h
 | y::xs,v,zs,h=>by
  rw [unGo] at h
  rw [cAp,unGo,unGo]
  split at h
  ·rename_i q;rw [if_pos q,if_pos q]
  ·rename_i q;rw [if_neg q,if_neg q,unGo_stop leaf xs _ zs h]
theorem unGo_ok (leaf:Bool): ∀(xs:List ND3) {v:VS},v.ok→(unGo leaf v xs).1.ok
 | [],v,h=>h
 | x::xs,v,h=>by
  rw [unGo];split
  ·exact wrN_ok h leaf x
  ·exact unGo_ok leaf xs (wrN_ok h leaf x)
theorem unGo_len (leaf:Bool): ∀(xs:List ND3) (v:VS),(unGo leaf v xs).1.S.W.length≤v.S.W.length+4*xs.length
 | [],v=>Nat.le_add_right _ _
 | x::xs,v=>by
  have h1:=wrN_len v leaf x
  have h2:=unGo_len leaf xs (wrN v leaf x).1
  have e:(x::xs).length=xs.length+1:=rfl
  rw [unGo,e];split
  ·show (wrN v leaf x).1.S.W.length≤_;omega
  ·show (unGo leaf (wrN v leaf x).1 xs).1.S.W.length≤_;omega
theorem unGo_cnt (leaf:Bool): ∀(xs:List ND3) (v:VS),(unGo leaf v xs).2.2=0→(unGo leaf v xs).2.1.length=xs.length
 | [],v,_=>rfl
 | x::xs,v,h=>by
  rw [unGo] at h ⊢
  split at h
  ·rename_i q;exact absurd h q
  ·rename_i q
   rw [if_neg q]
   show (_::_).length=_
   rw [lCn,unGo_cnt leaf xs _ h];rfl
def unN (leaf:Bool)(v:VS)(xs:List ND3):VS×ND3×Nat:=
 ((unGo leaf v xs).1,if(unGo leaf v xs).2.2=0 then⟨[],xs.map (least3 leaf),(unGo leaf v xs).2.1⟩ else⟨[], [], []⟩,(unGo leaf v xs).2.2)
theorem unN_cnt {leaf:Bool}{v:VS}{xs:List ND3}(h:(unN leaf v xs).2.2=0):(unN leaf v xs).2.1.E= [] ∧(unN leaf v xs).2.1.K.length=xs.length∧(unN leaf v xs).2.1.D.length=xs.length:=by
 have h':(unGo leaf v xs).2.2=0:=h
 simp only [unN,if_pos h']
 exact⟨trivial,List.length_map _,unGo_cnt leaf xs v h'⟩
def chN (x:ND3)(j:Nat):ND3:=⟨[],cutL x.K (j*16) (min (j*16+16) x.D.length),cutL x.D (j*16) (min (j*16+16) x.D.length)⟩
def chunkN (x:ND3):List ND3:=(List.range ((x.D.length+15)/16)).map (chN x)
theorem chunkN_length (x:ND3):(chunkN x).length=(x.D.length+15)/16:=by simp [chunkN]
def finN (leaf:Bool)(v:VS)(xs:List ND3)(h:Nat):VS×(Int×Nat)×Nat:=
 if 5<h then(v,(0,0),5) else((wrN v leaf (xs.getD 0 ⟨[], [], []⟩)).1,((wrN v leaf (xs.getD 0 ⟨[], [], []⟩)).2.1,h),(wrN v leaf (xs.getD 0 ⟨[], [], []⟩)).2.2)
def stN:Nat→Bool→VS→List ND3→Nat→VS×(Int×Nat)×Nat
 | 0,leaf,v,xs,h=>finN leaf v xs h
 | f+1,leaf,v,xs,h=>if xs.length≤1 then finN leaf v xs h
  else if(unN leaf v xs).2.2≠0 then((unN leaf v xs).1,(0,0),(unN leaf v xs).2.2)
  else stN f false (unN leaf v xs).1 (chunkN (unN leaf v xs).2.1) (h+1)
def meetsE (a b:ENT):Bool:=decide (a.key.1=b.key.1) && (decide (a.key.2≤b.fin) && decide (b.key.2≤a.fin))
def loadOk (l:List ENT):Prop:=(∀i,i<l.length→entOk (l.getD i ent0)=true)∧(∀i,0<i→i<l.length→lessK (l.getD (i-1) ent0).key (l.getD i ent0).key=true∧meetsE (l.getD (i-1) ent0) (l.getD i ent0)=false)∧ ∀e∈l,entR e
theorem one_right {e:ENT}(h:entOk e=true):rightN true [e] [] [] =true:=by
 have h1:entAt [e] 0=true:=by
  show (entOk e && (decide (0=0) || _))=true
  rw [h];rfl
 have h2:entsTo [e] 1=true:=by
  show (entsTo [e] 0 && entAt [e] 0)=true
  rw [h1];rfl
 show (decide (([] :List KEY).length=0) && (decide (([] :List Int).length=0) && (entsTo [e] 1 && betw 1 1 7)))=true
 rw [h2];rfl
theorem bm_Give (m:BM)(at_ n:Int)(hm:m.u.length=512):SpecR Tryz.prog 83 #[bmV m, .int .i64 at_, .int .i64 n] (fun _=>True) (fun r H'=>r= .tuple #[bmV (giveM m at_ n).1, .int .i64 ((giveM m at_ n).2:Int)] ∧H'= []):=by
 refine SpecR.of (fun w _=>?_)
 refine Calls.enter Tryz.func83 rfl rfl rfl (St.rebase w) ?_
 simp only [argSlots]
 refine Ws ?_
 (refine Wbx ?_;intro bm)
 refine Ws ?_
 refine Zal fun br=>?_
 refine Ws ?_
 refine Zla ?_ (hl:=by exact bmL_length m hm)
 refine Ws ?_
 refine Zcv (bm_Right m hm) ?_
 refine Ws ?_
 (refine ZcB 12 ?_ ?_<;>intro h1)
 ·refine Ws ?_
  refine ZSa ?_ (hl:=by exact z513) (hc:=by exact z513) (h1:=by exact z_one)
  refine Ws ?_
  exact Zfr (h:=ResL.cons (Zra z513) (ResL.cons (Res1.tmp rfl) (ResL.nil))) (hq:=by simp only [tupled];(rw [giveM,h1];simp only [Bool.true_or,if_true];rw [bmV_zero];rfl))
 ·refine Ws ?_
  (refine ZcB 16 ?_ ?_<;>intro h2)
  ·refine Ws ?_
   refine ZSa ?_ (hl:=by exact z513) (hc:=by exact z513) (h1:=by exact z_one)
   refine Ws ?_
   exact Zfr (h:=ResL.cons (Zra z513) (ResL.cons (Res1.tmp rfl) (ResL.nil))) (hq:=by simp only [tupled];(rw [giveM,h1,h2];simp only [Bool.true_or,Bool.false_or,if_true];rw [bmV_zero];rfl))
  ·refine Ws ?_
   (refine ZcB 20 ?_ ?_<;>intro h3)
   ·refine Ws ?_
    refine ZSa ?_ (hl:=by exact z513) (hc:=by exact z513) (h1:=by exact z_one)
    refine Ws ?_
    exact Zfr (h:=ResL.cons (Zra z513) (ResL.cons (Res1.tmp rfl) (ResL.nil))) (hq:=by simp only [tupled];(rw [giveM,h1,h2,h3];simp only [Bool.true_or,Bool.false_or,if_true];rw [bmV_zero];rfl))
   ·refine Ws ?_
    (refine ZcB 26 ?_ ?_<;>intro h4)
    ·refine Ws ?_
     refine ZSa ?_ (hl:=by exact z513) (hc:=by exact z513) (h1:=by exact z_one)
     refine Ws ?_
     exact Zfr (h:=ResL.cons (Zra z513) (ResL.cons (Res1.tmp rfl) (ResL.nil))) (hq:=by simp only [tupled];(rw [giveM,h1,h2,h3,h4];simp only [Bool.true_or,Bool.false_or,if_true];rw [bmV_zero];rfl))
    ·have hr:=rightM_spec (m:=m) (by cases hq:rightM m<;>simp [hq] at h1 ⊢)
     have h2':=of_decide_eq_false h2
     have h3':=of_decide_eq_false h3
     have h4':=of_decide_eq_false h4
     refine Ws ?_
     (refine Wcb ?_ ?_<;>intro h5)
     ·refine Ws ?_
      refine ZSa ?_ (hl:=by exact z513) (hc:=by exact z513) (h1:=by exact z_one)
      refine Ws ?_
      exact Zfr (h:=ResL.cons (Zra z513) (ResL.cons (Res1.tmp rfl) (ResL.nil))) (hq:=by simp only [tupled];(rw [giveM,h1,h2,h3,h4,h5];simp only [Bool.true_or,Bool.false_or,if_true];rw [bmV_zero];rfl))
     ·have h5':=of_decide_eq_false h5
      have ht:giveM m at_ n=if allUsed m at_.toNat n.toNat then(⟨m.p,setFrom m.u false at_.toNat n.toNat⟩,0) else(zeroM,10):=by
       rw [giveM,h1,h2,h3,h4,h5];simp only [Bool.false_or,Bool.false_eq_true,if_false]
      refine Ws ?_
      refine Zi 8 ((at_.toNat+0:Nat):Int) ?_ (hi:=by omega)
      refine Zat (blk bm _ _) (blk bm 60 (bmL ⟨m.p,setFrom m.u false at_.toNat 0⟩)) ?_
      (refine Wl (α:={ x:Nat//x≤n.toNat∧ ∀j,j<x→useAt m.u (at_.toNat+j)=true }) (fun x=>n.toNat-x.1) (fun x=> [(1, .int .i64 at_),(2, .int .i64 n),(3, .pointer (some ⟨bm,0,none⟩)),(6, .pointer (some ⟨br,0,none⟩)),(8, .int .i64 ((at_.toNat+x.1:Nat):Int))]) (fun x=> [blk bm 60 (bmL ⟨m.p,setFrom m.u false at_.toNat x.1⟩),blk br 60 ([.int .i64 0] ++List.replicate 512 (.bool false)),Ex (hp w)]) ⟨0,Nat.zero_le _,fun j hj=>absurd hj (Nat.not_lt_zero j)⟩ ?_;rintro ⟨x,hx,hu⟩ mx hmx;(try dsimp only at hmx ⊢))
      have hlen:(setFrom m.u false at_.toNat x).length=512:=by rw [setFrom_length];exact hm
      refine Ws ?_
      (refine Wcd ?_ ?_<;>intro h6)
      ·have hx':x<n.toNat:=by omega
       have hsame:useAt (setFrom m.u false at_.toNat x) (at_.toNat+x)=useAt m.u (at_.toNat+x):=by rw [useAt_setFrom _ _ _ _ _ (by omega),if_neg (by omega)]
       refine Ws ?_
       refine Zl ?_ (hv:=by exact off_get ⟨m.p,setFrom m.u false at_.toNat x⟩ (at_.toNat+x) (by show _<(setFrom m.u false at_.toNat x).length;omega))
       refine Ws ?_
       (refine Wcb ?_ ?_<;>intro h7)
       ·have hno:allUsed m at_.toNat n.toNat=false:=by
         cases hq:allUsed m at_.toNat n.toNat
         ·rfl
         ·have:=List.all_eq_true.1 hq x (List.mem_range.2 hx')
          simp only [hsame,this] at h7
          cases h7
        refine Ws ?_
        refine ZSa ?_ (hl:=by exact z513) (hc:=by exact z513) (h1:=by exact z_one)
        refine Ws ?_
        exact Zfr (h:=ResL.cons (Zra z513) (ResL.cons (Res1.tmp rfl) (ResL.nil))) (hq:=by simp only [tupled];(rw [ht,hno,if_neg (by simp),bmV_zero];rfl))
       ·have hyes:useAt m.u (at_.toNat+x)=true:=by
         simp only [hsame] at h7
         cases hq:useAt m.u (at_.toNat+x)
         ·rw [hq] at h7;cases h7
         ·rfl
        refine Ws ?_
        refine ZS ?_ (hi:=by rw [bmL_length _ hlen];omega)
        refine Zat (blk bm _ _) (blk bm 60 (bmL ⟨m.p,setFrom m.u false at_.toNat (x+1)⟩)) ?_ (e:=by rw [off_set];rfl)
        refine Ws ?_
        exact Zag ⟨x+1,by omega,fun j hj=>if e:j=x then by rw [e];exact hyes else hu j (by omega)⟩
      ·have e:x=n.toNat:=by omega
       subst e
       have hall:allUsed m at_.toNat n.toNat=true:=List.all_eq_true.2 (fun j hj=>hu j (List.mem_range.1 hj))
       refine Ws ?_
       refine Zla ?_ (hl:=by exact bmL_length _ hlen)
       refine Ws ?_
       refine ZSa ?_ (hl:=by exact bmL_length _ hlen) (hc:=by exact z513) (h1:=by exact bmL_one _)
       refine Ws ?_
       exact Zfr (h:=ResL.cons (Zra (bmL_length _ hlen)) (ResL.cons (Res1.tmp rfl) (ResL.nil))) (hq:=by simp only [tupled];(rw [ht,hall,if_pos rfl];rfl))
def wkE (S:DS):Nat→Int→List ENT
 | 0,_=> []
 | h+1,a=>(rdN S a (decide (h=0))).E++(rdN S a (decide (h=0))).D.flatMap (wkE S h)
def wkC (S:DS):Nat→Int→Nat
 | 0,_=>0
 | h+1,a=>1+((rdN S a (decide (h=0))).D.map (wkC S h)).sum
def wkVL (E:Int→List ENT)(C:Int→Nat)(V:Int→Nat→Nat):List Int→Nat→Nat
 | [],_=>0
 | d::ds,k=>if k<(E d).length then V d k else C d+wkVL E C V ds (k-(E d).length)
def wkV (S:DS):Nat→Int→Nat→Nat
 | 0,_,_=>0
 | h+1,a,k=>1+if k<(rdN S a (decide (h=0))).E.length then 0 else wkVL (wkE S h) (wkC S h) (wkV S h) (rdN S a (decide (h=0))).D (k-(rdN S a (decide (h=0))).E.length)
def wkG (S:DS):Nat→Int→Prop
 | 0,_=>False
 | h+1,a=>(-1000000≤a∧a≤1000000)∧(rdN S a (decide (h=0))).e=0∧(rdN S a (decide (h=0))).E.length≤1000∧(rdN S a (decide (h=0))).D.length≤1000∧ ∀k∈(rdN S a (decide (h=0))).D,wkG S h k
theorem wk_at {E:Int→List ENT}: ∀(D:List Int) (j k:Nat) (d:Int),D[j]? =some d→k<(E d).length→(D.flatMap E)[((D.take j).flatMap E).length+k]? =(E d)[k]?
 | [],_,_,_,h,_=>by simp at h
 | x::D,0,k,d,h,hk=>by
  simp at h;subst h
  simp only [List.take_zero,List.flatMap_nil,List.length_nil,Nat.zero_add,List.flatMap_cons]
  rw [List.getElem?_append_left hk]
 | x::D,j+1,k,d,h,hk=>by
  have ih:=wk_at (E:=E) D j k d (by simpa using h) hk
  simp only [List.take_succ_cons,List.flatMap_cons,lAp]
  rw [List.getElem?_append_right (by omega),show (E x).length+((D.take j).flatMap E).length+k-(E x).length=((D.take j).flatMap E).length+k by omega,ih]
theorem wkVL_at {E:Int→List ENT}{C:Int→Nat}{V:Int→Nat→Nat}: ∀(D:List Int) (j k:Nat) (d:Int),D[j]? =some d→k<(E d).length→
  wkVL E C V D (((D.take j).flatMap E).length+k)=((D.take j).map C).sum+V d k
 | [],_,_,_,h,_=>by simp at h
 | x::D,0,k,d,h,hk=>by
  simp at h;subst h
  simp only [List.take_zero,List.flatMap_nil,List.length_nil,Nat.zero_add,wkVL,List.map_nil,List.sum_nil]
  rw [if_pos hk]
 | x::D,j+1,k,d,h,hk=>by
  have ih:=wkVL_at (E:=E) (C:=C) (V:=V) D j k d (by simpa using h) hk
  simp only [List.take_succ_cons,List.flatMap_cons,lAp,List.map_cons,List.sum_cons,wkVL]
  rw [if_neg (by omega),show (E x).length+((D.take j).flatMap E).length+k-(E x).length=((D.take j).flatMap E).length+k by omega,ih]
  omega
theorem wk_take {E:Int→List ENT}{D:List Int}{j:Nat}{d:Int}(h:D[j]? =some d):((D.take (j+1)).flatMap E).length=((D.take j).flatMap E).length+(E d).length:=by
 rw [List.take_add_one,h];simp
theorem wk_stake {C:Int→Nat}{D:List Int}{j:Nat}{d:Int}(h:D[j]? =some d):((D.take (j+1)).map C).sum=((D.take j).map C).sum+C d:=by
 rw [List.take_add_one,h];simp
theorem wk_le {E:Int→List ENT}(D:List Int)(j:Nat):((D.take j).flatMap E).length≤(D.flatMap E).length:=by
 conv=>rhs;rw [←List.take_append_drop j D]
 rw [List.flatMap_append,lAp];omega
theorem wk_sle {C:Int→Nat}(D:List Int)(j:Nat):((D.take j).map C).sum≤(D.map C).sum:=by
 conv=>rhs;rw [←List.take_append_drop j D]
 rw [List.map_append,List.sum_append];omega
def giN (v:VS)(a:Int):VS×Nat:=if(giveM v.m a 1).2=0 then(⟨v.S,v.gen,(giveM v.m a 1).1,v.old⟩,0) else(v,(giveM v.m a 1).2)
theorem giN_ok {v:VS}(h:v.ok)(a:Int):(giN v a).1.ok:=by
 rw [giN]
 split
 ·exact⟨h.S,h.g,giveM_length _ _ _ h.m,h.o⟩
 ·exact h
theorem giN_S (v:VS)(a:Int):(giN v a).1.S=v.S:=by rw [giN];split<;>rfl
def childGo (K:List KEY)(k:KEY):Nat→Nat→Nat
 | 0,i=>i
 | f+1,i=>if i+1<K.length∧lessK k (K.getD (i+1) (0,0))=false then childGo K k f (i+1) else i
def childN (K:List KEY)(k:KEY):Nat:=childGo K k K.length 0
def idxGo (E:List ENT)(k:KEY):Nat→Nat→Nat
 | 0,i=>i
 | f+1,i=>if i<E.length then(if lessK k (E.getD i ent0).key=true then i else idxGo E k f (i+1)) else E.length
def idxE (E:List ENT)(k:KEY):Nat:=idxGo E k (E.length+1) 0
def splitN (leaf:Bool)(x:ND3):List ND3:=splN leaf (szN leaf x+1) x
def rpN (leaf:Bool)(v:VS)(x:ND3)(i c:Nat)(xs:List ND3):VS×List ND3×Nat:=
 if(unN leaf v xs).2.2=0 then((unN leaf v xs).1,splitN false ⟨x.E,x.K.take i++(unN leaf v xs).2.1.K++x.K.drop (i+c),x.D.take i++(unN leaf v xs).2.1.D++x.D.drop (i+c)⟩,0)
 else((unN leaf v xs).1, [],(unN leaf v xs).2.2)
def inN:Nat→VS→Int→ENT→VS×List ND3×Nat
 | 0,v,_,_=>(v, [],0)
 | h+1,v,a,x=>
  if(rdN v.S a (decide (h=0))).e≠0 then(v, [],(rdN v.S a (decide (h=0))).e)
  else if(giN v a).2≠0 then((giN v a).1, [],(giN v a).2)
  else if h=0 then((giN v a).1,splitN true ⟨(rdN v.S a true).E.take (idxE (rdN v.S a true).E x.key)++x::(rdN v.S a true).E.drop (idxE (rdN v.S a true).E x.key),(rdN v.S a true).K,(rdN v.S a true).D⟩,0)
  else if(inN h (giN v a).1 ((rdN v.S a false).D.getD (childN (rdN v.S a false).K x.key) 0) x).2.2=0 then
   rpN (decide (h=1)) (inN h (giN v a).1 ((rdN v.S a false).D.getD (childN (rdN v.S a false).K x.key) 0) x).1 ⟨(rdN v.S a false).E,(rdN v.S a false).K,(rdN v.S a false).D⟩ (childN (rdN v.S a false).K x.key) 1 (inN h (giN v a).1 ((rdN v.S a false).D.getD (childN (rdN v.S a false).K x.key) 0) x).2.1
  else((inN h (giN v a).1 ((rdN v.S a false).D.getD (childN (rdN v.S a false).K x.key) 0) x).1, [],(inN h (giN v a).1 ((rdN v.S a false).D.getD (childN (rdN v.S a false).K x.key) 0) x).2.2)
end Go.Proofs.YtcglabmlhljkmaaGreat
namespace Go.Gv
theorem useAt_new (k:Int)(j:Nat):useAt (newM k).u j=decide (j<2):=by
 unfold useAt
 show ([true,true] ++List.replicate 510 false).getD j false=_
 rw [gDe,List.getElem?_append]
 split
 ·rename_i h
  have:j=0∨j=1:=by simp at h;omega
  rcases this with rfl | rfl<;>rfl
 ·rename_i h
  simp at h
  rw [dFf (show ¬j<2 by omega),List.getElem?_replicate]
  split<;>rfl
theorem newM_p (k:Nat)(h:8≤k∧k≤512):(newM (k:Int)).p=(k:Int):=by
 show min (max (k:Int) 8) 512=_
 omega
theorem free_new (k:Nat)(h:8≤k∧k≤512): ∀K,freeTo (newM (k:Int)) K=min K k-2
 | 0=>by simp [freeTo]
 | K+1=>by
  rw [freeTo,free_new k h K,newM_p k h,useAt_new]
  by_cases h1:K<k
  ·by_cases h2:K<2
   ·rw [dTt h2,if_neg (by simp)];omega
   ·rw [dFf h2,dTt (show (K:Int)<k by omega),if_pos (by simp)];omega
  ·rw [dFf (show ¬(K:Int)<k by omega),if_neg (by simp)];omega
theorem freeTo_far (p:Int)(u:List Bool)(j:Nat)(b:Bool)(hj:j<u.length): ∀K,K≤j→freeTo ⟨p,u.set j b⟩ K=freeTo ⟨p,u⟩ K
 | 0,_=>rfl
 | K+1,h=>by
  rw [freeTo,freeTo,freeTo_far p u j b hj K (by omega)]
  simp only [useAt_set u j K b hj,if_neg (show ¬K=j by omega)]
theorem freeTo_take (p:Int)(u:List Bool)(j:Nat)(hj:j<u.length)(hp:(j:Int)<p)(hu:useAt u j=false): ∀K,j<K→freeTo ⟨p,u.set j true⟩ K+1=freeTo ⟨p,u⟩ K
 | 0,h=>by omega
 | K+1,h=>by
  rw [freeTo,freeTo]
  by_cases e:K=j
  ·subst e
   rw [freeTo_far p u K true hj K (Nat.le_refl _)]
   simp only [useAt_set u K K true hj,if_true,hu,dTt hp]
   simp
  ·have ih:=freeTo_take p u j hj hp hu K (by omega)
   simp only [useAt_set u j K true hj,if_neg e]
   omega
theorem freeTo_give (p:Int)(u:List Bool)(j:Nat)(hj:j<u.length)(hp:(j:Int)<p)(hu:useAt u j=true): ∀K,j<K→freeTo ⟨p,u.set j false⟩ K=freeTo ⟨p,u⟩ K+1
 | 0,h=>by omega
 | K+1,h=>by
  rw [freeTo,freeTo]
  by_cases e:K=j
  ·subst e
   rw [freeTo_far p u K false hj K (Nat.le_refl _)]
   simp only [useAt_set u K K false hj,if_true,hu,dTt hp]
   simp
  ·have ih:=freeTo_give p u j hj hp hu K (by omega)
   simp only [useAt_set u j K false hj,if_neg e]
   omega
structure Inv (k:Nat)(m:BM)(had:List Nat):Prop where
 len:m.u.length=512
 p:m.p=(k:Int)
 use: ∀j,useAt m.u j=true↔(j<2∨j∈had)
 rng: ∀a∈had,2≤a∧a<k
 nodup:had.Nodup
 free:freeM m+2+had.length=k
theorem Inv.new (k:Nat)(h:8≤k∧k≤512):Inv k (newM k) [] :=
 ⟨newM_length _,newM_p k h,fun j=>by rw [useAt_new];simp,fun a ha=>by simp at ha,List.nodup_nil,by
  show freeTo _ 512+2+0=k
  rw [free_new k h];omega⟩
theorem right_of {m:BM}(k:Nat)(h:8≤k∧k≤512)(hp:m.p=(k:Int))(h0: ∀j,j<2→useAt m.u j=true)(h1: ∀j,k≤j→useAt m.u j=false):rightM m=true:=by
 have hf:(List.range 512).all (fitAt m)=true:=fit_all (fun j _=>by
  unfold fitAt
  rw [hp]
  by_cases h2:j<2
  ·rw [dTt h2,h0 j h2,dFf (show ¬((k:Int)≤(j:Int)) by omega)];rfl
  ·by_cases h3:k≤j
   ·rw [dFf h2,h1 j h3];simp
   ·rw [dFf h2,dFf (show ¬((k:Int)≤(j:Int)) by omega)];simp)
 rw [rightM,hf,hp,dTt (show (8:Int)≤k by omega),dTt (show (k:Int)≤512 by omega)];rfl
theorem Inv.right {k:Nat}{m:BM}{had:List Nat}(i:Inv k m had)(h:8≤k∧k≤512):rightM m=true:=
 right_of k h i.p (fun j hj=>(i.use j).2 (.inl hj)) (fun j hj=>by
  cases hu:useAt m.u j
  ·rfl
  ·rcases(i.use j).1 hu with h2 | h2
   ·omega
   ·have:=i.rng j h2;omega)
theorem new_right (k:Nat)(h:8≤k∧k≤512):rightM (newM k)=true:=(Inv.new k h).right h
theorem Inv.give {k:Nat}{m:BM}{A B:List Nat}{x:Nat}(i:Inv k m (A++x::B))(h:8≤k∧k≤512):
  giveM m x 1=(⟨m.p,m.u.set x false⟩,0)∧Inv k ⟨m.p,m.u.set x false⟩ (A++B):=by
 have hx:=i.rng x (by simp)
 have hxl:x<m.u.length:=by rw [i.len];omega
 have hux:useAt m.u x=true:=(i.use x).2 (.inr (by simp))
 have hnd:=i.nodup
 rw [List.nodup_append] at hnd
 obtain⟨n1,n2,n3⟩:=hnd
 rw [List.nodup_cons] at n2
 constructor
 ·have h1:(!rightM m)=false:=by rw [i.right h];rfl
  have h6:allUsed m (x:Int).toNat (1:Int).toNat=true:=List.all_eq_true.2 (fun j hj=>by
   have:j=0:=by simp at hj;omega
   subst this;simpa using hux)
  have hp:=i.p
  rw [giveM,h1,h6,dFf (show ¬(1:Int)<0 by omega),dFf (show ¬(x:Int)<2 by omega),dFf (show ¬m.p<(x:Int) by omega),dFf (show ¬m.p-(x:Int)<1 by omega)]
  rfl
 ·refine⟨by simp [i.len],i.p,fun j=>?_,fun a ha=>i.rng a (by simp at ha ⊢;rcases ha with h | h<;>simp [h]), ?_, ?_⟩
  ·simp only [useAt_set _ _ _ _ hxl]
   by_cases e:j=x
   ·subst e
    rw [if_pos rfl]
    constructor
    ·intro h;cases h
    ·rintro (h | h)
     ·omega
     ·simp at h
      rcases h with h | h
      ·exact absurd rfl (n3 j h j (by simp))
      ·exact absurd h n2.1
   ·rw [if_neg e,i.use]
    simp [e]
  ·rw [List.nodup_append]
   exact⟨n1,n2.2,fun a ha b hb=>n3 a ha b (by simp [hb])⟩
  ·have:=freeTo_give m.p m.u x hxl (by rw [i.p];omega) hux 512 (by omega)
   have hf:=i.free
   simp only [lAp,lCn] at hf ⊢
   show freeTo _ 512+2+_=k
   rw [this]
   have:freeM m=freeTo ⟨m.p,m.u⟩ 512:=rfl
   omega
theorem both_new {k:Nat}{m:BM}{had:List Nat}(i:Inv k m had)(p:Nat):bothAt m (newM k) p=useAt m.u p:=by
 rw [bothAt,useAt_new]
 by_cases h:p<2
 ·rw [(i.use p).2 (.inl h)];rfl
 ·rw [dFf h,Bool.or_false]
theorem run_all (m o:BM): ∀i,(∀p,p<i→bothAt m o p=true)→runTo m o i=0
 | 0,_=>rfl
 | i+1,h=>by rw [runTo,h i (by omega),if_pos rfl]
theorem seek_none (m o:BM): ∀f i,(∀p,p<i+f→bothAt m o p=true)→seek m o 1 f i=none
 | 0,_,_=>rfl
 | f+1,i,h=>by
  rw [seek,run_all m o (i+1) (fun p hp=>h p (by omega)),if_neg (by omega)]
  exact seek_none m o f (i+1) (fun p hp=>h p (by omega))
theorem seek_some (m o:BM)(t:Nat)(ht:bothAt m o t=false)(hb: ∀p,p<t→bothAt m o p=true): ∀f i,i≤t→t<i+f→seek m o 1 f i=some t
 | 0,_,_,h=>by omega
 | f+1,i,h1,h2=>by
  by_cases e:i=t
  ·subst e
   have hr:runTo m o (i+1)=1:=by rw [runTo,ht,if_neg (by simp),run_all m o i hb]
   rw [seek,hr,if_pos (show ((1:Nat):Int)=1 from rfl)]
   rfl
  ·rw [seek,run_all m o (i+1) (fun p hp=>hb p (by omega)),if_neg (by omega)]
   exact seek_some m o t ht hb f (i+1) (by omega) (by omega)
theorem Inv.alike {k:Nat}{m:BM}{had:List Nat}(i:Inv k m had)(h:8≤k∧k≤512):alikeM m (newM k)=true:=by
 rw [alikeM,i.right h,new_right k h,i.p,newM_p k h];simp
theorem Inv.full {k:Nat}{m:BM}{had:List Nat}(i:Inv k m had)(h:8≤k∧k≤512)(hu: ∀p,2≤p→p<k→useAt m.u p=true):takeM m (newM k) 1=(zeroM,0,5):=by
 have hs:seek m (newM k) 1 m.p.toNat 0=none:=seek_none _ _ _ _ (fun p hp=>by
  rw [both_new i]
  by_cases h2:p<2
  ·exact(i.use p).2 (.inl h2)
  ·exact hu p (by omega) (by have:=i.p;omega))
 have h1:(!alikeM m (newM k))=false:=by rw [i.alike h];rfl
 rw [takeM,h1,hs];rfl
theorem Inv.take {k:Nat}{m:BM}{had:List Nat}(i:Inv k m had)(h:8≤k∧k≤512)(t:Nat)(ht:2≤t∧t<k)(hf:useAt m.u t=false)(hu: ∀p,2≤p→p<t→useAt m.u p=true):
  takeM m (newM k) 1=(⟨m.p,m.u.set t true⟩,(t:Int),0)∧Inv k ⟨m.p,m.u.set t true⟩ (had++ [t]):=by
 have htl:t<m.u.length:=by rw [i.len];omega
 have hp:=i.p
 constructor
 ·have hs:seek m (newM k) 1 m.p.toNat 0=some t:=seek_some _ _ t (by rw [both_new i];exact hf) (fun p hp=>by
   rw [both_new i]
   by_cases h2:p<2
   ·exact(i.use p).2 (.inl h2)
   ·exact hu p (by omega) hp) _ _ (Nat.zero_le _) (by omega)
  have h1:(!alikeM m (newM k))=false:=by rw [i.alike h];rfl
  rw [takeM,h1,hs];rfl
 ·have hnot:t∉had:=fun hm=>by
   have:=(i.use t).2 (.inr hm)
   rw [this] at hf;cases hf
  refine⟨by simp [i.len],i.p,fun j=>?_,fun a ha=>?_, ?_, ?_⟩
  ·simp only [useAt_set _ _ _ _ htl]
   by_cases e:j=t
   ·subst e;simp
   ·rw [if_neg e,i.use];simp [e]
  ·simp at ha
   rcases ha with ha | rfl
   ·exact i.rng a ha
   ·exact ht
  ·rw [List.nodup_append]
   exact⟨i.nodup,by simp,fun a ha b hb=>by simp at hb;subst hb;intro e;subst e;exact hnot ha⟩
  ·have:=freeTo_take m.p m.u t htl (by rw [i.p];omega) hf 512 (by omega)
   have hfr:=i.free
   simp only [lAp,lCn,List.length_nil]
   show freeTo _ 512+2+_=k
   have:freeM m=freeTo ⟨m.p,m.u⟩ 512:=rfl
   omega
end Go.Gv
namespace Go.Proofs.YtcglabmlhljkmaaGreat
open Go Go.RowKit Go.Gv
theorem seg_same (n:Nat)(A:List UInt8)(i:Nat)(b:List UInt8)(hi:i*n+n≤A.length)(hb:b.length=n):((putAt A (i*n) b).drop (i*n)).take n=b:=by
 unfold putAt
 rw [aAs,List.drop_append_of_le_length (by rw [lTk];omega),List.drop_of_length_le (by rw [lTk];omega),nAp,List.take_left' hb]
theorem seg_other (n:Nat)(A:List UInt8)(i j:Nat)(b:List UInt8)(hi:i*n+n≤A.length)(hb:b.length=n)(hj:j≠i):((putAt A (i*n) b).drop (j*n)).take n=(A.drop (j*n)).take n:=by
 apply List.ext_getElem?
 intro k
 rw [List.getElem?_take,List.getElem?_take]
 split
 ·rename_i hk
  rw [List.getElem?_drop,List.getElem?_drop]
  unfold putAt
  have hlt:(A.take (i*n)).length=i*n:=by rw [lTk];omega
  by_cases hji:j<i
  ·have:j*n+k<i*n:=by
    have:=Nat.mul_le_mul_right n (show j+1≤i from hji)
    rw [Nat.add_mul] at this;omega
   rw [aAs,List.getElem?_append_left (by omega),List.getElem?_take,if_pos this]
  ·have:i*n+n≤j*n+k:=by
    have:=Nat.mul_le_mul_right n (show i+1≤j by omega)
    rw [Nat.add_mul] at this;omega
   rw [List.getElem?_append_right (by rw [lAp];omega),List.getElem?_drop,lAp,hlt,hb]
   congr 1;omega
 ·rfl
theorem pgAt_same (A:List UInt8)(i:Nat)(b:List UInt8)(hi:i*256+256≤A.length)(hb:b.length=256):pgAt (putAt A (i*256) b) i=b:=seg_same 256 A i b hi hb
theorem pgAt_other (A:List UInt8)(i j:Nat)(b:List UInt8)(hi:i*256+256≤A.length)(hb:b.length=256)(hj:j≠i):pgAt (putAt A (i*256) b) j=pgAt A j:=seg_other 256 A i j b hi hb hj
def DS.on (S:DS):Prop:=S.ok∧S.off=false∧S.till= -1
theorem DS.wrs_page {S:DS}(h:S.on)(a:Nat)(b:List UInt8)(hb:b.length=256)(ha:a*256+256≤S.A.length):
  (S.wrs ((a:Int)*4) (secs b 4)).2=0∧(S.wrs ((a:Int)*4) (secs b 4)).1.on∧(S.wrs ((a:Int)*4) (secs b 4)).1.V=putAt S.V (a*256) b∧(S.wrs ((a:Int)*4) (secs b 4)).1.A=S.A∧(S.wrs ((a:Int)*4) (secs b 4)).1.W.length≤S.W.length+4:=by
 have h1:=DS.wrs_V h.1 (a*4) b h.2.1 h.2.2 4 (by omega) (by omega)
 have h2:=DS.wrs_len (secs b 4) S ((a:Int)*4)
 have e:((a*4:Nat):Int)=(a:Int)*4:=by omega
 rw [e] at h1
 rw [secs_length] at h2
 refine⟨h1.1,⟨DS.wrs_ok _ _ h.1,h1.2.1,h1.2.2.1⟩, ?_,h2.2,h2.1⟩
 rw [h1.2.2.2,show a*4*64=a*256 by omega,List.take_of_length_le (by omega)]
theorem rdE_page {S:DS}(h:S.on)(a:Nat)(ha:a*256+256≤S.A.length):rdE S ((a:Int)*4) 4=0:=by
 have:=rdE_of (S:=S) (a:=a*4) h.2.1 4 (by omega)
 rwa [show ((a*4:Nat):Int)=(a:Int)*4 by omega] at this
theorem rdPg_on {S:DS}(h:S.on)(a:Nat)(ha:a*256+256≤S.A.length)(kind:UInt8):rdPg S (a:Int) kind=if(getP (pgAt S.V a)).2=0∧(getP (pgAt S.V a)).1.a=(a:Int)∧(getP (pgAt S.V a)).1.k=kind then getP (pgAt S.V a) else(zeroP,3):=by
 rw [rdPg,rdE_page h a ha,if_neg (by simp)];rfl
def DS.new (k:Nat):DS:=⟨List.replicate (k*256) 0, [],false, -1⟩
theorem DS.new_on (k:Nat)(h:k≤512):(DS.new k).on:=⟨⟨by show (List.replicate _ _).length≤_;simp;omega,by show -1≤(-1:Int)∧(-1:Int)≤_;omega,fun x hx=>by cases hx⟩,rfl,rfl⟩
theorem DS.new_ok (k:Nat)(h:k≤512):(DS.new k).ok:=(DS.new_on k h).1
theorem DS.new_len (k:Nat):(DS.new k).A.length=k*256:=List.length_replicate
theorem disk_NewD (k:Nat)(h:8≤k∧k≤512):SpecR Tryz.prog 28 #[.int .i64 (k:Int)] (fun _=>True) (fun r H'=> ∃p,r= .tuple #[.pointer (some ⟨p,0,none⟩), .int .i64 0] ∧H'= [DSK p (DS.new k)]):=by
 refine SpecR.conv (disk_New k h) (fun r H' hr=>?_)
 obtain⟨p,a,rfl,rfl⟩:=hr
 exact⟨_,⟨p,rfl,rfl⟩,fun w0 w H hw=>dsk_close (S:=DS.new k) (W:= []) rfl hw⟩
theorem less_of {a b:KEY}(h:a.1<b.1∨(a.1=b.1∧a.2<b.2)):lessK a b=true:=by
 rw [lessK]
 rcases h with h | ⟨h1,h2⟩
 ·rw [dTt h];rfl
 ·rw [dTt h1,dTt h2,Bool.true_and,Bool.or_true]
def uC (c:Nat):List Bool:=List.replicate c true++List.replicate (512-c) false
theorem useC (c i:Nat):useAt (uC c) i=decide (i<c):=by
 unfold useAt uC
 rw [gDe]
 by_cases h:i<c
 ·rw [List.getElem?_append_left (by simpa using h),List.getElem?_replicate,if_pos h,dTt h];rfl
 ·rw [List.getElem?_append_right (by simpa using h),List.getElem?_replicate,dFf h]
  split<;>rfl
theorem uC_len {c:Nat}(h:c≤512):(uC c).length=512:=by simp [uC];omega
theorem rightC {c:Nat}(h2:2≤c)(hc:c≤200):rightM ⟨200,uC c⟩=true:=by
 have hall:(List.range 512).all (fitAt ⟨200,uC c⟩)=true:=fit_all (fun j hj=>by
  unfold fitAt
  show (!(decide (j<2) && !useAt (uC c) j || decide ((200:Int)≤(j:Int)) && useAt (uC c) j))=true
  rw [useC]
  by_cases h1:j<c
  ·rw [dTt h1,dFf (show ¬(200:Int)≤(j:Int) by omega)]
   simp
  ·rw [dFf h1,dFf (show ¬j<2 by omega)]
   simp)
 show (decide ((8:Int)≤200) && decide ((200:Int)≤512) && _)=true
 rw [hall];rfl
theorem runC {c:Nat}(h2:2≤c): ∀j,j≤c→runTo ⟨200,uC c⟩ ⟨200,uC 2⟩ j=0
 | 0,_=>rfl
 | j+1,h=>by
  rw [runTo,if_pos]
  unfold bothAt
  show (useAt (uC c) j || _)=true
  rw [useC,dTt (by omega)];rfl
theorem runC1 {c:Nat}(h2:2≤c):runTo ⟨200,uC c⟩ ⟨200,uC 2⟩ (c+1)=1:=by
 rw [runTo,if_neg,runC h2 c (Nat.le_refl _)]
 unfold bothAt
 show ¬(useAt (uC c) c || useAt (uC 2) c)=true
 rw [useC,useC,dFf (by omega),dFf (by omega)];simp
theorem seekC {c:Nat}(h2:2≤c): ∀(f k:Nat),k≤c→c<f+k→seek ⟨200,uC c⟩ ⟨200,uC 2⟩ 1 f k=some c
 | 0,k,h,hf=>by omega
 | f+1,k,h,hf=>by
  rw [seek]
  by_cases hk:k=c
  ·subst hk
   rw [runC1 h2,if_pos (by rfl)]
   simp
  ·rw [runC h2 (k+1) (by omega),if_neg (by simp),seekC h2 f (k+1) (by omega) (by omega)]
theorem setC {c:Nat}(hc:c<512):(uC c).set c true=uC (c+1):=by
 refine List.ext_getElem? (fun i=>?_)
 unfold uC
 rw [List.getElem?_set]
 by_cases h:c=i
 ·subst h
  rw [if_pos rfl,if_pos (by simp;omega),List.getElem?_append_left (by simp),List.getElem?_replicate,if_pos (by omega)]
 ·rw [if_neg h]
  by_cases h1:i<c
  ·rw [List.getElem?_append_left (by simpa using h1),List.getElem?_append_left (by simp;omega),List.getElem?_replicate,List.getElem?_replicate,if_pos h1,if_pos (by omega)]
  ·rw [List.getElem?_append_right (by simp;omega),List.getElem?_append_right (by simp;omega),List.getElem?_replicate,List.getElem?_replicate]
   simp only [List.length_replicate]
   by_cases h3:i<512
   ·rw [if_pos (by omega),if_pos (by omega)]
   ·rw [if_neg (by omega),if_neg (by omega)]
theorem takeC {c:Nat}(h2:2≤c)(hc:c<200):takeM ⟨200,uC c⟩ ⟨200,uC 2⟩ 1=(⟨200,uC (c+1)⟩,(c:Int),0):=by
 have ha:alikeM ⟨200,uC c⟩ ⟨200,uC 2⟩=true:=by
  unfold alikeM
  rw [rightC h2 (by omega),rightC (Nat.le_refl 2) (by omega)];rfl
 unfold takeM
 rw [ha,if_neg (by simp)]
 have:seek ⟨200,uC c⟩ ⟨200,uC 2⟩ 1 (⟨200,uC c⟩:BM).p.toNat 0=some c:=seekC h2 200 0 (by omega) (by omega)
 rw [this]
 show ((⟨200,setFrom (uC c) true c 1⟩:BM),(c:Int),0)=_
 have hs:setFrom (uC c) true c 1=uC (c+1):=by
  show (uC c).set (c+0) true=_
  rw [Nat.add_zero,setC (by omega)]
 rw [hs]
structure VC (c:Nat)(v:VS):Prop where
 on:v.S.on
 len:v.S.A.length=51200
 gen:v.gen=1
 m:v.m=⟨200,uC c⟩
 old:v.old=⟨200,uC 2⟩
 wt:v.S.W.length≤4*c
theorem VC.ok {c:Nat}{v:VS}(h:VC c v)(hc:c≤200):v.ok:=⟨h.on.1,by rw [h.gen];decide,by rw [h.m];exact uC_len (by omega),by rw [h.old];exact uC_len (by omega)⟩
theorem putN_len {leaf:Bool}{x:ND3}(hr:rightN leaf x.E x.K x.D=true):(putN leaf x.E x.K x.D).length≤238:=by
 cases leaf
 ·rw [rightN,if_neg (by simp),Bool.and_eq_true] at hr
  have:=innerB_spec hr.2
  show (putI x.K x.D).length≤238
  rw [putI_length];omega
 ·rw [rightN,if_pos rfl,Bool.and_eq_true,Bool.and_eq_true] at hr
  have:=leaf_spec hr.2.2
  show (putL x.E).length≤238
  rw [putL_length];omega
theorem getN_put {leaf:Bool}{x:ND3}(hr:rightN leaf x.E x.K x.D=true)(hE: ∀e∈x.E,entR e)(hK: ∀k∈x.K,keyR k):getN leaf (putN leaf x.E x.K x.D)=⟨leaf,x.E,x.K,x.D,0⟩:=by
 obtain⟨E,Ks,D⟩:=x
 cases leaf
 ·rw [rightN,if_neg (by simp),Bool.and_eq_true,decide_eq_true_eq] at hr
  have hE0:E= [] :=List.eq_nil_of_length_eq_zero hr.1
  show getN false (putI Ks D)=_
  rw [getN,if_neg (by simp),get_putI hr.2 hK,hE0]
 ·rw [rightN,if_pos rfl,Bool.and_eq_true,Bool.and_eq_true,decide_eq_true_eq,decide_eq_true_eq] at hr
  have hK0:Ks= [] :=List.eq_nil_of_length_eq_zero hr.1
  have hD0:D= [] :=List.eq_nil_of_length_eq_zero hr.2.1
  show getN true (putL E)=_
  rw [getN,if_pos rfl,get_putL hr.2.2 hE,hK0,hD0];rfl
theorem fit200 {j:Nat}(h:j<200):j*256+256≤51200:=by
 have:=Nat.mul_le_mul_right 256 (show j+1≤200 from h)
 rw [Nat.add_mul] at this
 exact this
theorem kindN_known (leaf:Bool):knownK (kindN leaf)=true:=by cases leaf<;>rfl
theorem VC.wr {c:Nat}{v:VS}{leaf:Bool}{x:ND3}(h:VC c v)(h2:2≤c)(hc:c<200)(hr:rightN leaf x.E x.K x.D=true)(hE: ∀e∈x.E,entR e)(hK: ∀k∈x.K,keyR k):
  ∃v',wrN v leaf x=(v',(c:Int),0)∧VC (c+1) v'∧rdN v'.S (c:Int) leaf=⟨leaf,x.E,x.K,x.D,0⟩∧ ∀(j:Nat) (lf:Bool),j<200→j≠c→rdN v'.S (j:Int) lf=rdN v.S (j:Int) lf:=by
 have ht:takeM v.m v.old 1=(⟨200,uC (c+1)⟩,(c:Int),0):=by rw [h.m,h.old];exact takeC h2 hc
 obtain⟨q,hq⟩: ∃q:PG,q=⟨kindN leaf,(c:Int),v.gen,putN leaf x.E x.K x.D⟩:=⟨_,rfl⟩
 have hok:okP q=true:=by
  have hb:=putN_len hr
  rw [hq]
  show (knownK (kindN leaf) && decide ((0:Int)≤(c:Int)) && decide ((c:Int)<512) && decide ((putN leaf x.E x.K x.D).length≤238))=true
  rw [kindN_known,dTt (by omega),dTt (by omega),dTt hb];rfl
 have hpl:(putP q).length=256:=putP_length q (okP_spec hok).2.2.2
 have hfit:c*256+256≤v.S.A.length:=by rw [h.len];omega
 obtain⟨w1,w2,w3,w4,w5⟩:=DS.wrs_page h.on c (putP q) hpl hfit
 have hwp:wrPg v.S q=v.S.wrs ((c:Int)*4) (secs (putP q) 4):=by rw [wrPg,if_pos hok,hq]
 have hVl:v.S.V.length=51200:=by rw [DS.V_length h.on.1,h.len]
 have hgp:=get_put q hok (by rw [hq];show v.gen<_;rw [h.gen];decide)
 generalize v.S.wrs ((c:Int)*4) (secs (putP q) 4)=R at*
 have hrdc: ∀kd,rdPg R.1 (c:Int) kd=if kindN leaf=kd then(q,0) else(zeroP,3):=by
  intro kd
  rw [rdPg_on w2 c (by rw [w4];exact hfit),w3,pgAt_same _ _ _ (by rw [hVl];omega) hpl,hgp]
  have e1:q.a=(c:Int):=by rw [hq]
  have e2:q.k=kindN leaf:=by rw [hq]
  by_cases hk:kindN leaf=kd
  ·rw [if_pos hk,if_pos ⟨rfl,e1,by rw [←hk];exact e2⟩]
  ·rw [if_neg hk,if_neg (fun z=>hk (by rw [←e2];exact z.2.2))]
 have hwt:=h.wt
 have hlen:R.1.A.length=51200:=by rw [w4,h.len]
 have hVC:VC (c+1) ⟨R.1,v.gen,⟨200,uC (c+1)⟩,v.old⟩:={ on:=w2,len:=hlen,gen:=h.gen,m:=rfl,old:=h.old,wt:=(by have:=w5;simp only;omega) }
 refine⟨⟨R.1,v.gen,⟨200,uC (c+1)⟩,v.old⟩, ?_,hVC, ?_, ?_⟩
 ·rw [wrN,if_neg (by rw [hr];simp),ht,if_neg (by simp), ←hq,hwp]
  simp only [w1]
 ·show rdN R.1 (c:Int) leaf=_
  have hb:q.b=putN leaf x.E x.K x.D:=by rw [hq]
  rw [rdN,hrdc,if_pos rfl,if_pos rfl,hb]
  exact getN_put hr hE hK
 ·intro j lf hj hjc
  show rdN R.1 (j:Int) lf=_
  have e:rdPg R.1 (j:Int) (kindN lf)=rdPg v.S (j:Int) (kindN lf):=by
   rw [rdPg_on w2 j (by rw [w4,h.len];exact fit200 hj),rdPg_on h.on j (by rw [h.len];exact fit200 hj),w3,pgAt_other _ _ _ _ (by rw [hVl];omega) hpl hjc]
  rw [rdN,rdN,e]
theorem VC.go {leaf:Bool}: ∀(xs:List ND3) {c:Nat} {v:VS},VC c v→2≤c→c+xs.length≤200→(∀x∈xs,rightN leaf x.E x.K x.D=true∧(∀e∈x.E,entR e)∧ ∀k∈x.K,keyR k)→
  ∃v',unGo leaf v xs=(v',(List.range xs.length).map (fun i=>((c+i:Nat):Int)),0)∧VC (c+xs.length) v'∧(∀i x,xs[i]? =some x→rdN v'.S ((c+i:Nat):Int) leaf=⟨leaf,x.E,x.K,x.D,0⟩)∧ ∀(j:Nat) (lf:Bool),j<c→rdN v'.S (j:Int) lf=rdN v.S (j:Int) lf
 | [],c,v,h,h2,hc,hx=>⟨v,rfl,h,fun i x hi=>by simp at hi,fun _ _ _=>rfl⟩
 | x::xs,c,v,h,h2,hc,hx=>by
  rw [lCn] at hc
  obtain⟨r1,r2,r3⟩:=hx x (List.mem_cons_self ..)
  obtain⟨v1,e1,h1,a1,b1⟩:=h.wr h2 (by omega) r1 r2 r3
  obtain⟨v',e2,h3,a2,b2⟩:=VC.go xs h1 (by omega) (by omega) (fun y hy=>hx y (mCm _ hy))
  refine⟨v', ?_,by rw [lCn,show c+(xs.length+1)=c+1+xs.length by omega];exact h3, ?_, ?_⟩
  ·rw [unGo,e1,if_neg (by simp)]
   simp only [e2]
   rw [lCn,List.range_succ_eq_map,List.map_cons,List.map_map]
   simp only [Nat.add_zero]
   congr 3
   refine List.map_congr_left (fun i _=>?_)
   show ((c+1+i:Nat):Int)=((c+(i+1):Nat):Int)
   omega
  ·intro i y hy
   cases i with
   | zero=>
    simp at hy
    subst hy
    rw [Nat.add_zero,b2 c leaf (by omega)]
    exact a1
   | succ i=>
    have:=a2 i y (by simpa using hy)
    rw [show c+(i+1)=c+1+i by omega]
    exact this
  ·intro j lf hj
   rw [b2 j lf (by omega),b1 j lf (by omega) (by omega)]
theorem inv_perm {k:Nat}{m:BM}{U U':List Nat}(i:Inv k m U)(h:U.Perm U'):Inv k m U':=
 ⟨i.len,i.p,fun j=>by rw [i.use,h.mem_iff],fun a ha=>i.rng a (h.mem_iff.2 ha),h.nodup_iff.1 i.nodup,by rw [←h.length_eq];exact i.free⟩
theorem inv_alike2 {k:Nat}{m o:BM}{U O:List Nat}(i:Inv k m U)(j:Inv k o O)(h:8≤k∧k≤512):alikeM m o=true:=by
 rw [alikeM,i.right h,j.right h,i.p,j.p];simp
theorem both_use {k:Nat}{m o:BM}{U O:List Nat}(i:Inv k m U)(j:Inv k o O)(p:Nat):bothAt m o p=true↔(p<2∨p∈U∨p∈O):=by
 rw [bothAt,Bool.or_eq_true,i.use,j.use]
 constructor
 ·rintro ((h | h) | (h | h))
  ·exact .inl h
  ·exact .inr (.inl h)
  ·exact .inl h
  ·exact .inr (.inr h)
 ·rintro (h | h | h)
  ·exact .inl (.inl h)
  ·exact .inl (.inr h)
  ·exact .inr (.inr h)
def Fre (k:Nat)(U O:List Nat)(n:Nat):Prop:= ∃l:List Nat,l.length=n∧l.Nodup∧ ∀i∈l,(2≤i∧i<k)∧i∉U∧i∉O
theorem Fre.le {k:Nat}{U O:List Nat}{n n':Nat}(h:Fre k U O n)(hn:n'≤n):Fre k U O n':=by
 obtain⟨l,h1,h2,h3⟩:=h
 exact⟨l.take n',by rw [lTk];omega,h2.sublist (List.take_sublist _ _),fun i hi=>h3 i (List.mem_of_mem_take hi)⟩
theorem Fre.sub {k:Nat}{U U' O:List Nat}{n:Nat}(h:Fre k U O n)(hs: ∀i∈U',i∈U):Fre k U' O n:=by
 obtain⟨l,h1,h2,h3⟩:=h
 exact⟨l,h1,h2,fun i hi=>⟨(h3 i hi).1,fun c=>(h3 i hi).2.1 (hs i c),(h3 i hi).2.2⟩⟩
theorem Fre.cons {k:Nat}{U O:List Nat}{n t:Nat}(h:Fre k U O (n+1)):Fre k (t::U) O n:=by
 obtain⟨l,h1,h2,h3⟩:=h
 have hl:n≤(l.erase t).length:=by
  by_cases ht:t∈l
  ·rw [List.length_erase_of_mem ht];omega
  ·rw [List.erase_of_not_mem ht];omega
 refine(Fre.le (n:=(l.erase t).length) ⟨l.erase t,rfl,h2.sublist List.erase_sublist,fun i hi=>?_⟩ hl)
 have hil:=(List.Nodup.mem_erase_iff h2).1 hi
 exact⟨(h3 i hil.2).1,fun c=>(List.mem_cons.1 c).elim hil.1 (h3 i hil.2).2.1,(h3 i hil.2).2.2⟩
theorem least_free (P:Nat→Bool): ∀n,(∀p,p<n→P p=true)∨ ∃t,t<n∧P t=false∧ ∀p,p<t→P p=true
 | 0=> .inl (fun p hp=>absurd hp (Nat.not_lt_zero p))
 | n+1=>by
  rcases least_free P n with h | ⟨t,h1,h2,h3⟩
  ·cases hn:P n with
   | true=>exact .inl (fun p hp=>by
     rcases Nat.lt_succ_iff_lt_or_eq.1 hp with q | q
     ·exact h p q
     ·rw [q];exact hn)
   | false=>exact .inr ⟨n,Nat.lt_succ_self n,hn,h⟩
  ·exact .inr ⟨t,by omega,h2,h3⟩
theorem take_inv {k:Nat}{m o:BM}{U O:List Nat}(i:Inv k m U)(j:Inv k o O)(h:8≤k∧k≤512):
  (∃(t:Nat) (m':BM),takeM m o 1=(m',(t:Int),0)∧(2≤t∧t<k)∧t∉U∧t∉O∧Inv k m' (t::U))∨((takeM m o 1).2.2=5∧ ¬Fre k U O 1):=by
 have hp:=i.p
 have h1:(!alikeM m o)=false:=by rw [inv_alike2 i j h];rfl
 rcases least_free (bothAt m o) k with hall | ⟨t,ht,hf,hb⟩
 ·refine .inr ⟨?_, ?_⟩
  ·have hs:seek m o 1 m.p.toNat 0=none:=seek_none _ _ _ _ (fun p hp'=>hall p (by omega))
   rw [takeM,h1,hs];rfl
  ·rintro ⟨l,l1,l2,l3⟩
   cases l with
   | nil=>cases l1
   | cons a l=>
    obtain⟨⟨q1,q2⟩,q3,q4⟩:=l3 a (List.mem_cons_self ..)
    rcases(both_use i j a).1 (hall a q2) with c | c | c
    ·omega
    ·exact q3 c
    ·exact q4 c
 ·have hno: ¬(t<2∨t∈U∨t∈O):=fun c=>by rw [(both_use i j t).2 c] at hf;cases hf
  have ht2:2≤t:=by omega
  have hU:t∉U:=fun c=>hno (.inr (.inl c))
  have hO:t∉O:=fun c=>hno (.inr (.inr c))
  have htl:t<m.u.length:=by rw [i.len];omega
  have hs:seek m o 1 m.p.toNat 0=some t:=seek_some _ _ t hf hb _ _ (Nat.zero_le _) (by omega)
  have hft:useAt m.u t=false:=by
   cases hu:useAt m.u t
   ·rfl
   ·exact absurd ((i.use t).1 hu) (fun c=>c.elim (by omega) hU)
  refine .inl ⟨t,⟨m.p,m.u.set t true⟩, ?_,⟨ht2,ht⟩,hU,hO, ?_⟩
  ·rw [takeM,h1,hs];rfl
  ·refine⟨by simp [i.len],i.p,fun q=>?_,fun a ha=>?_,List.nodup_cons.2 ⟨hU,i.nodup⟩, ?_⟩
   ·simp only [useAt_set _ _ _ _ htl]
    by_cases e:q=t
    ·subst e;simp
    ·rw [if_neg e,i.use];simp [e]
   ·rcases List.mem_cons.1 ha with rfl | ha
    ·exact⟨ht2,ht⟩
    ·exact i.rng a ha
   ·have:=freeTo_take m.p m.u t htl (by rw [i.p];omega) hft 512 (by omega)
    have hfr:=i.free
    simp only [lCn]
    show freeTo _ 512+2+_=k
    have:freeM m=freeTo ⟨m.p,m.u⟩ 512:=rfl
    omega
theorem give_inv {k:Nat}{m:BM}{R:List Nat}{x:Nat}(i:Inv k m (x::R))(h:8≤k∧k≤512): ∃m',giveM m (x:Int) 1=(m',0)∧Inv k m' R:=
 ⟨_,(Inv.give (A:= []) i h).1,(Inv.give (A:= []) i h).2⟩
structure VG (k:Nat)(U O:List Nat)(v:VS):Prop where
 k8:8≤k∧k≤512
 on:v.S.on
 len:v.S.A.length=k*256
 gen:v.gen<18446744073709551616
 m:Inv k v.m U
 o:Inv k v.old O
 w: ∀x∈v.S.W,2≤x.1/4∧x.1/4∉O
theorem VG.ok {k:Nat}{U O:List Nat}{v:VS}(h:VG k U O v):v.ok:=⟨h.on.1,h.gen,h.m.len,h.o.len⟩
theorem VG.perm {k:Nat}{U U' O:List Nat}{v:VS}(h:VG k U O v)(p:U.Perm U'):VG k U' O v:=⟨h.k8,h.on,h.len,h.gen,inv_perm h.m p,h.o,h.w⟩
theorem VG.give {k:Nat}{R O:List Nat}{v:VS}{x:Nat}(h:VG k (x::R) O v): ∃v',giN v (x:Int)=(v',0)∧v'.S=v.S∧VG k R O v':=by
 obtain⟨m',h1,h2⟩:=give_inv h.m h.k8
 refine⟨⟨v.S,v.gen,m',v.old⟩, ?_,rfl,⟨h.k8,h.on,h.len,h.gen,h2,h.o,h.w⟩⟩
 rw [giN,h1,if_pos rfl]
theorem fitk {j k:Nat}(h:j<k):j*256+256≤k*256:=by
 have:=Nat.mul_le_mul_right 256 (show j+1≤k from h)
 rw [Nat.add_mul] at this
 exact this
theorem wrs_W: ∀(bs:List (List UInt8)) (S:DS) (i:Nat), ∀x∈(S.wrs (i:Int) bs).1.W,x∈S.W∨(i≤x.1∧x.1<i+bs.length)
 | [],S,i,x,hx=> .inl hx
 | b::bs,S,i,x,hx=>by
  have hw: ∀y∈(S.wr (i:Int) b).1.W,y∈S.W∨y.1=i:=by
   intro y hy
   unfold DS.wr at hy
   split at hy
   ·exact .inl hy
   ·split at hy
    ·exact .inl hy
    ·split at hy
     ·exact .inl hy
     ·rcases List.mem_append.1 hy with c | c
      ·exact .inl c
      ·rw [List.mem_singleton.1 c]
       exact .inr (by simp)
  have he:S.wrs (i:Int) (b::bs)=if(S.wr (i:Int) b).2=0 then(S.wr (i:Int) b).1.wrs ((i:Int)+1) bs else S.wr (i:Int) b:=rfl
  rw [he] at hx
  rw [lCn]
  split at hx
  ·have e1:((i:Int)+1)=((i+1:Nat):Int):=by omega
   rw [e1] at hx
   rcases wrs_W bs _ (i+1) x hx with c | c
   ·rcases hw x c with c | c
    ·exact .inl c
    ·exact .inr (by omega)
   ·exact .inr (by omega)
  ·rcases hw x hx with c | c
   ·exact .inl c
   ·exact .inr (by omega)
theorem VG.wr {k:Nat}{U O:List Nat}{v:VS}{leaf:Bool}{x:ND3}(h:VG k U O v)(hr:rightN leaf x.E x.K x.D=true)(hE: ∀e∈x.E,entR e)(hK: ∀k∈x.K,keyR k):
  (∃(t:Nat) (v':VS),wrN v leaf x=(v',(t:Int),0)∧VG k (t::U) O v'∧(2≤t∧t<k)∧t∉U∧t∉O∧rdN v'.S (t:Int) leaf=⟨leaf,x.E,x.K,x.D,0⟩∧v'.S.W.length≤v.S.W.length+4∧ ∀(j:Nat),j<k→j≠t→pgAt v'.S.V j=pgAt v.S.V j∧ ∀lf,rdN v'.S (j:Int) lf=rdN v.S (j:Int) lf)
  ∨((wrN v leaf x).2.2=5∧(wrN v leaf x).1.S=v.S∧ ¬Fre k U O 1):=by
 rcases take_inv h.m h.o h.k8 with ⟨t,m',ht,ht2,hU,hO,hi⟩ | ⟨h5,hn⟩
 ·refine .inl ⟨t, ?_⟩
  obtain⟨q,hq⟩: ∃q:PG,q=⟨kindN leaf,(t:Int),v.gen,putN leaf x.E x.K x.D⟩:=⟨_,rfl⟩
  have hk:=h.k8
  have hok:okP q=true:=by
   have hb:=putN_len hr
   rw [hq]
   show (knownK (kindN leaf) && decide ((0:Int)≤(t:Int)) && decide ((t:Int)<512) && decide ((putN leaf x.E x.K x.D).length≤238))=true
   rw [kindN_known,dTt (by omega),dTt (by omega),dTt hb];rfl
  have hpl:(putP q).length=256:=putP_length q (okP_spec hok).2.2.2
  have hfit:t*256+256≤v.S.A.length:=by rw [h.len];exact fitk ht2.2
  obtain⟨w1,w2,w3,w4,w5⟩:=DS.wrs_page h.on t (putP q) hpl hfit
  have hwp:wrPg v.S q=v.S.wrs ((t:Int)*4) (secs (putP q) 4):=by rw [wrPg,if_pos hok,hq]
  have hVl:v.S.V.length=k*256:=by rw [DS.V_length h.on.1,h.len]
  have hgp:=get_put q hok (by rw [hq];show v.gen<_;exact h.gen)
  have hww: ∀x∈(v.S.wrs ((t:Int)*4) (secs (putP q) 4)).1.W,2≤x.1/4∧x.1/4∉O:=by
   intro x hx
   have e4:(t:Int)*4=((t*4:Nat):Int):=by omega
   rw [e4] at hx
   rcases wrs_W (secs (putP q) 4) v.S (t*4) x hx with c | ⟨c1,c2⟩
   ·exact h.w x c
   ·rw [secs_length] at c2
    have e5:x.1/4=t:=by omega
    rw [e5];exact⟨ht2.1,hO⟩
  generalize v.S.wrs ((t:Int)*4) (secs (putP q) 4)=R at*
  have hrdc: ∀kd,rdPg R.1 (t:Int) kd=if kindN leaf=kd then(q,0) else(zeroP,3):=by
   intro kd
   rw [rdPg_on w2 t (by rw [w4];exact hfit),w3,pgAt_same _ _ _ (by rw [hVl];exact fitk ht2.2) hpl,hgp]
   have e1:q.a=(t:Int):=by rw [hq]
   have e2:q.k=kindN leaf:=by rw [hq]
   by_cases hk:kindN leaf=kd
   ·rw [if_pos hk,if_pos ⟨rfl,e1,by rw [←hk];exact e2⟩]
   ·rw [if_neg hk,if_neg (fun z=>hk (by rw [←e2];exact z.2.2))]
  have hlen:R.1.A.length=k*256:=by rw [w4,h.len]
  refine⟨⟨R.1,v.gen,m',v.old⟩, ?_,⟨hk,w2,hlen,h.gen,hi,h.o,hww⟩,ht2,hU,hO, ?_, ?_, ?_⟩
  ·rw [wrN,if_neg (by rw [hr];simp),ht,if_neg (by simp), ←hq,hwp]
   simp only [w1]
  ·show rdN R.1 (t:Int) leaf=_
   have hb:q.b=putN leaf x.E x.K x.D:=by rw [hq]
   rw [rdN,hrdc,if_pos rfl,if_pos rfl,hb]
   exact getN_put hr hE hK
  ·show R.1.W.length≤_
   have:=w5;omega
  ·intro j hj hjc
   have ep:pgAt R.1.V j=pgAt v.S.V j:=by rw [w3,pgAt_other _ _ _ _ (by rw [hVl];exact fitk ht2.2) hpl hjc]
   refine⟨ep,fun lf=>?_⟩
   show rdN R.1 (j:Int) lf=_
   have e:rdPg R.1 (j:Int) (kindN lf)=rdPg v.S (j:Int) (kindN lf):=by
    rw [rdPg_on w2 j (by rw [hlen];exact fitk hj),rdPg_on h.on j (by rw [h.len];exact fitk hj),ep]
   rw [rdN,rdN,e]
 ·refine .inr ?_
  have e:wrN v leaf x=(v,0,5):=by rw [wrN,if_neg (by rw [hr];simp),if_pos (by rw [h5];decide),h5]
  rw [e]
  exact⟨rfl,rfl,hn⟩
def runF (m o:BM)(t n:Nat):Prop:= ∀i,t≤i→i<t+n→bothAt m o i=false
theorem runTo_free (m o:BM): ∀j,runF m o (j-runTo m o j) (runTo m o j)
 | 0=>fun i h1 h2=>by
  have:runTo m o 0=0:=rfl
  rw [this] at h2;omega
 | j+1=>fun i h1 h2=>by
  have ih:=runTo_free m o j
  have hle:=runTo_le m o j
  rw [runTo] at h1 h2
  cases hb:bothAt m o j with
  | true=>rw [hb,if_pos rfl] at h1 h2;omega
  | false=>
   rw [hb,if_neg (by simp)] at h1 h2
   by_cases e:i=j
   ·rw [e];exact hb
   ·exact ih i (by omega) (by omega)
theorem seek_some2 (m o:BM)(n:Nat)(hn:1≤n): ∀f i t,seek m o (n:Int) f i=some t→t+n≤i+f∧runF m o t n
 | 0,i,t,h=>by cases h
 | f+1,i,t,h=>by
  rw [seek] at h
  split at h
  ·rename_i hr
   have hr':runTo m o (i+1)=n:=by omega
   have hle:=runTo_le m o (i+1)
   have hfr:=runTo_free m o (i+1)
   rw [hr'] at hfr hle
   have ht:i+1-n=t:=by
    have:=Option.some.inj h
    simpa using this
   rw [ht] at hfr
   exact⟨by omega,hfr⟩
  ·obtain⟨h1,h2⟩:=seek_some2 m o n hn f (i+1) t h
   exact⟨by omega,h2⟩
theorem seek_none2 (m o:BM)(n:Nat): ∀f i,seek m o (n:Int) f i=none→ ∀j,i<j→j≤i+f→runTo m o j≠n
 | 0,i,h,j,h1,h2=>by omega
 | f+1,i,h,j,h1,h2=>by
  rw [seek] at h
  split at h
  ·cases h
  ·rename_i hr
   by_cases e:j=i+1
   ·rw [e];intro c;exact hr (by rw [c])
   ·exact seek_none2 m o n f (i+1) h j (by omega) (by omega)
theorem runTo_less (m o:BM)(n N:Nat)(hn:1≤n)(h: ∀j,0<j→j≤N→runTo m o j≠n): ∀j,j≤N→runTo m o j<n
 | 0,_=>hn
 | j+1,hj=>by
  have ih:=runTo_less m o n N hn h j (by omega)
  have hne:=h (j+1) (by omega) hj
  rw [runTo] at hne ⊢
  split
  ·omega
  ·rename_i hb
   rw [if_neg hb] at hne
   omega
theorem runTo_ge (m o:BM)(t:Nat): ∀n,runF m o t n→n≤runTo m o (t+n)
 | 0,_=>Nat.zero_le _
 | n+1,h=>by
  have ih:=runTo_ge m o t n (fun i h1 h2=>h i h1 (by omega))
  show n+1≤runTo m o (t+n+1)
  rw [runTo,h (t+n) (by omega) (by omega),if_neg (by simp)]
  omega
theorem inv_set {k:Nat}{m:BM}{U:List Nat}{t:Nat}(i:Inv k m U)(h:8≤k∧k≤512)(ht:2≤t∧t<k)(hU:t∉U):Inv k ⟨m.p,m.u.set t true⟩ (t::U):=by
 have hp:=i.p
 have htl:t<m.u.length:=by rw [i.len];omega
 have hft:useAt m.u t=false:=by
  cases hu:useAt m.u t
  ·rfl
  ·exact absurd ((i.use t).1 hu) (fun c=>c.elim (by omega) hU)
 refine⟨by simp [i.len],i.p,fun q=>?_,fun a ha=>?_,List.nodup_cons.2 ⟨hU,i.nodup⟩, ?_⟩
 ·simp only [useAt_set _ _ _ _ htl]
  by_cases e:q=t
  ·subst e;simp
  ·rw [if_neg e,i.use];simp [e]
 ·rcases List.mem_cons.1 ha with rfl | ha
  ·exact ht
  ·exact i.rng a ha
 ·have:=freeTo_take m.p m.u t htl (by rw [i.p];omega) hft 512 (by omega)
  have hfr:=i.free
  simp only [lCn]
  show freeTo _ 512+2+_=k
  have:freeM m=freeTo ⟨m.p,m.u⟩ 512:=rfl
  omega
def runL (t n:Nat):List Nat:=List.range' t n
theorem runL_mem {t n i:Nat}:i∈runL t n↔t≤i∧i<t+n:=by
 rw [runL,List.mem_range'_1]
theorem inv_run {k:Nat}{m:BM}{U:List Nat}{t:Nat}(i:Inv k m U)(h:8≤k∧k≤512): ∀n,(∀p,t≤p→p<t+n→(2≤p∧p<k)∧p∉U)→Inv k ⟨m.p,setFrom m.u true t n⟩ (runL t n++U)
 | 0,_=>i
 | n+1,hf=>by
  have ih:=inv_run i h n (fun p h1 h2=>hf p h1 (by omega))
  obtain⟨h1,h2⟩:=hf (t+n) (by omega) (by omega)
  have hs:=inv_set ih h h1 (fun c=>by
   rcases List.mem_append.1 c with c | c
   ·have:=runL_mem.1 c;omega
   ·exact h2 c)
  refine inv_perm hs ?_
  have e:runL t (n+1)=runL t n++ [t+n] :=by rw [runL,List.range'_concat];simp [runL]
  rw [e,aAs]
  exact List.perm_middle.symm
theorem take_run {k:Nat}{m o:BM}{U O:List Nat}{n:Nat}(i:Inv k m U)(j:Inv k o O)(h:8≤k∧k≤512)(hn:1≤n):
  (∃(t:Nat) (m':BM),takeM m o (n:Int)=(m',(t:Int),0)∧(2≤t∧t+n≤k)∧(∀p∈runL t n,p∉U∧p∉O)∧Inv k m' (runL t n++U))∨((takeM m o (n:Int)).2.2=5∧ ∀t,t+n≤k→ ¬runF m o t n):=by
 have hp:=i.p
 have h1:(!alikeM m o)=false:=by rw [inv_alike2 i j h];rfl
 have hpk:m.p.toNat=k:=by omega
 have hd:decide ((n:Int)<1)=false:=dFf (by omega)
 cases hs:seek m o (n:Int) m.p.toNat 0 with
 | none=>
  refine .inr ⟨by rw [takeM,h1,hd,hs];rfl,fun t ht hr=>?_⟩
  have hno:=seek_none2 m o n _ _ hs
  rw [hpk] at hno
  have hl:=runTo_less m o n k hn (fun j h1 h2=>hno j h1 (by omega)) (t+n) ht
  have hg:=runTo_ge m o t n hr
  omega
 | some t=>
  obtain⟨s1,s2⟩:=seek_some2 m o n hn _ _ t hs
  rw [hpk] at s1
  have hfree: ∀p,t≤p→p<t+n→(2≤p∧p<k)∧p∉U∧p∉O:=fun p h1 h2=>by
   have hb:=s2 p h1 h2
   have hno: ¬(p<2∨p∈U∨p∈O):=fun c=>by rw [(both_use i j p).2 c] at hb;cases hb
   exact⟨⟨by omega,by omega⟩,fun c=>hno (.inr (.inl c)),fun c=>hno (.inr (.inr c))⟩
  have h2t:=(hfree t (Nat.le_refl _) (by omega)).1.1
  refine .inl ⟨t,⟨m.p,setFrom m.u true t n⟩, ?_,⟨h2t,by omega⟩,fun p hp'=>?_,inv_run i h n (fun p h1 h2=>⟨(hfree p h1 h2).1,(hfree p h1 h2).2.1⟩)⟩
  ·rw [takeM,h1,hd,hs];rfl
  ·obtain⟨q1,q2⟩:=runL_mem.1 hp'
   exact(hfree p q1 q2).2
end Go.Proofs.YtcglabmlhljkmaaGreat
