/- Texts of this claim, put together: PgRaw, PgRaw2, CrcPlain2, CrcBurstPlain, PgPlain, PgWalk, PgWalk2, PgWalk3, PgDisk, NdPlain, NdPlain2, NdWalk, NdWalk2, NdWalk3, NdWalk4, NdWalk5, NdWalk6. -/
import Derived.Test.YtcglabmlhljkmaaGreatZ02
import Derived.Test.YtcglabmlhljkmaaGreatZ01
import Derived.Test.YtcglabmlhljkmaaGreatZ00
set_option maxHeartbeats 64000000
set_option linter.unusedVariables false
set_option linter.unusedSimpArgs false
namespace Go.Proofs.YtcglabmlhljkmaaGreat
open Go Go.RowKit Go.Gv
def padN (n:Nat):Nat:=(256-n%256)%256
def padB (b:List UInt8):List UInt8:=b++List.replicate (padN b.length) 0
theorem padB_length (b:List UInt8):(padB b).length=b.length+padN b.length:=by simp [padB]
theorem padB_mod (b:List UInt8):(padB b).length%256=0:=by rw [padB_length];unfold padN;omega
structure RwS (S:DS)(i:Int)(b:List UInt8) where
 k:Nat
 hk:k*64≤b.length
 ok:(S.wrs i (secs b k)).2=0
structure RwE (S:DS)(i:Int)(b:List UInt8) where
 k:Nat
 hk:k*64+64≤b.length
 ok:(S.wrs i (secs b k)).2=0
 bad:(S.wrs i (secs b (k+1))).2≠0
theorem rwE_all {S:DS}{i:Int}{b:List UInt8}(x:RwE S i b)(hm:b.length%64=0):S.wrs i (secs b (b.length/64))=S.wrs i (secs b (x.k+1)):=by
 have h:=x.hk
 have:secs b (b.length/64)=secs b (x.k+1)++((List.range (b.length/64-(x.k+1))).map fun j=>sec b (x.k+1+j)):=by
  have e:b.length/64=(x.k+1)+(b.length/64-(x.k+1)):=by omega
  unfold secs
  conv=>lhs;rw [e]
  rw [List.range_add,List.map_append,List.map_map];rfl
 rw [this,DS.wrs_stop _ _ _ _ x.bad]
theorem rw_step {S:DS}{i:Int}{b:List UInt8}{k:Nat}(ok:(S.wrs i (secs b k)).2=0):S.wrs i (secs b (k+1))=(S.wrs i (secs b k)).1.wr (i+k) (sec b k):=by
 rw [secs_succ,DS.wrs_snoc _ _ _ _ ok,secs_length]
theorem rd_part {h:PH}{A:Option Addr}{m c k:Nat}{l:List UInt8}(hr:Rd h (.slice A m c) m (B8 l))(hl:l.length=m)(hk:k*64+64≤m):Rd h (.slice (A.map (·.add (k*64))) 64 64) (sec l k).length (B8 (sec l k)):=by
 have hs:=sec_length (b:=l) (j:=k) (by omega)
 obtain⟨A',c',hv,hc,h3⟩:=hr
 cases hv
 refine⟨_,_,by rw [hs],⟨by rw [hs];exact Nat.le_refl _,by unfold maxLen;omega⟩,fun j u hu=>?_⟩
 rw [show B8 (sec l k)=((B8 l).drop (k*64)).take 64 by simp [sec,B8,List.map_take,List.map_drop],List.getElem?_take] at hu
 split at hu
 ·rename_i hj
  rw [List.getElem?_drop] at hu
  obtain⟨a,rfl,cs,T,fr,g1,g2,g3⟩:=h3 _ u hu
  refine⟨a.add (k*64),rfl,cs,T,fr, ?_, ?_, ?_⟩
  ·have hb:(a.add (k*64)).block=a.block:=by unfold Addr.add;split<;>rfl
   rw [hb];exact g1
  ·rw [Addr.add_add];exact g2
  ·rw [Addr.add_add];exact g3
 ·cases hu
theorem page_WriteRaw (p:Nat)(S:DS)(addr:Int)(v:Value)(b:List UInt8)(h1:PH)(hr:Rd h1 v b.length (B8 b))(hS:S.ok)(hb:b.length≤100000)(hl:S.W.length+b.length≤900000)(ha: -1000000≤addr∧addr≤1000000):
  Gv.Spec Tryz.prog 79 #[.pointer (some ⟨p,0,none⟩), .int .i64 addr,v] [DSK p S,Ex h1]
  (fun r H'=>r= .int .i64 ((S.wrs (addr*4) (secs (padB b) ((padB b).length/64))).2:Int)∧H'= [DSK p (S.wrs (addr*4) (secs (padB b) ((padB b).length/64))).1,Ex h1]):=by
 refine Gv.Spec.of (fun w h0 hw=>?_)
 refine Calls.enterM Tryz.func79 rfl rfl rfl hw ?_
 simp only [argSlots]
 refine Wap ?_
 refine Ws ?_
 (refine Wbx ?_;intro b3)
 refine Ws ?_
 refine Zal fun b6=>?_
 refine Ws ?_
 refine Zcr (bytes_Clone v b (by omega)) ?_ (hpre:=by exact rdw_ex Wp hr)
 rintro u H' rfl
 refine Wap ?_
 refine Zat (own 5 1 u b.length (B8 b)) (own 5 1 u (b++List.replicate 0 0).length (B8 (b++List.replicate 0 0))) ?_ (e:=by rw [List.replicate_zero,List.append_nil])
 refine Ws ?_
 (refine Wl (α:=Σ' (j:Nat) (u:Value),j≤padN b.length) (fun x=>padN b.length-x.1) (fun x=> [(0, .pointer (some ⟨p,0,none⟩)),(1, .int .i64 addr),(2,x.2.1),(3, .pointer (some ⟨b3,0,none⟩)),(6, .pointer (some ⟨b6,0,none⟩))]) (fun x=> [own 5 1 x.2.1 (b++List.replicate x.1 0).length (B8 (b++List.replicate x.1 0)),blk b6 44 [.int .i64 0],blk b3 24 [.pointer (some ⟨p,0,none⟩)],DSK p S,Ex h1,Ex h0]) ⟨0,u,Nat.zero_le _⟩ ?_;rintro ⟨j,u,hj⟩ mx hmx;(try dsimp only at hmx ⊢))
 have hjl:(b++List.replicate j (0:UInt8)).length=b.length+j:=by simp
 refine Ws ?_
 (refine Wcd ?_ ?_<;>intro h)
 ·have hj':j<padN b.length:=by
   rw [hjl] at h
   unfold padN at hj ⊢;omega
  refine Ws ?_
  (refine Zli (ys:= [.int .u8 0]) ?_;intro vl)
  refine Ws ?_
  refine Zap ?_ (hr:=by exact rdw_own Wp) (hl:=by rfl) (h1:=by intro y hy;simp at hy;subst hy;rfl) (hb:=by rw [hjl];unfold padN at hj;omega)
  intro u'
  refine Ws ?_
  refine Zat (own 5 1 u' _ _) (own 5 1 u' (b++List.replicate (j+1) 0).length (B8 (b++List.replicate (j+1) 0))) ?_ (e:=by rw [List.replicate_succ', ←aAs,B8_append (b++List.replicate j 0) [0],List.length_append (bs:= [(0:UInt8)])];rfl)
  exact Zag ⟨j+1,u',by omega⟩
 ·have hje:j=padN b.length:=by
   rw [hjl] at h
   unfold padN at hj ⊢;omega
  subst hje
  obtain⟨B,hB⟩: ∃B,B=padB b:=⟨_,rfl⟩
  rw [show b++List.replicate (padN b.length) 0=B by rw [hB];rfl]
  rw [←hB]
  have hBm:B.length%256=0:=by rw [hB];exact padB_mod b
  have hBl:B.length≤b.length+255:=by rw [hB,padB_length];unfold padN;omega
  refine Tri.shut (e:=5) (size:=1) (v:=u) Wp (fun h2 ho=>?_)
  have hr2:=own_Rd ho
  obtain⟨A,c,hu,hmc,_⟩:=hr2.slice
  subst hu
  refine Ws ?_
  refine Zal fun b7=>?_
  refine Wr ?_
  refine Zcr (slices_Chunk A B.length c) ?_
  rintro r2 H2 ⟨b8,b9,rfl,rfl⟩
  refine Wap ?_
  refine Ws ?_
  refine Zat (blk b7 3 _) (blk b7 3 [.int .i64 (addr*4+((0:Nat):Int))]) ?_ (e:=by rw [show addr*4+((0:Nat):Int)=addr*4 by omega];rfl)
  refine TriR.range (α:=RwS S (addr*4) B) (β:=RwE S (addr*4) B) (γ:=Unit) RwS.k
   (fun x=> [blk b7 3 [.int .i64 (addr*4+(x.k:Int))],DSK p (S.wrs (addr*4) (secs B x.k)).1,Ex h2,blk b3 24 [.pointer (some ⟨p,0,none⟩)],blk b6 44 [.int .i64 0]]) ⟨0,by omega,rfl⟩ (fun _=> .ret)
   (fun y=> [DSK p (S.wrs (addr*4) (secs B (y.k+1))).1,blk b6 44 [.int .i64 ((S.wrs (addr*4) (secs B (y.k+1))).2:Int)]])
   (fun x _=> [(3, .pointer (some ⟨b3,0,none⟩)),(6, .pointer (some ⟨b6,0,none⟩)),(7, .pointer (some ⟨b7,0,none⟩)),(8, .slice (A.map (·.add (x.k*64))) 64 64)])
   (fun x _=> [blk b7 3 [.int .i64 (addr*4+(x.k:Int))],DSK p (S.wrs (addr*4) (secs B x.k)).1,Ex h2,blk b3 24 [.pointer (some ⟨p,0,none⟩)],blk b6 44 [.int .i64 0]])
   (chunk_iter A B.length c b8 b9 (by omega) ⟨hmc,by omega⟩) rfl rfl Wps ?_ ?_ ?_ ?_ ?_ ?_
  ·intro y hy
   obtain⟨k,_,rfl⟩:=List.mem_map.1 hy
   rfl
  ·intro q hq
   simp at hq
   subst hq
   rfl
  ·intro l x vs hvs hq
   obtain⟨_,rfl⟩:=chunks_of (by omega) hvs
   simp only [zipL]
   refine Wap ?_
   refine Ws ?_
   exact Zrc ()
  ·intro l x vs hvs z hq
   obtain⟨hk1,_⟩:=chunks_of (by omega) hvs
   have hxk:=x.hk
   have hS':=DS.wrs_ok (secs B x.k) (addr*4) hS
   have hlen:=(DS.wrs_len (secs B x.k) S (addr*4)).1
   rw [secs_length] at hlen
   have hst:=rw_step x.ok
   refine Wap ?_
   refine Ws ?_
   refine Zcs (disk_WriteD p (S.wrs (addr*4) (secs B x.k)).1 (addr*4+(x.k:Int)) (.slice (A.map (·.add (x.k*64))) 64 64) (sec B x.k) h2 (rd_part hr2 rfl hk1) hS' (by omega)) ?_
   rintro r3 H3 ⟨rfl,rfl⟩
   rw [←hst]
   refine Wap ?_
   refine Ws ?_
   by_cases hz:(S.wrs (addr*4) (secs B (x.k+1))).2=0
   ·refine Zz 29 false ?_ (hi:=by rw [hz];rfl)
    refine Wr ?_
    refine Zat (blk b7 3 _) (blk b7 3 [.int .i64 (addr*4+((x.k+1:Nat):Int))]) ?_ (e:=by rw [show addr*4+((x.k+1:Nat):Int)=addr*4+(x.k:Int)+1 by omega];rfl)
    refine Wr ?_
    ((with_reducible apply Tri.rdEnd (y:=⟨x.k+1,by omega,hz⟩));(case hk=>rfl);(case p=>((try dsimp only [cAp,nAp]);(repeat (first | exact Pulls.nil | (apply Pulls.cons;(case a=>(first | ((repeat (first | with_reducible exact Gv.Pull.head | with_reducible apply Gv.Pull.tail));done) | (repeat (first | exact Gv.Pull.head | apply Gv.Pull.tail))))))))))
   ·refine Zz 29 true ?_ (hi:=by rw [dTt];omega)
    refine Wr ?_
    ((with_reducible apply Tri.rdRet (y:=⟨x.k,by omega,x.ok,hz⟩));(case hj=>rfl);(case p=>((try dsimp only [cAp,nAp]);(repeat (first | exact Pulls.nil | (apply Pulls.cons;(case a=>(first | ((repeat (first | with_reducible exact Gv.Pull.head | with_reducible apply Gv.Pull.tail));done) | (repeat (first | exact Gv.Pull.head | apply Gv.Pull.tail))))))))))
  ·intro D y hy
   have e:y.k=B.length/64:=by rw [hy];simp [chunks]
   refine Wap ?_
   refine Wr ?_
   ((first | with_reducible apply Tri.finM1 | with_reducible apply Tri.finM1N);(case p=>(first | ((repeat (first | with_reducible exact Pull.head | with_reducible apply Pull.tail));done) | (repeat (first | exact Pull.head | apply Pull.tail))));(case hr=>rfl);(case h=>exact ResL.cons (Res1.cell rfl Wp rfl) (ResL.nil));(apply fin_R (Hn:= [DSK p (S.wrs (addr*4) (secs B y.k)).1,Ex h1]));(case p=>exact(by(repeat (first | exact Pulls.nil | (apply Pulls.cons;(case a=>(first | ((repeat (first | with_reducible exact Gv.Pull.head | with_reducible apply Gv.Pull.tail));done) | (repeat (first | exact Gv.Pull.head | apply Gv.Pull.tail)))))))));(rw [←e];exact⟨by rw [y.ok];rfl,rfl⟩))
  ·intro D y
   have e:=rwE_all y (by omega)
   refine Wap ?_
   refine Ws ?_
   ((first | with_reducible apply Tri.finM1 | with_reducible apply Tri.finM1N);(case p=>(first | ((repeat (first | with_reducible exact Pull.head | with_reducible apply Pull.tail));done) | (repeat (first | exact Pull.head | apply Pull.tail))));(case hr=>rfl);(case h=>exact ResL.cons (Res1.cell rfl Wp rfl) (ResL.nil));(apply fin_R (Hn:= [DSK p (S.wrs (addr*4) (secs B (y.k+1))).1,Ex h1]));(case p=>exact(by(repeat (first | exact Pulls.nil | (apply Pulls.cons;(case a=>(first | ((repeat (first | with_reducible exact Gv.Pull.head | with_reducible apply Gv.Pull.tail));done) | (repeat (first | exact Gv.Pull.head | apply Gv.Pull.tail)))))))));(rw [e];exact⟨rfl,rfl⟩))
def rdE (S:DS)(i:Int):Nat→Nat
 | 0=>0
 | k+1=>if rdE S i k≠0 then rdE S i k else mayE S.off S.A.length (i+(k:Int))
theorem rdE_ok {S:DS}{i:Int}: ∀{k:Nat},rdE S i k=0→ ∀j<k,mayE S.off S.A.length (i+(j:Int))=0
 | 0,_,j,hj=>absurd hj (by omega)
 | k+1,h,j,hj=>by
  rw [rdE] at h
  split at h
  ·rename_i h';exact absurd h h'
  ·rename_i h'
   by_cases e:j=k
   ·rw [e];exact h
   ·exact rdE_ok (k:=k) (Classical.byContradiction h') j (by omega)
theorem rdE_mono {S:DS}{i:Int}{k:Nat}(h:rdE S i k≠0): ∀m,rdE S i (k+m)=rdE S i k
 | 0=>rfl
 | m+1=>by
  have ih:=rdE_mono h m
  show (if rdE S i (k+m)≠0 then rdE S i (k+m) else _)=_
  rw [ih,if_pos h]
theorem rdE_of {S:DS}{a:Nat}(ho:S.off=false): ∀k,(a+k)*64≤S.A.length→rdE S (a:Int) k=0
 | 0,_=>rfl
 | k+1,h=>by
  rw [rdE,if_neg (by rw [rdE_of ho k (by omega)];simp),ho]
  exact mayD_of (i:=a+k) (by omega)
theorem text_step (V:List UInt8)(a k:Nat)(h:(a*4+k)*64+64≤V.length):(V.drop (a*256)).take (k*64)++sec V (a*4+k)=(V.drop (a*256)).take ((k+1)*64):=by
 rw [show (k+1)*64=k*64+64 by omega,List.take_add,sec,List.drop_drop,show (a*4+k)*64=a*256+k*64 by omega]
theorem rd_cut {h:PH}{A:Option Addr}{m c k:Nat}{l:List UInt8}(hr:Rd h (.slice A m c) m (B8 l))(hl:l.length=m)(hk:k≤m):Rd h (.slice A k k) (l.take k).length (B8 (l.take k)):=by
 obtain⟨A',c',hv,hc,h3⟩:=hr
 cases hv
 have e:(l.take k).length=k:=by rw [lTk];omega
 refine⟨A,k,by rw [e],⟨by omega,by omega⟩,fun j u hu=>?_⟩
 rw [show B8 (l.take k)=(B8 l).take k by simp [B8,List.map_take],List.getElem?_take] at hu
 split at hu
 ·exact h3 j u hu
 ·cases hu
theorem page_ReadRaw (p:Nat)(S:DS)(addr:Int)(n:Nat)(hS:S.ok)(hl:S.W.length≤1000000)(hn:n≤100000)(ha: -1000000≤addr∧addr≤1000000):
  Gv.Spec Tryz.prog 133 #[.pointer (some ⟨p,0,none⟩), .int .i64 addr, .int .i64 (n:Int)] [DSK p S]
  (fun r H'=>(rdE S (addr*4) ((n+63)/64)≠0∧r= .tuple #[.slice none 0 0, .int .i64 (rdE S (addr*4) ((n+63)/64):Int)] ∧H'= [DSK p S])
   ∨(rdE S (addr*4) ((n+63)/64)=0∧ ∃A h1,r= .tuple #[.slice A n n, .int .i64 0] ∧Rd h1 (.slice A n n) ((S.V.drop (addr.toNat*256)).take n).length (B8 ((S.V.drop (addr.toNat*256)).take n))∧((S.V.drop (addr.toNat*256)).take n).length=n∧H'= [DSK p S,Ex h1])):=by
 refine Gv.Spec.of (fun w h0 hw=>?_)
 refine Calls.enter Tryz.func133 rfl rfl rfl hw ?_
 simp only [argSlots]
 refine Wap ?_
 have hVl:=DS.V_length hS
 refine Ws ?_
 refine Zz 13 false ?_ (hi:=by rw [dFf];omega)
 refine Ws ?_
 (with_reducible apply Tri.ownNil 5 1)
 refine Zat (own 5 1 (.slice none 0 0) 0 []) (own 5 1 (.slice none 0 0) (((S.V.drop (addr.toNat*256)).take (0*64))).length (B8 (((S.V.drop (addr.toNat*256)).take (0*64))))) ?_ (e:=by rw [Nat.zero_mul,List.take_zero];rfl)
 refine Zi 9 (addr*4+((0:Nat):Int)) ?_ (hi:=by omega)
 (refine Wl (α:=Σ' (k:Nat) (u:Value),k≤(n+63)/64∧rdE S (addr*4) k=0∧((S.V.drop (addr.toNat*256)).take (k*64)).length=k*64) (fun x=>(n+63)/64-x.1) (fun x=> [(0, .pointer (some ⟨p,0,none⟩)),(2, .int .i64 (n:Int)),(8,x.2.1),(9, .int .i64 (addr*4+(x.1:Int)))]) (fun x=> [own 5 1 x.2.1 (((S.V.drop (addr.toNat*256)).take (x.1*64))).length (B8 (((S.V.drop (addr.toNat*256)).take (x.1*64)))),DSK p S,Ex h0]) ⟨0, .slice none 0 0,Nat.zero_le _,rfl,by simp⟩ ?_;rintro ⟨k,u,hk,he,hkl⟩ mx hmx;(try dsimp only at hmx ⊢))
 refine Ws ?_
 (refine Wcd ?_ ?_<;>intro h)
 ·have hk':k<(n+63)/64:=by rw [hkl] at h;omega
  refine Ws ?_
  refine Zcs (disk_ReadD p S (addr*4+(k:Int)) hS hl) ?_
  rintro r H' (⟨hm,rfl,rfl⟩ | ⟨hm,v,rfl,rfl⟩)
  ·have hbad:rdE S (addr*4) (k+1)=mayE S.off S.A.length (addr*4+(k:Int)):=by rw [rdE,if_neg (by rw [he];simp)]
   have hall:rdE S (addr*4) ((n+63)/64)=mayE S.off S.A.length (addr*4+(k:Int)):=by
    have:=rdE_mono (S:=S) (i:=addr*4) (k:=k+1) (by rw [hbad];exact hm) ((n+63)/64-(k+1))
    rw [show k+1+((n+63)/64-(k+1))=(n+63)/64 by omega] at this
    rw [this,hbad]
   refine Wap ?_
   refine Ws ?_
   refine Zz 29 true ?_ (hi:=by rw [dTt];omega)
   refine Ws ?_
   exact Zfn [DSK p S] (hq:=by exact .inl ⟨by rw [hall];exact hm,by rw [hall];rfl,rfl⟩)
  ·obtain⟨_,hi0,hi1⟩:=mayD_ok hm
   have ha0:0≤addr:=by
    by_cases hk0:k=0
    ·subst hk0;omega
    ·have:=(mayD_ok (rdE_ok he 0 (by omega))).2.1
     omega
   have e1:(addr*4+(k:Int)).toNat=addr.toNat*4+k:=by omega
   rw [e1]
   rw [e1] at hi1
   have hstep:=text_step S.V addr.toNat k (by omega)
   have hsl:=sec_length (b:=S.V) (j:=addr.toNat*4+k) (by omega)
   have hok:rdE S (addr*4) (k+1)=0:=by rw [rdE,if_neg (by rw [he];simp)];exact hm
   have hnl:((S.V.drop (addr.toNat*256)).take ((k+1)*64)).length=(k+1)*64:=by
    rw [lTk,lDp];omega
   refine Wap ?_
   refine Ws ?_
   refine Zz 29 false ?_
   refine Ws ?_
   refine Zap ?_ (hr:=by exact rdw_own (v:=v) Wp) (hl:=by rw [B8_length,hsl]) (h1:=by intro y hy;obtain⟨c,_,rfl⟩:=List.mem_map.1 hy;rfl) (hb:=by rw [hkl];omega)
   intro u'
   refine Ws ?_
   refine Zat (own 5 1 u' _ _) (own 5 1 u' (((S.V.drop (addr.toNat*256)).take ((k+1)*64))).length (B8 (((S.V.drop (addr.toNat*256)).take ((k+1)*64))))) ?_ (e:=by rw [←hstep,B8_append,lAp,hsl])
   refine Zi 9 (addr*4+((k+1:Nat):Int)) ?_ (hi:=by omega)
   exact Zag ⟨k+1,u',by omega,hok,hnl⟩
 ·have hke:k=(n+63)/64:=by rw [hkl] at h;omega
  refine Tri.shut (e:=5) (size:=1) (v:=u) Wp (fun h1 ho=>?_)
  have hr:=own_Rd ho
  obtain⟨A,c,hu,hmc,_⟩:=hr.slice
  subst hu
  rw [hkl] at hmc
  have hcut:=rd_cut (k:=n) hr rfl (by rw [hkl];omega)
  rw [List.take_take,Nat.min_eq_left (by omega)] at hcut
  have hcl:((S.V.drop (addr.toNat*256)).take n).length=n:=by
   rw [lTk] at hkl ⊢
   omega
  refine Ws ?_
  refine Zoslice3 (lo:=0) (hi:=n) (mx:=n) ?_
  refine Zv 37 (.slice A n n) ?_ (hv:=by simp only [Nat.sub_zero,Nat.zero_mul];cases A<;>simp [Addr.add])
  refine Ws ?_
  exact Zfn [DSK p S,Ex h1] (hq:=by exact .inr ⟨by rw [←hke];exact he,A,h1,rfl,hcut,hcl,rfl⟩)
end Go.Proofs.YtcglabmlhljkmaaGreat
namespace Go.Gv
def low (n:UInt32):Bool:=n.toBitVec.getLsbD 0
def bit (b:Bool):UInt32:=if b then 1 else 0
def burst (k:Nat)(e:UInt32)(i:Nat):Bool:=decide (k≤i) && e.toBitVec.getLsbD (i-k)
def turnBit (l:List UInt8)(p:Nat):List UInt8:=l.set (p/8) (l.getD (p/8) 0 ^^^ (1<<<UInt8.ofNat (p%8)))
def turned (l:List UInt8)(k:Nat)(e:UInt32):Nat→List UInt8
 | 0=>l
 | i+1=>if e.toBitVec.getLsbD i then turnBit (turned l k e i) (k+i) else turned l k e i
theorem one_shl (j i:Nat)(hj:j<8):((1:UInt8)<<<UInt8.ofNat j).toBitVec.getLsbD i=decide (i=j):=by
 have: ∀j<8,((1:UInt8)<<<UInt8.ofNat j).toBitVec=BitVec.twoPow 8 j:=by decide
 rw [this j hj,BitVec.getLsbD_twoPow]
 simp [hj,eq_comm]
structure PG where
 k:UInt8
 a:Int
 g:Nat
 b:List UInt8
def zeroP:PG:=⟨0,0,0, []⟩
def knownK (k:UInt8):Bool:=decide (k.toNat=83) || decide (k.toNat=76) || decide (k.toNat=73) || decide (k.toNat=66)
def okP (p:PG):Bool:=knownK p.k && decide (0≤p.a) && decide (p.a<512) && decide (p.b.length≤238)
def bigB (n:Nat):Nat→List UInt8
 | 0=> []
 | k+1=>UInt8.ofNat (n/2 ^ (8*k))::bigB n k
theorem bigB_length (n:Nat): ∀k,(bigB n k).length=k
 | 0=>rfl
 | k+1=>by rw [bigB,lCn,bigB_length n k]
def headP (p:PG):List UInt8:= [p.k,0] ++bigB p.a.toNat 2++bigB p.g 8++bigB p.b.length 2++p.b++List.replicate (238-p.b.length) 0
def le4 (s:UInt32)(i:Nat):List UInt8:=(List.range i).map fun j=>(s>>>UInt32.ofNat (8*j)).toUInt8
def putP (p:PG):List UInt8:=headP p++le4 (crcSum (headP p)) 4
theorem headP_length (p:PG)(h:p.b.length≤238):(headP p).length=252:=by simp [headP,bigB_length];omega
theorem le4_length (s:UInt32)(i:Nat):(le4 s i).length=i:=by simp [le4]
theorem putP_length (p:PG)(h:p.b.length≤238):(putP p).length=256:=by rw [putP,lAp,headP_length p h,le4_length]
def numB (l:List UInt8):Nat:=l.foldl (fun n c=>n*256+c.toNat) 0
theorem numB_snoc (l:List UInt8)(c:UInt8):numB (l++ [c])=numB l*256+c.toNat:=by rw [numB,List.foldl_append];rfl
theorem numB_lt (l:List UInt8):numB l<256 ^ l.length:=by
 have: ∀(r:List UInt8),numB r.reverse<256 ^ r.length:=by
  intro r
  induction r with
  | nil=>simp [numB]
  | cons c r ih=>
   rw [List.reverse_cons,numB_snoc,lCn,Nat.pow_succ]
   have:=c.toNat_lt
   omega
 have h:=this l.reverse
 rwa [List.reverse_reverse,List.length_reverse] at h
theorem fold_big (n:Nat): ∀k m,(bigB n k).foldl (fun n c=>n*256+c.toNat) m=m*256 ^ k+n%256 ^ k
 | 0,m=>by simp [bigB,Nat.mod_one]
 | k+1,m=>by
  rw [bigB,List.foldl_cons,fold_big n k]
  have e:(UInt8.ofNat (n/2 ^ (8*k))).toNat=n/256 ^ k%256:=by
   rw [UInt8.toNat_ofNat',show (2:Nat) ^ (8*k)=256 ^ k by rw [Nat.pow_mul]]
  rw [e,Nat.pow_succ,Nat.add_mul,Nat.mul_assoc,Nat.mul_comm 256 (256 ^ k),Nat.add_assoc,Nat.mod_mul,Nat.mul_comm (n/256 ^ k%256),Nat.add_comm (256 ^ k*_)]
theorem num_big (n k:Nat):numB (bigB n k)=n%256 ^ k:=by rw [numB,fold_big];simp
def gotP (l:List UInt8)(n:Nat):PG:=⟨l.getD 0 0,(numB ((l.drop 2).take 2):Int),numB ((l.drop 4).take 8),(l.drop 14).take n⟩
def lenP (l:List UInt8):Nat:=numB ((l.drop 12).take 2)
def getP (l:List UInt8):PG×Nat:=if l.length≠256 then(zeroP,4) else if 238<lenP l then(zeroP,3) else if okP (gotP l (lenP l))=true∧putP (gotP l (lenP l))=l then(gotP l (lenP l),0) else(zeroP,3)
theorem okP_spec {p:PG}(h:okP p=true):knownK p.k=true∧0≤p.a∧p.a<512∧p.b.length≤238:=by
 simp only [okP,Bool.and_eq_true,decide_eq_true_eq] at h
 exact⟨h.1.1.1,h.1.1.2,h.1.2,h.2⟩
theorem seg {α:Type}(A B C:List α)(i n:Nat)(hA:A.length=i)(hB:B.length=n):((A++B++C).drop i).take n=B:=by
 subst hA;subst hB
 rw [aAs,List.drop_left,List.take_left]
theorem put_len (p:PG)(h:okP p=true):lenP (putP p)=p.b.length:=by
 have hs:=okP_spec h
 have e:putP p=([p.k,0] ++bigB p.a.toNat 2++bigB p.g 8)++bigB p.b.length 2++(p.b++List.replicate (238-p.b.length) 0++le4 (crcSum (headP p)) 4):=by simp [putP,headP]
 rw [lenP,e,seg _ _ _ 12 2 (by simp [bigB_length]) (bigB_length _ _),num_big]
 exact Nat.mod_eq_of_lt (by omega)
theorem put_got (p:PG)(h:okP p=true)(hg:p.g<18446744073709551616):gotP (putP p) p.b.length=p:=by
 have hs:=okP_spec h
 have e0:(putP p).getD 0 0=p.k:=by simp [putP,headP]
 have e1:putP p= [p.k,0] ++bigB p.a.toNat 2++(bigB p.g 8++bigB p.b.length 2++p.b++List.replicate (238-p.b.length) 0++le4 (crcSum (headP p)) 4):=by simp [putP,headP]
 have e2:putP p=([p.k,0] ++bigB p.a.toNat 2)++bigB p.g 8++(bigB p.b.length 2++p.b++List.replicate (238-p.b.length) 0++le4 (crcSum (headP p)) 4):=by simp [putP,headP]
 have e3:putP p=([p.k,0] ++bigB p.a.toNat 2++bigB p.g 8++bigB p.b.length 2)++p.b++(List.replicate (238-p.b.length) 0++le4 (crcSum (headP p)) 4):=by simp [putP,headP]
 have h1:numB (((putP p).drop 2).take 2)=p.a.toNat:=by
  rw [e1,seg _ _ _ 2 2 rfl (bigB_length _ _),num_big];exact Nat.mod_eq_of_lt (by omega)
 have h2:numB (((putP p).drop 4).take 8)=p.g:=by
  rw [e2,seg _ _ _ 4 8 (by simp [bigB_length]) (bigB_length _ _),num_big];exact Nat.mod_eq_of_lt (by omega)
 have h3:((putP p).drop 14).take p.b.length=p.b:=by
  rw [e3,seg _ _ _ 14 p.b.length (by simp [bigB_length]) rfl]
 unfold gotP
 rw [e0,h1,h2,h3,show ((p.a.toNat:Nat):Int)=p.a by omega]
theorem get_put (p:PG)(h:okP p=true)(hg:p.g<18446744073709551616):getP (putP p)=(p,0):=by
 have hs:=okP_spec h
 rw [getP,if_neg (by rw [putP_length p hs.2.2.2];simp),put_len p h,if_neg (by omega),put_got p h hg,if_pos ⟨h,rfl⟩]
end Go.Gv
namespace Go.Proofs.YtcglabmlhljkmaaGreat
open Go Go.RowKit Go.Gv
def pgL (p:PG)(v:Value):List Value:= [.int .u8 (p.k.toNat:Int), .int .i64 p.a, .int .u64 (p.g:Int),v]
def pgV (p:PG)(v:Value):Value:= .agg (pgL p v).toArray
theorem bytes_eq' (a b:List UInt8):decide ((⟨a.toArray⟩:ByteArray)=⟨b.toArray⟩)=decide (a=b):=by
 apply decide_eq_decide.2
 constructor
 ·intro h
  have:=congrArg ByteArray.data h
  simpa using this
 ·rintro rfl;rfl
theorem page_known (k:UInt8):SpecR Tryz.prog 195 #[.int .u8 (k.toNat:Int)] (fun _=>True) (fun r H'=>r= .bool (knownK k)∧H'= []):=by
 refine SpecR.of (fun w _=>?_)
 refine Calls.enter Tryz.func195 rfl rfl rfl (St.rebase w) ?_
 simp only [argSlots]
 refine Ws ?_
 (refine ZcB 4 ?_ ?_<;>intro h1)
 ·have g1:=of_decide_eq_true h1
  refine Ws ?_
  exact Zfr (hq:=by simp only [tupled];(rw [knownK,dTt (show k.toNat=83 by omega)];rfl))
 ·have g1:=of_decide_eq_false h1
  refine Ws ?_
  (refine ZcB 4 ?_ ?_<;>intro h2)
  ·have g2:=of_decide_eq_true h2
   refine Ws ?_
   exact Zfr (hq:=by simp only [tupled];(rw [knownK,dTt (show k.toNat=76 by omega),Bool.or_true];rfl))
  ·have g2:=of_decide_eq_false h2
   refine Ws ?_
   (refine ZcB 4 ?_ ?_<;>intro h3)
   ·have g3:=of_decide_eq_true h3
    refine Ws ?_
    exact Zfr (hq:=by simp only [tupled];(rw [knownK,dTt (show k.toNat=73 by omega),Bool.or_true];rfl))
   ·have g3:=of_decide_eq_false h3
    refine Ws ?_
    (refine ZcB 4 ?_ ?_<;>intro h4)
    ·have g4:=of_decide_eq_true h4
     refine Ws ?_
     exact Zfr (hq:=by simp only [tupled];(rw [knownK,dTt (show k.toNat=66 by omega),Bool.or_true]))
    ·have g4:=of_decide_eq_false h4
     refine Ws ?_
     exact Zfr (hq:=by simp only [tupled];(rw [knownK,dFf (show ¬k.toNat=83 by omega),dFf (show ¬k.toNat=76 by omega),dFf (show ¬k.toNat=73 by omega),dFf (show ¬k.toNat=66 by omega)];rfl))
theorem pgL_len (p:PG)(v:Value):(pgL p v).length=4:=rfl
theorem pgL_one (p:PG)(A:Option Addr)(m c:Nat): ∀y∈pgL p (.slice A m c),y.oneCell'=true:=by
 intro y hy;simp [pgL] at hy;rcases hy with rfl | rfl | rfl | rfl<;>rfl
theorem byte_shr (n k:Nat)(hk:k<8):((n:Int)/2 ^ min (8*(k:Int)).toNat IntKind.u64.bits)%256=((UInt8.ofNat (n/2 ^ (8*k))).toNat:Int):=by
 have e:min (8*(k:Int)).toNat IntKind.u64.bits=8*k:=by
  show min (8*(k:Int)).toNat 64=8*k
  omega
 rw [e,UInt8.toNat_ofNat',Int.natCast_emod,Int.natCast_ediv,Int.natCast_pow];rfl
theorem page_big (v:Value)(l:List UInt8)(n size:Nat)(hs:size≤8)(hl:l.length≤1000000):Gv.Spec Tryz.prog 196 #[v, .int .u64 (n:Int), .int .i64 (size:Int)] [own 5 1 v l.length (B8 l)]
  (fun r H'=>H'= [own 5 1 r (l++bigB n size).length (B8 (l++bigB n size))]):=by
 refine Gv.Spec.of (fun w h0 hw=>?_)
 refine Calls.enter Tryz.func196 rfl rfl rfl hw ?_
 simp only [argSlots]
 refine Wap ?_
 refine Ws ?_
 (refine Wl (α:=Σ' (k:Nat) (c:List UInt8) (u:Value),k≤size∧c++bigB n k=l++bigB n size) (fun x=>x.1) (fun x=> [(0,x.2.2.1),(1, .int .u64 (n:Int)),(7, .int .i64 ((x.1:Int)-1))]) (fun x=> [own 5 1 x.2.2.1 x.2.1.length (B8 x.2.1),Ex h0]) ⟨size,l,v,Nat.le_refl _,rfl⟩ ?_;rintro ⟨k,c,u,hk,hc⟩ mx hmx;(try dsimp only at hmx ⊢))
 have hcl:c.length+k=l.length+size:=by
  have:=congrArg List.length hc
  simpa [bigB_length] using this
 refine Ws ?_
 (refine Wcd ?_ ?_<;>intro h)
 ·obtain⟨j,rfl⟩: ∃j,k=j+1:=⟨k-1,by omega⟩
  refine Ws ?_
  refine Zi 19 ((UInt8.ofNat (n/2 ^ (8*j))).toNat:Int) ?_ (hi:=by rw [show ((j+1:Nat):Int)-1=(j:Int) by omega];exact byte_shr n j (by omega))
  (refine Zli (ys:= [.int .u8 ((UInt8.ofNat (n/2 ^ (8*j))).toNat:Int)]) ?_;intro vl)
  refine Ws ?_
  refine Zap ?_ (hr:=by exact rdw_own Wp) (hl:=by rfl) (h1:=by intro y hy;simp at hy;subst hy;rfl)
  intro u'
  refine Ws ?_
  refine Zat (own 5 1 u' _ _) (own 5 1 u' (c++ [UInt8.ofNat (n/2 ^ (8*j))]).length (B8 (c++ [UInt8.ofNat (n/2 ^ (8*j))]))) ?_ (e:=by rw [B8_append,lAp];rfl)
  refine Zi 7 ((j:Int)-1) ?_ (hi:=by omega)
  exact Zag ⟨j,c++ [UInt8.ofNat (n/2 ^ (8*j))],u',by omega,by rw [←hc,bigB];simp⟩
 ·obtain rfl:k=0:=by omega
  have hce:c=l++bigB n size:=by rw [←hc];simp [bigB]
  refine Ws ?_
  refine Zat (own 5 1 u _ _) (own 5 1 u (l++bigB n size).length (B8 (l++bigB n size))) ?_ (e:=by rw [hce])
  refine Zfn [own 5 1 u (l++bigB n size).length (B8 (l++bigB n size))] (hq:=?_)
  rfl
theorem or8_64 (m:Nat)(y:UInt8)(hm:m*256+256≤18446744073709551616):Go.bits .or .u64 (IntKind.u64.wrap ((m:Int)*2 ^ min (Int.toNat 8) IntKind.u64.bits)) (y.toNat:Int)=((m*256+y.toNat:Nat):Int):=by
 have hy:=y.toNat_lt
 have e1:IntKind.u64.wrap ((m:Int)*2 ^ min (Int.toNat 8) IntKind.u64.bits)=((m*256:Nat):Int):=by
  rw [show (2:Int) ^ min (Int.toNat 8) IntKind.u64.bits=256 from rfl,wrap_u64 (by omega)];omega
 rw [e1]
 have e2:((BitVec.ofInt 64 ((m*256:Nat):Int) ||| BitVec.ofInt 64 ((y.toNat:Nat):Int)).toNat)=m*256+y.toNat:=by
  rw [ofInt_nat,ofInt_nat,BitVec.toNat_or,BitVec.toNat_ofNat,BitVec.toNat_ofNat,Nat.mod_eq_of_lt (by omega),Nat.mod_eq_of_lt (by omega)]
  have:=Nat.shiftLeft_add_eq_or_of_lt (i:=8) (b:=y.toNat) hy m
  rw [Nat.shiftLeft_eq] at this
  exact this.symm
 show IntKind.u64.wrap (((BitVec.ofInt 64 ((m*256:Nat):Int) ||| BitVec.ofInt 64 ((y.toNat:Nat):Int)).toNat:Nat):Int)=_
 rw [e2,wrap_u64 (by omega)]
theorem numB_take (l:List UInt8)(k:Nat)(hk:k<l.length):numB (l.take (k+1))=numB (l.take k)*256+(l[k]'hk).toNat:=by
 rw [List.take_succ_eq_append_getElem hk,numB_snoc]
theorem page_number (v:Value)(l:List UInt8)(hl:l.length≤8):SpecR Tryz.prog 172 #[v] (fun w=>RdW w v l.length (B8 l)) (fun r H'=>r= .int .u64 (numB l:Int)∧H'= []):=by
 refine SpecR.of (fun w hr=>?_)
 refine Calls.enter Tryz.func172 rfl rfl rfl (St.rebase w) ?_
 simp only [argSlots]
 refine Ws ?_
 refine Zlr2 (hr:=hr) ?_
 refine Ws ?_
 (refine Wl (α:={ k:Nat//k≤l.length }) (fun x=>l.length-x.1) (fun x=> [(3, .int .u64 (numB (l.take x.1):Int)),(6,v),(7, .int .i64 (l.length:Int)),(8, .int .i64 (x.1:Int))]) (fun x=> [Ex (hp w)]) ⟨0,Nat.zero_le _⟩ ?_;rintro ⟨k,hk⟩ mx hmx;(try dsimp only at hmx ⊢))
 refine Ws ?_
 (refine Wcd ?_ ?_<;>intro h)
 ·have hk':k<l.length:=by omega
  have hb:=numB_lt (l.take k)
  have hb2:numB (l.take k)<256 ^ 7:=Nat.lt_of_lt_of_le hb (Nat.pow_le_pow_right (by omega) (by rw [lTk];omega))
  refine Ws ?_
  refine Zir (hr:=hr) (j:=k) ?_ (hj:=by rfl) (hlt:=by exact hk') (hl:=by rw [B8_length];omega)
  refine Ws ?_
  refine Zlr (hr:=hr) ?_ (hv:=by exact(by rw [Nat.mul_one];exact B8_get l k hk'))
  refine Ws ?_
  have hy:(((l[k]'hk').toNat:Nat):Int)%18446744073709551616=((l[k]'hk').toNat:Int):=by have:=(l[k]'hk').toNat_lt;omega
  have hor:=or8_64 (numB (l.take k)) (l[k]'hk') (by omega)
  refine Zi 3 (numB (l.take (k+1)):Int) ?_ (hi:=by rw [numB_take l k hk',hy];exact hor)
  exact Zag ⟨k+1,by omega⟩
 ·have hke:k=l.length:=by omega
  refine Ws ?_
  exact Zfr (hq:=by simp only [tupled];(rw [hke,List.take_length]))
theorem page_Put_no (p:PG)(v:Value)(h:okP p=false):SpecR Tryz.prog 165 #[tabV,pgV p v] (fun w=>RdW w v p.b.length (B8 p.b)) (fun r H'=>r= .tuple #[.slice none 0 0, .int .i64 1] ∧H'= []):=by
 refine SpecR.of (fun w hr=>?_)
 have hlen:=hr.le
 refine Calls.enter Tryz.func165 rfl rfl rfl (St.rebase w) ?_
 simp only [argSlots]
 refine Ws ?_
 (refine Wbx ?_;intro b2)
 refine Ws ?_
 (refine Wbx ?_;intro b3)
 refine Ws ?_
 refine Zcv (page_known p.k) ?_
 refine Ws ?_
 (refine ZcB 13 ?_ ?_<;>intro h1)
 ·refine Ws ?_
  exact Zfr (hq:=by simp only [tupled];done)
 ·refine Ws ?_
  (refine ZcB 18 ?_ ?_<;>intro h2)
  ·refine Ws ?_
   exact Zfr (hq:=by simp only [tupled];done)
  ·have g2:=of_decide_eq_false h2
   refine Ws ?_
   (refine ZcB 23 ?_ ?_<;>intro h3)
   ·refine Ws ?_
    exact Zfr (hq:=by simp only [tupled];done)
   ·have g3:=of_decide_eq_false h3
    refine Ws ?_
    refine Zlr2 (hr:=hr) ?_
    refine Ws ?_
    (refine Wcd ?_ ?_<;>intro h4)
    ·refine Ws ?_
     exact Zfr (hq:=by simp only [tupled];done)
    ·exfalso
     have hk:knownK p.k=true:=by simpa using h1
     have:okP p=true:=by
      rw [okP,hk,dTt (show 0≤p.a by omega),dTt (show p.a<512 by omega),dTt (show p.b.length≤238 by omega)];rfl
     rw [this] at h;cases h
theorem own_list {t:TypeId}{v:Value}{n:Nat}{cs:List Value}{l:List UInt8}(h1:n=l.length)(h2:cs=B8 l):own t 1 v n cs=own t 1 v l.length (B8 l):=by rw [h1,h2]
theorem le4_next (s:UInt32)(j:Nat)(hj:j<4):((s.toNat:Int)/2 ^ min (8*(j:Int)).toNat IntKind.u32.bits)%256=(((s>>>UInt32.ofNat (8*j)).toUInt8).toNat:Int):=by
 have:=shr32 s (8*j) (by omega) (8*(j:Int)) (by omega)
 rw [this, ←wrapu8,low8]
theorem le4_succ (s:UInt32)(j:Nat):le4 s (j+1)=le4 s j++ [(s>>>UInt32.ofNat (8*j)).toUInt8] :=by rw [le4,List.range_succ,List.map_append];rfl
theorem page_Put (p:PG)(v:Value)(h:okP p=true)(hg:p.g<18446744073709551616):SpecR Tryz.prog 165 #[tabV,pgV p v] (fun w=>RdW w v p.b.length (B8 p.b)) (fun r H'=> ∃u,r= .tuple #[u, .int .i64 0] ∧H'= [own 5 1 u (putP p).length (B8 (putP p))]):=by
 refine SpecR.of (fun w hr=>?_)
 have hlen:=hr.le
 obtain⟨hk,ha0,ha1,hbl⟩:=okP_spec h
 refine Calls.enter Tryz.func165 rfl rfl rfl (St.rebase w) ?_
 simp only [argSlots]
 refine Ws ?_
 (refine Wbx ?_;intro b2)
 refine Ws ?_
 (refine Wbx ?_;intro b3)
 refine Ws ?_
 refine Zcv (page_known p.k) ?_
 refine Ws ?_
 refine Zz 13 false ?_ (hi:=by rw [hk];rfl)
 refine Ws ?_
 refine Zz 18 false ?_ (hi:=by exact dFf (by omega))
 refine Ws ?_
 refine Zz 23 false ?_ (hi:=by exact dFf (by omega))
 refine Ws ?_
 refine Zlr2 (hr:=hr) ?_
 refine Ws ?_
 refine Zz 28 false ?_ (hi:=by exact dFf (by omega))
 refine Ws ?_
 (refine Zli (ys:= [.int .u8 (p.k.toNat:Int), .int .u8 0]) ?_;intro v31)
 refine Zat (own 5 1 v31 _ _) (own 5 1 v31 [p.k,0].length (B8 [p.k,0])) ?_
 refine Ws ?_
 refine Zi 34 (p.a.toNat:Int) ?_ (hi:=by omega)
 refine Zcs (page_big v31 [p.k,0] p.a.toNat 2 (by omega) (by simp)) ?_
 rintro v6 H1 rfl
 obtain⟨c1,hc1⟩: ∃c1,c1= [p.k,0] ++bigB p.a.toNat 2:=⟨_,rfl⟩
 have hl1:c1.length=4:=by rw [hc1];rfl
 rw [←hc1]
 refine Wap ?_
 refine Ws ?_
 refine Wm [blk b3 172 (pgL p v)] ?_
 refine Wq [0,1,2,4,5] ?_
 refine Zm 6 (h:=fun _ _ qK=>by exact Zlr2 (hr:=hr) qK) (k:=?_)
 refine Wq [7] ?_
 refine ZA 3 ?_
 refine Zcs (page_big v6 c1 p.g 8 (by omega) (by omega)) ?_
 rintro v7 H2 rfl
 obtain⟨c2,hc2⟩: ∃c2,c2=c1++bigB p.g 8:=⟨_,rfl⟩
 have hl2:c2.length=12:=by rw [hc2,lAp,hl1,bigB_length]
 rw [←hc2]
 refine Wap ?_
 refine Zw ?_
 refine ZA 8 ?_
 refine Zcs (page_big v7 c2 p.b.length 2 (by omega) (by omega)) ?_
 rintro v8 H3 rfl
 obtain⟨c3,hc3⟩: ∃c3,c3=c2++bigB p.b.length 2:=⟨_,rfl⟩
 have hl3:c3.length=14:=by rw [hc3,lAp,hl2,bigB_length]
 rw [←hc3]
 refine Wap ?_
 refine Zw ?_
 refine Wq [9] ?_
 refine ZE ?_
 refine Ws ?_
 refine Zap ?_ (hr:=by exact rdw_ex Wp hr) (hl:=by exact B8_len1 p.b) (h1:=by exact B8_one p.b)
 intro v9
 refine Zat (own 5 1 v9 _ _) (own 5 1 v9 (c3++p.b).length (B8 (c3++p.b))) ?_ (e:=by rw [B8_append,lAp])
 have hl4:(c3++p.b).length=14+p.b.length:=by rw [lAp,hl3]
 refine Ws ?_
 refine Zi 52 ((238-p.b.length:Nat):Int) ?_ (hi:=by rw [hl4];omega)
 refine ZoappendZ (k:=238-p.b.length) ?_ (hi:=by rfl) (hb:=by rw [hl4];omega)
 intro v10
 have hh:headP p=c3++p.b++List.replicate (238-p.b.length) 0:=by rw [hc3,hc2,hc1];rfl
 have hhl:=headP_length p hbl
 refine Zat (own 5 1 v10 _ _) (own 5 1 v10 (headP p).length (B8 (headP p))) ?_ (e:=by exact own_list (by rw [hhl,hl4];omega) (by rw [hh,B8_append (c3++p.b)];congr 1;rw [B8,List.map_replicate];rfl))
 refine Ws ?_
 refine Zla ?_ (hl:=by exact tabL_length)
 refine Ws ?_
 refine Zcv (crc_Sum v10 (headP p)) ?_ (hpre:=by exact rdw_own Wp)
 obtain⟨s,hs⟩: ∃s,s=crcSum (headP p):=⟨_,rfl⟩
 simp only [←hs]
 refine Ws ?_
 refine Zat (own 5 1 v10 _ _) (own 5 1 v10 (headP p++le4 s 0).length (B8 (headP p++le4 s 0))) ?_ (e:=by rw [le4,List.range_zero,List.map_nil,List.append_nil])
 (refine Wl (α:=Σ' (i:Nat) (u:Value),i≤4) (fun x=>4-x.1) (fun x=> [(6,x.2.1),(7, .int .u32 (s.toNat:Int)),(57, .int .i64 (x.1:Int))]) (fun x=> [own 5 1 x.2.1 (headP p++le4 s x.1).length (B8 (headP p++le4 s x.1)),Ex (hp w)]) ⟨0,v10,Nat.zero_le _⟩ ?_;rintro ⟨i,u,hi⟩ mx hmx;(try dsimp only at hmx ⊢))
 have hll:(headP p++le4 s i).length=252+i:=by rw [lAp,hhl,le4_length]
 refine Ws ?_
 (refine Wcd ?_ ?_<;>intro hc)
 ·have hi4:i<4:=by omega
  refine Ws ?_
  refine Zi 65 (((s>>>UInt32.ofNat (8*i)).toUInt8).toNat:Int) ?_ (hi:=by exact le4_next s i hi4)
  (refine Zli (ys:= [.int .u8 (((s>>>UInt32.ofNat (8*i)).toUInt8).toNat:Int)]) ?_;intro vl)
  refine Ws ?_
  refine Zap ?_ (hr:=by exact rdw_own Wp) (hl:=by rfl) (h1:=by intro y hy;simp at hy;subst hy;rfl)
  intro u'
  refine Zat (own 5 1 u' _ _) (own 5 1 u' (headP p++le4 s (i+1)).length (B8 (headP p++le4 s (i+1)))) ?_ (e:=by exact own_list (by rw [hll,lAp,hhl,le4_length];omega) (by rw [le4_succ, ←aAs,B8_append (headP p++le4 s i)];rfl))
  refine Ws ?_
  exact Zag ⟨i+1,u',by omega⟩
 ·obtain rfl:i=4:=by omega
  refine Ws ?_
  refine Zat (own 5 1 u _ _) (own 5 1 u (putP p).length (B8 (putP p))) ?_ (e:=by rw [putP, ←hs])
  refine Zfn [own 5 1 u (putP p).length (B8 (putP p))] (hq:=?_)
  exact⟨u,rfl,rfl⟩
theorem bytes_Equal' (u v:Value)(a b:List UInt8):SpecR Tryz.prog 135 #[u,v] (fun w=>RdW w u a.length (B8 a)∧RdW w v b.length (B8 b)) (fun r H'=>r= .bool (decide (a=b))∧H'= []):=by
 refine SpecR.of (fun w hh=>?_)
 refine Calls.enter Tryz.func135 rfl rfl rfl (St.rebase w) ?_
 simp only [argSlots]
 refine Ws ?_
 refine Zbs (l:=a) ?_ (he:=by exact Tryz.underlying5) (hr:=by exact rdw_ex Wp hh.1)
 refine Ws ?_
 refine Zbs (l:=b) ?_ (he:=by exact Tryz.underlying5) (hr:=by exact rdw_ex Wp hh.2)
 refine Ws ?_
 exact Zfr (hq:=by simp only [tupled];(rw [bytes_eq']))
theorem sub_rd {h:PH}{v:Value}{l:List UInt8}(hr:Rd h v l.length (B8 l))(lo hi:Nat)(h1:lo≤hi)(h2:hi≤l.length):Rd h (subv v 1 lo hi) ((l.drop lo).take (hi-lo)).length (B8 ((l.drop lo).take (hi-lo))):=by
 have:=hr.subv (size:=1) h1 h2
 rw [B8_sub] at this
 rw [show ((l.drop lo).take (hi-lo)).length=hi-lo by rw [lTk,lDp];omega]
 exact this
theorem get_or (l:List UInt8)(i:Nat)(h:i<l.length):(B8 l)[i]? =some (.int .u8 ((l.getD i 0).toNat:Int)):=by
 rw [B8_get l i h,gDe,gEe h];rfl
theorem page_Get (v:Value)(l:List UInt8):SpecR Tryz.prog 134 #[tabV,v] (fun w=>RdW w v l.length (B8 l)) (fun r H'=> ∃A c,r= .tuple #[pgV (getP l).1 (.slice A (getP l).1.b.length c), .int .i64 ((getP l).2:Int)] ∧H'= [own 5 1 (.slice A (getP l).1.b.length c) (getP l).1.b.length (B8 (getP l).1.b)]):=by
 refine SpecR.of (fun w hr=>?_)
 have hlen:=hr.le
 refine Calls.enter Tryz.func134 rfl rfl rfl (St.rebase w) ?_
 simp only [argSlots]
 refine Ws ?_
 (refine Wbx ?_;intro b2)
 refine Ws ?_
 refine Zal fun b4=>?_
 refine Ws ?_
 refine Zlr2 (hr:=hr) ?_
 refine Ws ?_
 (refine Wcd ?_ ?_<;>intro h1)
 ·have hg:getP l=(zeroP,4):=by rw [getP,if_pos (by omega)]
  refine Ws ?_
  refine ZSa (ys:=pgL zeroP (.slice none 0 0)) ?_ (h1:=by exact pgL_one zeroP none 0 0)
  refine Ws ?_
  (with_reducible apply Tri.ownNil 5 1)
  rw [hg]
  exact Zfn [own 5 1 (.slice none 0 0) 0 []] (h:=ResL.cons (Zra (pgL_len zeroP (.slice none 0 0))) (ResL.cons (Res1.tmp rfl) (ResL.nil))) (hq:=by exact⟨none,0,rfl,rfl⟩)
 ·have hl:l.length=256:=by omega
  have e12:((l.drop 12).take (14-12)).length=2:=by rw [lTk,lDp];omega
  have hn:lenP l<65536:=by
   have:=numB_lt ((l.drop 12).take 2)
   rw [e12] at this
   exact this
  refine Ws ?_
  refine Zsl (lo:=12) (hi:=14) ?_ (hr:=by exact rdw_ex Wp hr)
  refine Ws ?_
  refine Zcv (page_number (subv v 1 12 14) ((l.drop 12).take (14-12)) (by omega)) ?_ (hpre:=by exact rdw_ex Wp (sub_rd hr 12 14 (by omega) (by omega)))
  refine Zv 16 (.int .u64 (lenP l:Int)) ?_ (hv:=by rfl)
  refine Ws ?_
  (refine Wcd ?_ ?_<;>intro h2)
  ·have hg:getP l=(zeroP,3):=by rw [getP,if_neg (by omega),if_pos (by omega)]
   refine Ws ?_
   refine ZSa (ys:=pgL zeroP (.slice none 0 0)) ?_ (h1:=by exact pgL_one zeroP none 0 0)
   refine Ws ?_
   (with_reducible apply Tri.ownNil 5 1)
   rw [hg]
   exact Zfn [own 5 1 (.slice none 0 0) 0 []] (h:=ResL.cons (Zra (pgL_len zeroP (.slice none 0 0))) (ResL.cons (Res1.tmp rfl) (ResL.nil))) (hq:=by exact⟨none,0,rfl,rfl⟩)
  ·have hn8:lenP l≤238:=by omega
   have e24:((l.drop 2).take (4-2)).length=2:=by rw [lTk,lDp];omega
   have e412:((l.drop 4).take (12-4)).length=8:=by rw [lTk,lDp];omega
   have ebl:((l.drop 14).take (14+lenP l-14)).length=lenP l:=by rw [lTk,lDp];omega
   have ebb:(gotP l (lenP l)).b=(l.drop 14).take (14+lenP l-14):=by rw [show 14+lenP l-14=lenP l by omega];rfl
   have hb24:=numB_lt ((l.drop 2).take (4-2))
   rw [e24] at hb24
   refine Wo ?_
   (refine Wme (α:=Nat×Option Addr×Nat) (fun x=> [(1,v),(2, .pointer (some ⟨b2,0,none⟩)),(4, .pointer (some ⟨b4,0,none⟩)),(7, .pointer (some ⟨x.1,0,none⟩))]) (fun x=> [blk b2 70 tabL,blk b4 172 [.int .u8 0, .int .i64 0, .int .u64 0, .slice none 0 0],blk x.1 172 (pgL (gotP l (lenP l)) (.slice x.2.1 (gotP l (lenP l)).b.length x.2.2)),own 5 1 (.slice x.2.1 (gotP l (lenP l)).b.length x.2.2) (gotP l (lenP l)).b.length (B8 (gotP l (lenP l)).b),Ex (hp w)]) ?_ ?_;rotate_left;rintro ⟨b7,Ac,cc⟩;(try dsimp only);rotate_left)
   ·refine Wm [Ex (hp w)] ?_
    refine Wq [0] ?_
    refine Zm 1 (h:=fun _ _ qK=>by exact Zir (hr:=hr) (j:=0) qK (hj:=by rfl) (hlt:=by omega) (hl:=by rw [B8_length];omega)) (k:=?_)
    refine Zm 2 (h:=fun _ _ qK=>by exact Zlr (v:= .int .u8 ((l.getD 0 0).toNat:Int)) (hr:=hr) qK (hv:=by exact get_or l 0 (by omega))) (k:=?_)
    refine Wq [3] ?_
    refine Zm 4 (h:=fun _ _ qK=>by exact Zsl (lo:=2) (hi:=4) qK (hr:=by exact rdw_ex Wp hr)) (k:=?_)
    refine Zm 5 (h:=fun _ _ qK=>by exact Zcv (page_number (subv v 1 2 4) ((l.drop 2).take (4-2)) (by omega)) qK (hpre:=by exact rdw_ex Wp (sub_rd hr 2 4 (by omega) (by omega)))) (k:=?_)
    refine Wq [6] ?_
    refine Wq [7] ?_
    refine Zm 8 (h:=fun _ _ qK=>by exact Zsl (lo:=4) (hi:=12) qK (hr:=by exact rdw_ex Wp hr)) (k:=?_)
    refine Zm 9 (h:=fun _ _ qK=>by exact Zcv (page_number (subv v 1 4 12) ((l.drop 4).take (12-4)) (by omega)) qK (hpre:=by exact rdw_ex Wp (sub_rd hr 4 12 (by omega) (by omega)))) (k:=?_)
    refine Wq [10,11,12] ?_
    refine Zm 13 (h:=fun _ _ qK=>by exact Zsl (lo:=14) (hi:=14+lenP l) qK (hr:=by exact rdw_ex Wp hr)) (k:=?_)
    refine ZA2 14 16 ?_ ?_
    ·refine Zcr (bytes_Clone (subv v 1 14 (14+lenP l)) ((l.drop 14).take (14+lenP l-14)) (by omega)) ?_ (hpre:=by exact rdw_ex Wp (sub_rd hr 14 (14+lenP l) (by omega) (by omega)))
     rintro vc Hc rfl
     refine Wap ?_
     refine Zat (own 5 1 vc _ _) (own 5 1 vc (gotP l (lenP l)).b.length (B8 (gotP l (lenP l)).b)) ?_ (e:=by rw [ebb])
     (refine Tri.shape (e:=5) (size:=1) (v:=vc) Wp ?_;rintro ⟨Ac,cc,rfl⟩)
     refine Zw ?_
     refine Zm 15 (h:=fun _ _ qK=>by exact Zbu (ys:=pgL (gotP l (lenP l)) (.slice Ac (gotP l (lenP l)).b.length cc)) qK) (k:=?_)
     refine ZA 16 ?_
     refine Zal fun b7=>?_
     refine Zw ?_
     refine ZA 17 ?_
     refine ZSa (ys:=pgL (gotP l (lenP l)) (.slice Ac (gotP l (lenP l)).b.length cc)) ?_ (h1:=by exact pgL_one _ Ac _ cc)
     refine Zw ?_
     refine ZE ?_
     refine Wo ?_
     exact Zrc (b7,Ac,cc)
    ·refine Zal fun b7=>?_
     refine Zw ?_
     refine ZA 14 ?_
     refine Zcr (bytes_Clone (subv v 1 14 (14+lenP l)) ((l.drop 14).take (14+lenP l-14)) (by omega)) ?_ (hpre:=by exact rdw_ex Wp (sub_rd hr 14 (14+lenP l) (by omega) (by omega)))
     rintro vc Hc rfl
     refine Wap ?_
     refine Zat (own 5 1 vc _ _) (own 5 1 vc (gotP l (lenP l)).b.length (B8 (gotP l (lenP l)).b)) ?_ (e:=by rw [ebb])
     (refine Tri.shape (e:=5) (size:=1) (v:=vc) Wp ?_;rintro ⟨Ac,cc,rfl⟩)
     refine Zw ?_
     refine Zm 15 (h:=fun _ _ qK=>by exact Zbu (ys:=pgL (gotP l (lenP l)) (.slice Ac (gotP l (lenP l)).b.length cc)) qK) (k:=?_)
     refine ZA 17 ?_
     refine ZSa (ys:=pgL (gotP l (lenP l)) (.slice Ac (gotP l (lenP l)).b.length cc)) ?_ (h1:=by exact pgL_one _ Ac _ cc)
     refine Zw ?_
     refine ZE ?_
     refine Wo ?_
     exact Zrc (b7,Ac,cc)
   ·refine Ws ?_
    refine Zla ?_ (hl:=by exact tabL_length)
    refine Ws ?_
    refine Zla ?_ (hl:=by rfl)
    refine Ws ?_
    obtain⟨q,hq⟩: ∃q,q=gotP l (lenP l):=⟨_,rfl⟩
    have hqb:q.b.length=lenP l:=by rw [hq,ebb,ebl]
    have hqg:q.g<18446744073709551616:=by
     rw [hq]
     have:=numB_lt ((l.drop 4).take (12-4))
     rw [e412] at this
     exact this
    simp only [←hq]
    by_cases hok:okP q=true
    ·refine Zcr (page_Put q (.slice Ac q.b.length cc) hok hqg) ?_ (hpre:=by exact rdw_own Wp)
     rintro r1 H1 ⟨u,rfl,rfl⟩
     refine Wap ?_
     refine Ws ?_
     refine Zz 45 false ?_
     refine Ws ?_
     refine Zcv (bytes_Equal' u v (putP q) l) ?_ (hpre:=by exact fun w' hw'=>⟨rdw_own Wp w' hw',rdw_ex Wp hr w' hw'⟩)
     refine Ws ?_
     by_cases hpe:putP q=l
     ·have hg:getP l=(q,0):=by rw [getP,if_neg (by omega),if_neg (by omega),if_pos ⟨by rw [←hq];exact hok,by rw [←hq];exact hpe⟩, ←hq]
      refine Zz 50 false ?_ (hi:=by simp [hpe])
      refine Ws ?_
      refine Zla ?_ (hl:=by rfl)
      refine Ws ?_
      refine ZSa (ys:=pgL q (.slice Ac q.b.length cc)) ?_ (h1:=by exact pgL_one q Ac _ cc)
      refine Ws ?_
      rw [hg]
      exact Zfn [own 5 1 (.slice Ac q.b.length cc) q.b.length (B8 q.b)] (h:=ResL.cons (Zra (pgL_len q (.slice Ac q.b.length cc))) (ResL.cons (Res1.tmp rfl) (ResL.nil))) (hq:=by exact⟨Ac,cc,rfl,rfl⟩)
     ·have hg:getP l=(zeroP,3):=by rw [getP,if_neg (by omega),if_neg (by omega),if_neg (by rw [←hq];exact fun h=>hpe h.2)]
      refine Zz 50 true ?_ (hi:=by simp [hpe])
      refine Ws ?_
      refine ZSa (ys:=pgL zeroP (.slice none 0 0)) ?_ (h1:=by exact pgL_one zeroP none 0 0)
      refine Ws ?_
      (with_reducible apply Tri.ownNil 5 1)
      rw [hg]
      exact Zfn [own 5 1 (.slice none 0 0) 0 []] (h:=ResL.cons (Zra (pgL_len zeroP (.slice none 0 0))) (ResL.cons (Res1.tmp rfl) (ResL.nil))) (hq:=by exact⟨none,0,rfl,rfl⟩)
    ·have hg:getP l=(zeroP,3):=by rw [getP,if_neg (by omega),if_neg (by omega),if_neg (by rw [←hq];exact fun h=>hok h.1)]
     refine Zcv (page_Put_no q (.slice Ac q.b.length cc) (by simpa using hok)) ?_ (hpre:=by exact rdw_own Wp)
     refine Ws ?_
     refine Zz 45 true ?_
     refine Ws ?_
     refine ZSa (ys:=pgL zeroP (.slice none 0 0)) ?_ (h1:=by exact pgL_one zeroP none 0 0)
     refine Ws ?_
     (with_reducible apply Tri.ownNil 5 1)
     rw [hg]
     exact Zfn [own 5 1 (.slice none 0 0) 0 []] (h:=ResL.cons (Zra (pgL_len zeroP (.slice none 0 0))) (ResL.cons (Res1.tmp rfl) (ResL.nil))) (hq:=by exact⟨none,0,rfl,rfl⟩)
def pgAt (V:List UInt8)(a:Nat):List UInt8:=(V.drop (a*256)).take 256
def rdPg (S:DS)(addr:Int)(kind:UInt8):PG×Nat:=
 if rdE S (addr*4) 4≠0 then(zeroP,rdE S (addr*4) 4)
 else if(getP (pgAt S.V addr.toNat)).2=0∧(getP (pgAt S.V addr.toNat)).1.a=addr∧(getP (pgAt S.V addr.toNat)).1.k=kind then getP (pgAt S.V addr.toNat) else(zeroP,3)
theorem sixteen (b:Bool):(b=true∨b=false):=by cases b<;>simp
theorem page_Read (p:Nat)(S:DS)(addr:Int)(kind:UInt8)(hS:S.ok)(hl:S.W.length≤1000000)(ha: -1000000≤addr∧addr≤1000000):
  Gv.Spec Tryz.prog 88 #[tabV, .pointer (some ⟨p,0,none⟩), .int .i64 addr, .int .u8 (kind.toNat:Int)] [DSK p S]
  (fun r H'=> ∃A c,r= .tuple #[pgV (rdPg S addr kind).1 (.slice A (rdPg S addr kind).1.b.length c), .int .i64 ((rdPg S addr kind).2:Int)] ∧H'= [DSK p S,own 5 1 (.slice A (rdPg S addr kind).1.b.length c) (rdPg S addr kind).1.b.length (B8 (rdPg S addr kind).1.b)]):=by
 refine Gv.Spec.of (fun w h0 hw=>?_)
 refine Calls.enter Tryz.func88 rfl rfl rfl hw ?_
 simp only [argSlots]
 refine Wap ?_
 refine Ws ?_
 (refine Wbx ?_;intro b4)
 refine Ws ?_
 refine Zal fun b8=>?_
 refine Ws ?_
 refine Zcs (page_ReadRaw p S addr 256 hS hl (by omega) ha) ?_
 rintro r H' (⟨he,rfl,rfl⟩ | ⟨he,A0,h1,rfl,hr,hl2,rfl⟩)
 ·have e4:(256+63)/64=4:=rfl
  rw [e4] at he ⊢
  have hrd:rdPg S addr kind=(zeroP,rdE S (addr*4) 4):=by rw [rdPg,if_pos he]
  refine Wap ?_
  refine Ws ?_
  refine Zz 20 true ?_ (hi:=by rw [dTt];omega)
  refine Ws ?_
  refine ZSa (ys:=pgL zeroP (.slice none 0 0)) ?_ (h1:=by exact pgL_one zeroP none 0 0)
  refine Ws ?_
  (with_reducible apply Tri.ownNil 5 1)
  exact Zfn [DSK p S,own 5 1 (.slice none 0 0) 0 []] (h:=ResL.cons (Zra (pgL_len zeroP (.slice none 0 0))) (ResL.cons (Res1.tmp rfl) (ResL.nil))) (hq:=by rw [hrd];exact⟨none,0,rfl,rfl⟩)
 ·have e4:(256+63)/64=4:=rfl
  rw [e4] at he
  refine Wap ?_
  obtain⟨l,hlq⟩: ∃l,l=pgAt S.V addr.toNat:=⟨_,rfl⟩
  rw [show (S.V.drop (addr.toNat*256)).take 256=l from hlq.symm] at hr hl2
  refine Ws ?_
  refine Zz 20 false ?_
  refine Ws ?_
  refine Zla ?_ (hl:=by exact tabL_length)
  refine Ws ?_
  refine Zcr (page_Get (.slice A0 256 256) l) ?_ (hpre:=by exact rdw_ex Wp hr)
  rintro r2 H2 ⟨A,c,rfl,rfl⟩
  refine Wap ?_
  have hrd:rdPg S addr kind=if(getP l).2=0∧(getP l).1.a=addr∧(getP l).1.k=kind then getP l else(zeroP,3):=by rw [rdPg,if_neg (by rw [he];simp),hlq]
  obtain⟨g,hg⟩: ∃g,g=getP l:=⟨_,rfl⟩
  rw [←hg] at hrd ⊢
  obtain⟨q,e⟩:=g
  dsimp only at hrd ⊢
  refine Ws ?_
  refine Zal fun b12=>?_
  refine Ws ?_
  refine ZSa (ys:=pgL q (.slice A q.b.length c)) ?_ (h1:=by exact pgL_one q A _ c)
  refine Ws ?_
  by_cases h2:e=0
  ·subst h2
   refine Zz 31 false ?_
   refine Ws ?_
   by_cases h3:q.a=addr
   ·refine Zz 37 false ?_ (hi:=by simp [h3])
    refine Ws ?_
    by_cases h4:q.k=kind
    ·rw [if_pos ⟨rfl,h3,h4⟩] at hrd
     refine Zz 42 false ?_ (hi:=by simp [h4])
     refine Ws ?_
     refine Zla (cs:=pgL q (.slice A q.b.length c)) ?_ (hl:=by rfl)
     refine Ws ?_
     refine ZSa (ys:=pgL q (.slice A q.b.length c)) ?_ (h1:=by exact pgL_one q A _ c)
     refine Ws ?_
     exact Zfn [DSK p S,own 5 1 (.slice A q.b.length c) q.b.length (B8 q.b)] (h:=ResL.cons (Zra (pgL_len q (.slice A q.b.length c))) (ResL.cons (Res1.tmp rfl) (ResL.nil))) (hq:=by rw [hrd];exact⟨A,c,rfl,rfl⟩)
    ·rw [if_neg (fun h=>h4 h.2.2)] at hrd
     have h4': ¬((q.k.toNat:Nat):Int)=kind.toNat:=fun h=>h4 (UInt8.toNat_inj.1 (by omega))
     refine Zz 42 true ?_ (hi:=by rw [dTt];exact h4')
     refine Ws ?_
     refine ZSa (ys:=pgL zeroP (.slice none 0 0)) ?_ (h1:=by exact pgL_one zeroP none 0 0)
     refine Ws ?_
     (with_reducible apply Tri.ownNil 5 1)
     exact Zfn [DSK p S,own 5 1 (.slice none 0 0) 0 []] (h:=ResL.cons (Zra (pgL_len zeroP (.slice none 0 0))) (ResL.cons (Res1.tmp rfl) (ResL.nil))) (hq:=by rw [hrd];exact⟨none,0,rfl,rfl⟩)
   ·rw [if_neg (fun h=>h3 h.2.1)] at hrd
    refine Zz 37 true ?_ (hi:=by rw [dTt];exact h3)
    refine Ws ?_
    refine ZSa (ys:=pgL zeroP (.slice none 0 0)) ?_ (h1:=by exact pgL_one zeroP none 0 0)
    refine Ws ?_
    (with_reducible apply Tri.ownNil 5 1)
    exact Zfn [DSK p S,own 5 1 (.slice none 0 0) 0 []] (h:=ResL.cons (Zra (pgL_len zeroP (.slice none 0 0))) (ResL.cons (Res1.tmp rfl) (ResL.nil))) (hq:=by rw [hrd];exact⟨none,0,rfl,rfl⟩)
  ·rw [if_neg (fun h=>h2 h.1)] at hrd
   refine Zz 31 true ?_ (hi:=by rw [dTt];omega)
   refine Ws ?_
   refine ZSa (ys:=pgL zeroP (.slice none 0 0)) ?_ (h1:=by exact pgL_one zeroP none 0 0)
   refine Ws ?_
   (with_reducible apply Tri.ownNil 5 1)
   exact Zfn [DSK p S,own 5 1 (.slice none 0 0) 0 []] (h:=ResL.cons (Zra (pgL_len zeroP (.slice none 0 0))) (ResL.cons (Res1.tmp rfl) (ResL.nil))) (hq:=by rw [hrd];exact⟨none,0,rfl,rfl⟩)
def wrPg (S:DS)(q:PG):DS×Nat:=if okP q=true then S.wrs (q.a*4) (secs (putP q) 4) else(S,1)
theorem padP {q:PG}(h:okP q=true):padB (putP q)=putP q:=by
 have hl:=putP_length q (okP_spec h).2.2.2
 unfold padB padN
 rw [hl];simp
theorem page_Write (p:Nat)(S:DS)(q:PG)(v:Value)(h1:PH)(hr:Rd h1 v q.b.length (B8 q.b))(hg:q.g<18446744073709551616)(hS:S.ok)(hl:S.W.length≤800000):
  Gv.Spec Tryz.prog 122 #[tabV, .pointer (some ⟨p,0,none⟩),pgV q v] [DSK p S,Ex h1]
  (fun r H'=>r= .int .i64 ((wrPg S q).2:Int)∧H'= [DSK p (wrPg S q).1,Ex h1]):=by
 refine Gv.Spec.of (fun w h0 hw=>?_)
 refine Calls.enter Tryz.func122 rfl rfl rfl hw ?_
 simp only [argSlots]
 refine Wap ?_
 refine Ws ?_
 (refine Wbx ?_;intro b3)
 refine Ws ?_
 (refine Wbx ?_;intro b5)
 refine Ws ?_
 refine Zla ?_ (hl:=by exact tabL_length)
 refine Ws ?_
 refine Zla (cs:=pgL q v) ?_ (hl:=by rfl)
 refine Ws ?_
 by_cases hok:okP q=true
 ·have hs:=okP_spec hok
  have hpl:=putP_length q hs.2.2.2
  refine Zcr (page_Put q v hok hg) ?_ (hpre:=by exact rdw_ex Wp hr)
  rintro r H' ⟨u,rfl,rfl⟩
  refine Wap ?_
  refine Tri.shut (e:=5) (size:=1) (v:=u) Wp (fun h2 ho=>?_)
  refine Ws ?_
  refine Zz 16 false ?_
  refine Ws ?_
  refine Zcs (page_WriteRaw p S q.a u (putP q) h2 (own_Rd ho) hS (by omega) (by omega) (by omega)) ?_
  rintro r2 H2 ⟨rfl,rfl⟩
  rw [padP hok,hpl]
  refine Wap ?_
  refine Ws ?_
  have hwp:wrPg S q=S.wrs (q.a*4) (secs (putP q) (256/64)):=by rw [wrPg,if_pos hok]
  rw [←hwp]
  exact Zfn [DSK p (wrPg S q).1,Ex h1] (hq:=by exact⟨rfl,rfl⟩)
 ·have hno:okP q=false:=by simpa using hok
  refine Zcv (page_Put_no q v hno) ?_ (hpre:=by exact rdw_ex Wp hr)
  refine Ws ?_
  refine Zz 16 true ?_
  refine Ws ?_
  have hwp:wrPg S q=(S,1):=by rw [wrPg,if_neg hok]
  rw [hwp]
  exact Zfn [DSK p S,Ex h1] (hq:=by exact⟨rfl,rfl⟩)
end Go.Proofs.YtcglabmlhljkmaaGreat
namespace Go.Gv
abbrev KEY:=Int×Int
def betw (n low high:Int):Bool:=decide (low≤n) && decide (n≤high)
def keyOk (k:KEY):Bool:=betw k.1 0 4294967295
def lessK (a b:KEY):Bool:=decide (a.1<b.1) || (decide (a.1=b.1) && decide (a.2<b.2))
def keyAt (ks:List KEY)(i:Nat):Bool:=keyOk (ks.getD i (0,0)) && (decide (i=0) || lessK (ks.getD (i-1) (0,0)) (ks.getD i (0,0)))
def kidAt (kids:List Int)(i:Nat):Bool:=betw (kids.getD i 0) 2 511 && !decide (kids.getD i 0∈kids.take i)
def keysTo (ks:List KEY):Nat→Bool
 | 0=>true
 | i+1=>keysTo ks i && keyAt ks i
def kidsTo (kids:List Int):Nat→Bool
 | 0=>true
 | i+1=>kidsTo kids i && kidAt kids i
def innerB (ks:List KEY)(kids:List Int):Bool:=keysTo ks ks.length && kidsTo kids kids.length && decide (ks.length=kids.length) && betw (kids.length:Int) 1 16
theorem keysTo_mono (ks:List KEY){i:Nat}(h:keysTo ks i=false): ∀j,i≤j→keysTo ks j=false
 | 0,hj=>by obtain rfl:i=0:=by omega
            exact h
 | j+1,hj=>by
  by_cases e:i=j+1
  ·subst e;exact h
  ·rw [keysTo,keysTo_mono ks h j (by omega),Bool.false_and]
theorem kidsTo_mono (ks:List Int){i:Nat}(h:kidsTo ks i=false): ∀j,i≤j→kidsTo ks j=false
 | 0,hj=>by obtain rfl:i=0:=by omega
            exact h
 | j+1,hj=>by
  by_cases e:i=j+1
  ·subst e;exact h
  ·rw [kidsTo,kidsTo_mono ks h j (by omega),Bool.false_and]
def n64 (t:Int):Nat:=(t%18446744073709551616).toNat
def keyB (k:KEY):List UInt8:=bigB k.1.toNat 4++bigB (n64 k.2) 8
theorem keyB_length (k:KEY):(keyB k).length=12:=by simp [keyB,bigB_length]
def kidsB (ks:List KEY)(kids:List Int):Nat→List UInt8
 | 0=> []
 | i+1=>kidsB ks kids i++(keyB (ks.getD i (0,0))++bigB (kids.getD i 0).toNat 2)
theorem kidsB_length (ks:List KEY)(kids:List Int): ∀i,(kidsB ks kids i).length=i*14
 | 0=>rfl
 | i+1=>by rw [kidsB,lAp,kidsB_length ks kids i,lAp,keyB_length,bigB_length];omega
def putI (ks:List KEY)(kids:List Int):List UInt8:=UInt8.ofNat kids.length::kidsB ks kids kids.length
def s64 (n:Nat):Int:=if n<9223372036854775808 then(n:Int) else(n:Int)-18446744073709551616
def keyG (l:List UInt8)(i:Nat):KEY:=((numB ((l.drop (1+i*14)).take 4):Int),s64 (numB ((l.drop (5+i*14)).take 8)))
def kidG (l:List UInt8)(i:Nat):Int:=(numB ((l.drop (13+i*14)).take 2):Int)
def keysG (l:List UInt8)(i:Nat):List KEY:=(List.range i).map (keyG l)
def kidsG (l:List UInt8)(i:Nat):List Int:=(List.range i).map (kidG l)
def cntG (l:List UInt8):Nat:=(l.getD 0 0).toNat
def getI (l:List UInt8):(List KEY×List Int)×Nat:=
 if l.length=0∨l.length≠1+cntG l*14 then(([], []),3)
 else if innerB (keysG l (cntG l)) (kidsG l (cntG l))=true∧putI (keysG l (cntG l)) (kidsG l (cntG l))=l then((keysG l (cntG l),kidsG l (cntG l)),0) else(([], []),3)
structure ENT where
 key:KEY
 fin:Int
 addr:Int
 len:Int
 count:Int
 codec:Int
 crc:Nat
def ent0:ENT:=⟨(0,0),0,0,0,0,0,0⟩
def pagesE (n:Int):Int:=(n+255)/256
def entOk (e:ENT):Bool:=keyOk e.key && decide (e.key.2≤e.fin) && betw e.addr 2 511 && betw e.len 1 65535 && decide (e.addr+pagesE e.len≤512) && betw e.count 1 200 && betw e.codec 0 15
def afterE (p e:ENT):Bool:=lessK p.key e.key && !(decide (p.key.1=e.key.1) && decide (e.key.2≤p.fin))
def entAt (E:List ENT)(i:Nat):Bool:=entOk (E.getD i ent0) && (decide (i=0) || afterE (E.getD (i-1) ent0) (E.getD i ent0))
def entsTo (E:List ENT):Nat→Bool
 | 0=>true
 | i+1=>entsTo E i && entAt E i
def leafB (E:List ENT):Bool:=entsTo E E.length && betw (E.length:Int) 1 7
theorem entsTo_mono (ks:List ENT){i:Nat}(h:entsTo ks i=false): ∀j,i≤j→entsTo ks j=false
 | 0,hj=>by obtain rfl:i=0:=by omega
            exact h
 | j+1,hj=>by
  by_cases e:i=j+1
  ·subst e;exact h
  ·rw [entsTo,entsTo_mono ks h j (by omega),Bool.false_and]
theorem entAt_lt {E:List ENT}{i n:Nat}(h:entAt E i=false)(hi:i<n):entsTo E n=false:=entsTo_mono E (i:=i+1) (by rw [entsTo,h,Bool.and_false]) n (by omega)
theorem entsTo_at {E:List ENT}: ∀{n:Nat},entsTo E n=true→ ∀i,i<n→entAt E i=true
 | n+1,h,i,hi=>by
  rw [entsTo,Bool.and_eq_true] at h
  by_cases e:i=n
  ·subst e;exact h.2
  ·exact entsTo_at h.1 i (by omega)
theorem leaf_no {E:List ENT}(h:entsTo E E.length=false):leafB E=false:=by rw [leafB,h];rfl
def rightN (leaf:Bool)(E:List ENT)(K:List KEY)(D:List Int):Bool:=
 if leaf then decide (K.length=0) && (decide (D.length=0) && leafB E) else decide (E.length=0) && innerB K D
def entB (e:ENT):List UInt8:=keyB e.key++bigB (n64 e.fin) 8++bigB e.addr.toNat 2++bigB e.len.toNat 2++ [UInt8.ofNat e.count.toNat,UInt8.ofNat e.codec.toNat] ++bigB e.crc 4
theorem entB_length (e:ENT):(entB e).length=30:=by simp [entB,keyB_length,bigB_length]
def entsB (E:List ENT):Nat→List UInt8
 | 0=> []
 | i+1=>entsB E i++entB (E.getD i ent0)
theorem entsB_length (E:List ENT): ∀i,(entsB E i).length=i*30
 | 0=>rfl
 | i+1=>by rw [entsB,lAp,entsB_length E i,entB_length];omega
def putL (E:List ENT):List UInt8:=UInt8.ofNat E.length::entsB E E.length
def putN (leaf:Bool)(E:List ENT)(K:List KEY)(D:List Int):List UInt8:=if leaf then putL E else putI K D
def entP (l:List UInt8):ENT:=⟨((numB (l.take 4):Int),s64 (numB ((l.drop 4).take 8))),s64 (numB ((l.drop 12).take 8)),(numB ((l.drop 20).take 2):Int),(numB ((l.drop 22).take 2):Int),(numB ((l.drop 24).take 1):Int),(numB ((l.drop 25).take 1):Int),numB ((l.drop 26).take 4)⟩
def entsG (l:List UInt8)(i:Nat):List ENT:=(List.range i).map fun k=>entP (l.drop (1+k*30))
theorem entsG_length (l:List UInt8)(i:Nat):(entsG l i).length=i:=by simp [entsG]
theorem entsG_succ (l:List UInt8)(i:Nat):entsG l (i+1)=entsG l i++ [entP (l.drop (1+i*30))] :=by rw [entsG,List.range_succ,List.map_append];rfl
def getL (l:List UInt8):List ENT×Nat:=
 if l.length=0∨l.length≠1+cntG l*30 then([],3)
 else if leafB (entsG l (cntG l))=true∧putL (entsG l (cntG l))=l then(entsG l (cntG l),0) else([],3)
def i64R (n:Int):Prop:= -9223372036854775808≤n∧n≤9223372036854775807
def entR (e:ENT):Prop:=i64R e.key.2∧i64R e.fin∧e.crc<4294967296
def keyR (k:KEY):Prop:=i64R k.2
theorem s64_n64 {t:Int}(h:i64R t):s64 (n64 t)=t:=by
 unfold i64R at h
 unfold s64 n64
 split<;>omega
theorem n64_lt (t:Int):n64 t<18446744073709551616:=by unfold n64;omega
theorem n64_mod (t:Int):n64 t%256 ^ 8=n64 t:=Nat.mod_eq_of_lt (n64_lt t)
theorem numB_one (c:UInt8):numB [c] =c.toNat:=by simp [numB]
theorem byte_of {n:Int}(h0:0≤n)(h1:n≤255):((UInt8.ofNat n.toNat).toNat:Int)=n:=by
 rw [UInt8.toNat_ofNat'];omega
theorem entOk_spec {e:ENT}(h:entOk e=true):(0≤e.key.1∧e.key.1≤4294967295)∧e.key.2≤e.fin∧(2≤e.addr∧e.addr≤511)∧(1≤e.len∧e.len≤65535)∧e.addr+pagesE e.len≤512∧(1≤e.count∧e.count≤200)∧0≤e.codec∧e.codec≤15:=by
 simp only [entOk,keyOk,betw,Bool.and_eq_true,decide_eq_true_eq] at h
 obtain⟨⟨⟨⟨⟨⟨h1,h2⟩,h3⟩,h4⟩,h5⟩,h6⟩,h7⟩:=h
 exact⟨h1,h2,h3,h4,h5,h6,h7⟩
theorem seg0 {α:Type}(B C:List α)(n:Nat)(hB:B.length=n):(B++C).take n=B:=by subst hB;rw [List.take_left]
theorem ent_back (e:ENT)(rest:List UInt8)(h:entOk e=true)(hr:entR e):entP (entB e++rest)=e:=by
 obtain⟨h1,h2,h3,h4,h5,h6,h7⟩:=entOk_spec h
 obtain⟨r1,r2,r3⟩:=hr
 have k1:(entB e++rest).take 4=bigB e.key.1.toNat 4:=by
  rw [show entB e++rest=bigB e.key.1.toNat 4++(bigB (n64 e.key.2) 8++(bigB (n64 e.fin) 8++(bigB e.addr.toNat 2++(bigB e.len.toNat 2++([UInt8.ofNat e.count.toNat,UInt8.ofNat e.codec.toNat] ++(bigB e.crc 4++rest)))))) by simp [entB,keyB,aAs]]
  exact seg0 _ _ _ (bigB_length _ _)
 have k2:((entB e++rest).drop 4).take 8=bigB (n64 e.key.2) 8:=by
  rw [show entB e++rest=bigB e.key.1.toNat 4++bigB (n64 e.key.2) 8++(bigB (n64 e.fin) 8++(bigB e.addr.toNat 2++(bigB e.len.toNat 2++([UInt8.ofNat e.count.toNat,UInt8.ofNat e.codec.toNat] ++(bigB e.crc 4++rest))))) by simp [entB,keyB,aAs]]
  exact seg _ _ _ _ _ (bigB_length _ _) (bigB_length _ _)
 have k3:((entB e++rest).drop 12).take 8=bigB (n64 e.fin) 8:=by
  rw [show entB e++rest=keyB e.key++bigB (n64 e.fin) 8++(bigB e.addr.toNat 2++(bigB e.len.toNat 2++([UInt8.ofNat e.count.toNat,UInt8.ofNat e.codec.toNat] ++(bigB e.crc 4++rest)))) by simp [entB,aAs]]
  exact seg _ _ _ _ _ (keyB_length _) (bigB_length _ _)
 have k4:((entB e++rest).drop 20).take 2=bigB e.addr.toNat 2:=by
  rw [show entB e++rest=(keyB e.key++bigB (n64 e.fin) 8)++bigB e.addr.toNat 2++(bigB e.len.toNat 2++([UInt8.ofNat e.count.toNat,UInt8.ofNat e.codec.toNat] ++(bigB e.crc 4++rest))) by simp [entB,aAs]]
  exact seg _ _ _ _ _ (by simp [keyB_length,bigB_length]) (bigB_length _ _)
 have k5:((entB e++rest).drop 22).take 2=bigB e.len.toNat 2:=by
  rw [show entB e++rest=(keyB e.key++bigB (n64 e.fin) 8++bigB e.addr.toNat 2)++bigB e.len.toNat 2++([UInt8.ofNat e.count.toNat,UInt8.ofNat e.codec.toNat] ++(bigB e.crc 4++rest)) by simp [entB,aAs]]
  exact seg _ _ _ _ _ (by simp [keyB_length,bigB_length]) (bigB_length _ _)
 have k6:((entB e++rest).drop 24).take 1= [UInt8.ofNat e.count.toNat] :=by
  rw [show entB e++rest=(keyB e.key++bigB (n64 e.fin) 8++bigB e.addr.toNat 2++bigB e.len.toNat 2)++ [UInt8.ofNat e.count.toNat] ++([UInt8.ofNat e.codec.toNat] ++(bigB e.crc 4++rest)) by simp [entB,aAs]]
  exact seg _ _ _ _ _ (by simp [keyB_length,bigB_length]) rfl
 have k7:((entB e++rest).drop 25).take 1= [UInt8.ofNat e.codec.toNat] :=by
  rw [show entB e++rest=(keyB e.key++bigB (n64 e.fin) 8++bigB e.addr.toNat 2++bigB e.len.toNat 2++ [UInt8.ofNat e.count.toNat])++ [UInt8.ofNat e.codec.toNat] ++(bigB e.crc 4++rest) by simp [entB,aAs]]
  exact seg _ _ _ _ _ (by simp [keyB_length,bigB_length]) rfl
 have k8:((entB e++rest).drop 26).take 4=bigB e.crc 4:=by
  rw [show entB e++rest=(keyB e.key++bigB (n64 e.fin) 8++bigB e.addr.toNat 2++bigB e.len.toNat 2++ [UInt8.ofNat e.count.toNat,UInt8.ofNat e.codec.toNat])++bigB e.crc 4++rest by simp [entB,aAs]]
  exact seg _ _ _ _ _ (by simp [keyB_length,bigB_length]) (bigB_length _ _)
 rw [entP,k1,k2,k3,k4,k5,k6,k7,k8,num_big,num_big,num_big,num_big,num_big,numB_one,numB_one,num_big,n64_mod,n64_mod,s64_n64 r1,s64_n64 r2,byte_of (by omega) (by omega),byte_of h7.1 (by omega)]
 obtain⟨⟨a,b⟩,c,d,f,g,m,n⟩:=e
 simp only at h1 h3 h4 r3 ⊢
 congr 1
 ·congr 1;omega
 ·omega
 ·omega
 ·omega
theorem entsB_at (E:List ENT)(rest:List UInt8): ∀n i,i<n→ ∃more,(entsB E n++rest).drop (i*30)=entB (E.getD i ent0)++more
 | n+1,i,hi=>by
  by_cases e:i=n
  ·subst e
   refine⟨rest, ?_⟩
   rw [entsB,aAs, ←entsB_length E i,List.drop_left]
  ·obtain⟨m,hm⟩:=entsB_at E (entB (E.getD n ent0)++rest) n i (by omega)
   exact⟨m,by rw [entsB,aAs];exact hm⟩
theorem leaf_spec {E:List ENT}(h:leafB E=true):entsTo E E.length=true∧1≤E.length∧E.length≤7:=by
 simp only [leafB,betw,Bool.and_eq_true,decide_eq_true_eq] at h
 exact⟨h.1,by omega,by omega⟩
theorem putL_length (E:List ENT):(putL E).length=1+E.length*30:=by rw [putL,lCn,entsB_length];omega
theorem putI_length (K:List KEY)(D:List Int):(putI K D).length=1+D.length*14:=by rw [putI,lCn,kidsB_length];omega
theorem cnt_putL {E:List ENT}(h:E.length≤255):cntG (putL E)=E.length:=by
 show (UInt8.ofNat E.length).toNat=_
 rw [UInt8.toNat_ofNat'];omega
theorem cnt_putI {K:List KEY}{D:List Int}(h:D.length≤255):cntG (putI K D)=D.length:=by
 show (UInt8.ofNat D.length).toNat=_
 rw [UInt8.toNat_ofNat'];omega
theorem ents_back {E:List ENT}(h:leafB E=true)(hr: ∀e∈E,entR e):entsG (putL E) E.length=E:=by
 obtain⟨h1,h2,h3⟩:=leaf_spec h
 apply List.ext_getElem
 ·rw [entsG_length]
 ·intro i g1 g2
  have hgd:E.getD i ent0=E[i] :=by rw [gDe,gEe g2];rfl
  have hk:=entsTo_at h1 i g2
  rw [entAt,Bool.and_eq_true,hgd] at hk
  obtain⟨m,hm⟩:=entsB_at E [] E.length i g2
  rw [List.append_nil,hgd] at hm
  simp only [entsG,List.getElem_map,List.getElem_range]
  rw [putL,show 1+i*30=i*30+1 by omega,List.drop_succ_cons,hm]
  exact ent_back _ _ hk.1 (hr _ (List.getElem_mem g2))
theorem get_putL {E:List ENT}(h:leafB E=true)(hr: ∀e∈E,entR e):getL (putL E)=(E,0):=by
 obtain⟨h1,h2,h3⟩:=leaf_spec h
 have hc:=cnt_putL (E:=E) (by omega)
 have hl:=putL_length E
 have hb:=ents_back h hr
 rw [getL,hc,hb,if_neg (by omega),if_pos ⟨h,rfl⟩]
theorem innerB_spec {ks:List KEY}{kids:List Int}(h:innerB ks kids=true):keysTo ks ks.length=true∧kidsTo kids kids.length=true∧ks.length=kids.length∧1≤kids.length∧kids.length≤16:=by
 simp only [innerB,betw,Bool.and_eq_true,decide_eq_true_eq] at h
 refine⟨h.1.1.1,h.1.1.2,h.1.2, ?_, ?_⟩<;>omega
theorem kidsB_at (K:List KEY)(D:List Int)(rest:List UInt8): ∀n i,i<n→ ∃more,(kidsB K D n++rest).drop (i*14)=keyB (K.getD i (0,0))++bigB (D.getD i 0).toNat 2++more
 | n+1,i,hi=>by
  by_cases e:i=n
  ·subst e
   refine⟨rest, ?_⟩
   rw [kidsB,aAs, ←kidsB_length K D i,List.drop_left]
  ·obtain⟨m,hm⟩:=kidsB_at K D (keyB (K.getD n (0,0))++bigB (D.getD n 0).toNat 2++rest) n i (by omega)
   exact⟨m,by rw [kidsB,aAs];exact hm⟩
theorem keysTo_at' {ks:List KEY}: ∀{n:Nat},keysTo ks n=true→ ∀i,i<n→keyAt ks i=true
 | n+1,h,i,hi=>by
  rw [keysTo,Bool.and_eq_true] at h
  by_cases e:i=n
  ·subst e;exact h.2
  ·exact keysTo_at' h.1 i (by omega)
theorem kidsTo_at' {ks:List Int}: ∀{n:Nat},kidsTo ks n=true→ ∀i,i<n→kidAt ks i=true
 | n+1,h,i,hi=>by
  rw [kidsTo,Bool.and_eq_true] at h
  by_cases e:i=n
  ·subst e;exact h.2
  ·exact kidsTo_at' h.1 i (by omega)
theorem kid_back (k:KEY)(d:Int)(m:List UInt8)(hk:keyOk k=true)(hr:keyR k)(hd:0≤d∧d≤65535):
  ((numB ((keyB k++bigB d.toNat 2++m).take 4):Int),s64 (numB (((keyB k++bigB d.toNat 2++m).drop 4).take 8)))=k∧(numB (((keyB k++bigB d.toNat 2++m).drop 12).take 2):Int)=d:=by
 have hk':0≤k.1∧k.1≤4294967295:=by simpa [keyOk,betw] using hk
 have k1:(keyB k++bigB d.toNat 2++m).take 4=bigB k.1.toNat 4:=by
  rw [show keyB k++bigB d.toNat 2++m=bigB k.1.toNat 4++(bigB (n64 k.2) 8++(bigB d.toNat 2++m)) by simp [keyB,aAs]]
  exact seg0 _ _ _ (bigB_length _ _)
 have k2:((keyB k++bigB d.toNat 2++m).drop 4).take 8=bigB (n64 k.2) 8:=by
  rw [show keyB k++bigB d.toNat 2++m=bigB k.1.toNat 4++bigB (n64 k.2) 8++(bigB d.toNat 2++m) by simp [keyB,aAs]]
  exact seg _ _ _ _ _ (bigB_length _ _) (bigB_length _ _)
 have k3:((keyB k++bigB d.toNat 2++m).drop 12).take 2=bigB d.toNat 2:=seg _ _ _ _ _ (keyB_length _) (bigB_length _ _)
 rw [k1,k2,k3,num_big,num_big,num_big,n64_mod,s64_n64 hr]
 refine⟨Prod.ext ?_ rfl, ?_⟩
 ·show ((k.1.toNat%256 ^ 4:Nat):Int)=k.1;omega
 ·omega
theorem inner_back {K:List KEY}{D:List Int}(h:innerB K D=true)(hr: ∀k∈K,keyR k):keysG (putI K D) D.length=K∧kidsG (putI K D) D.length=D:=by
 obtain⟨h1,h2,h3,h4,h5⟩:=innerB_spec h
 have key: ∀i (g1:i<K.length) (g2:i<D.length),keyG (putI K D) i=K[i] ∧kidG (putI K D) i=D[i] :=fun i g1 g2=>by
  have hgk:K.getD i (0,0)=K[i] :=by rw [gDe,gEe g1];rfl
  have hgd:D.getD i 0=D[i] :=by rw [gDe,gEe g2];rfl
  have hk:=keysTo_at' h1 i g1
  have hd:=kidsTo_at' h2 i g2
  rw [keyAt,Bool.and_eq_true,hgk] at hk
  rw [kidAt,Bool.and_eq_true,hgd] at hd
  have hd':2≤D[i] ∧D[i] ≤511:=by simpa [betw] using hd.1
  obtain⟨m,hm⟩:=kidsB_at K D [] D.length i g2
  rw [List.append_nil,hgk,hgd] at hm
  have hb:=kid_back K[i] D[i] m hk.1 (hr _ (List.getElem_mem g1)) ⟨by omega,by omega⟩
  rw [←hm] at hb
  have hdr: ∀j,(putI K D).drop (1+j)=(kidsB K D D.length).drop j:=fun j=>by rw [putI,Nat.add_comm,List.drop_succ_cons]
  have e1:(putI K D).drop (1+i*14)=(kidsB K D D.length).drop (i*14):=hdr _
  have e2:(putI K D).drop (5+i*14)=((kidsB K D D.length).drop (i*14)).drop 4:=by rw [show 5+i*14=1+(i*14+4) by omega,hdr,List.drop_drop]
  have e3:(putI K D).drop (13+i*14)=((kidsB K D D.length).drop (i*14)).drop 12:=by rw [show 13+i*14=1+(i*14+12) by omega,hdr,List.drop_drop]
  rw [keyG,kidG,e1,e2,e3]
  exact hb
 constructor
 ·apply List.ext_getElem
  ·rw [keysG,List.length_map,List.length_range,h3]
  ·intro i g1 g2
   simp only [keysG,List.getElem_map,List.getElem_range]
   exact(key i g2 (by omega)).1
 ·apply List.ext_getElem
  ·rw [kidsG,List.length_map,List.length_range]
  ·intro i g1 g2
   simp only [kidsG,List.getElem_map,List.getElem_range]
   exact(key i (by omega) g2).2
theorem get_putI {K:List KEY}{D:List Int}(h:innerB K D=true)(hr: ∀k∈K,keyR k):getI (putI K D)=((K,D),0):=by
 obtain⟨h1,h2,h3,h4,h5⟩:=innerB_spec h
 have hc:=cnt_putI (K:=K) (D:=D) (by omega)
 have hl:=putI_length K D
 obtain⟨b1,b2⟩:=inner_back h hr
 rw [getI,hc,b1,b2,if_neg (by omega),if_pos ⟨h,rfl⟩]
end Go.Gv
namespace Go.Proofs.YtcglabmlhljkmaaGreat
open Go Go.RowKit Go.Gv
def keyL (k:KEY):List Value:= [.int .i64 k.1, .int .i64 k.2]
def keyV (k:KEY):Value:= .agg (keyL k).toArray
def KL (ks:List KEY):List Value:=ks.flatMap keyL
def NL (l:List Int):List Value:=l.map (.int .i64)
theorem NL_get (l:List Int)(i:Nat)(h:i<l.length):(NL l)[i]? =some (.int .i64 (l.getD i 0)):=by
 rw [NL,List.getElem?_map,gEe h,gDe,gEe h];rfl
theorem NL_sub (l:List Int)(hi:Nat):((NL l).drop (0*1)).take ((hi-0)*1)=NL (l.take hi):=by simp [NL,List.map_take]
theorem NL_length (l:List Int):(NL l).length=l.length:=by simp [NL]
theorem KL_length: ∀ks,(KL ks).length=ks.length*2
 | [] =>rfl
 | x::W=>by
  have:=KL_length W
  simp only [KL,keyL,List.flatMap_cons,lAp,lCn,List.length_nil] at this ⊢;omega
theorem KL_drop: ∀(F:List KEY) (k:Nat),(KL F).drop (k*2)=KL (F.drop k)
 | F,0=>rfl
 | [],k+1=>by simp [KL]
 | x::F,k+1=>by
  rw [show (k+1)*2=k*2+2 by omega, ←List.drop_drop,List.drop_drop,Nat.add_comm, ←List.drop_drop]
  exact KL_drop F k
theorem KL_two (F:List KEY)(k:Nat)(h:k<F.length):((KL F).drop (k*2)).take 2=keyL (F.getD k (0,0)):=by
 rw [KL_drop,List.drop_eq_getElem_cons h,gDe,gEe h];rfl
theorem keyL_one (k:KEY): ∀y∈keyL k,y.oneCell'=true:=by
 intro y hy;simp [keyL] at hy;rcases hy with rfl | rfl<;>rfl
theorem node_between (n low high:Int):SpecR Tryz.prog 140 #[.int .i64 n, .int .i64 low, .int .i64 high] (fun _=>True) (fun r H'=>r= .bool (betw n low high)∧H'= []):=by
 refine SpecR.of (fun w _=>?_)
 refine Calls.enter Tryz.func140 rfl rfl rfl (St.rebase w) ?_
 simp only [argSlots]
 refine Ws ?_
 (refine ZcB 10 ?_ ?_<;>intro h)
 ·have g:=of_decide_eq_true h
  refine Ws ?_
  exact Zfr (hq:=by simp only [tupled];(rw [betw,dTt g,Bool.true_and]))
 ·have g:=of_decide_eq_false h
  refine Ws ?_
  exact Zfr (hq:=by simp only [tupled];(rw [betw,dFf g,Bool.false_and]))
theorem node_rightKey (k:KEY):SpecR Tryz.prog 141 #[keyV k] (fun _=>True) (fun r H'=>r= .bool (keyOk k)∧H'= []):=by
 refine SpecR.of (fun w _=>?_)
 refine Calls.enter Tryz.func141 rfl rfl rfl (St.rebase w) ?_
 simp only [argSlots]
 refine Ws ?_
 (refine Wbx ?_;intro b1)
 refine Ws ?_
 refine Zcv (node_between k.1 0 4294967295) ?_
 refine Ws ?_
 exact Zfr (hq:=by simp only [tupled];rfl)
theorem node_Less (a b:KEY):SpecR Tryz.prog 56 #[keyV a,keyV b] (fun _=>True) (fun r H'=>r= .bool (lessK a b)∧H'= []):=by
 refine SpecR.of (fun w _=>?_)
 refine Calls.enter Tryz.func56 rfl rfl rfl (St.rebase w) ?_
 simp only [argSlots]
 refine Ws ?_
 (refine Wbx ?_;intro b2)
 refine Ws ?_
 (refine Wbx ?_;intro b3)
 refine Ws ?_
 (refine ZcB 10 ?_ ?_<;>intro h1)
 ·have g1:=of_decide_eq_true h1
  refine Ws ?_
  exact Zfr (hq:=by simp only [tupled];(rw [lessK,dTt g1,Bool.true_or]))
 ·have g1:=of_decide_eq_false h1
  refine Ws ?_
  (refine ZcB 16 ?_ ?_<;>intro h2)
  ·have g2:=of_decide_eq_true h2
   refine Ws ?_
   exact Zfr (hq:=by simp only [tupled];(rw [lessK,dFf g1,dTt g2,Bool.false_or,Bool.true_and]))
  ·have g2:=of_decide_eq_false h2
   refine Ws ?_
   exact Zfr (hq:=by simp only [tupled];(rw [lessK,dFf g1,dFf g2];rfl))
theorem slices_Index (v:Value)(l:List Int)(n:Int):SpecR Tryz.prog 174 #[v, .int .i64 n] (fun w=>RdW w v l.length (NL l)) (fun r H'=> ∃k:Int,r= .int .i64 k∧(0≤k↔n∈l)∧H'= []):=by
 refine SpecR.of (fun w hr=>?_)
 have hlen:=hr.le
 refine Calls.enter Tryz.func174 rfl rfl rfl (St.rebase w) ?_
 simp only [argSlots]
 refine Ws ?_
 refine Zlr2 (hr:=hr) ?_
 refine Ws ?_
 (refine Wl (α:={ i:Nat//i≤l.length∧n∉l.take i }) (fun x=>l.length-x.1) (fun x=> [(0,v),(1, .int .i64 n),(7, .int .i64 (l.length:Int)),(8, .int .i64 (x.1:Int))]) (fun x=> [Ex (hp w)]) ⟨0,Nat.zero_le _,by simp⟩ ?_;rintro ⟨i,hi,hno⟩ mx hmx;(try dsimp only at hmx ⊢))
 refine Ws ?_
 (refine Wcd ?_ ?_<;>intro h)
 ·have hil:i<l.length:=by omega
  have hgd:l.getD i 0=l[i] :=by rw [gDe,gEe hil];rfl
  refine Ws ?_
  refine Zir (hr:=hr) (j:=i) ?_ (hj:=by rfl) (hlt:=by exact hil) (hl:=by rw [NL_length];omega)
  refine Ws ?_
  refine Zlr (hr:=hr) ?_ (hv:=by exact(by rw [Nat.mul_one];exact NL_get l i hil))
  refine Ws ?_
  (refine Wcd ?_ ?_<;>intro hq)
  ·refine Ws ?_
   exact Zfn [] (hq:=by exact⟨(i:Int),rfl,⟨fun _=>by rw [hq,hgd];exact List.getElem_mem hil,fun _=>by omega⟩,rfl⟩)
  ·have hno2:n∉l.take (i+1):=fun hm=>by
    rw [List.take_succ_eq_append_getElem hil] at hm
    rcases List.mem_append.1 hm with hm | hm
    ·exact hno hm
    ·simp at hm;exact hq (by rw [hgd];exact hm)
   refine Ws ?_
   exact Zag ⟨i+1,by omega,hno2⟩
 ·obtain rfl:i=l.length:=by omega
  rw [List.take_length] at hno
  refine Ws ?_
  exact Zfn [] (hq:=by exact⟨-1,rfl,⟨fun h=>absurd h (by omega),fun h=>absurd h hno⟩,rfl⟩)
theorem slices_Contains (v:Value)(l:List Int)(n:Int):SpecR Tryz.prog 142 #[v, .int .i64 n] (fun w=>RdW w v l.length (NL l)) (fun r H'=>r= .bool (decide (n∈l))∧H'= []):=by
 refine SpecR.of (fun w hr=>?_)
 refine Calls.enter Tryz.func142 rfl rfl rfl (St.rebase w) ?_
 simp only [argSlots]
 refine Ws ?_
 refine Zcr (slices_Index v l n) ?_ (hpre:=by exact rdw_ex Wp hr)
 rintro r1 H1 ⟨k,rfl,hk,rfl⟩
 refine Wap ?_
 refine Ws ?_
 exact Zfr (hq:=by simp only [tupled];(congr 1;exact decide_eq_decide.2 hk))
theorem keyAt_lt {ks:List KEY}{i n:Nat}(h:keyAt ks i=false)(hi:i<n):keysTo ks n=false:=keysTo_mono ks (i:=i+1) (by rw [keysTo,h,Bool.and_false]) n (by omega)
theorem kidAt_lt {ks:List Int}{i n:Nat}(h:kidAt ks i=false)(hi:i<n):kidsTo ks n=false:=kidsTo_mono ks (i:=i+1) (by rw [kidsTo,h,Bool.and_false]) n (by omega)
theorem inner_nok {ks:List KEY}{kids:List Int}(h:keysTo ks ks.length=false):innerB ks kids=false:=by rw [innerB,h];rfl
theorem inner_nod {ks:List KEY}{kids:List Int}(h:kidsTo kids kids.length=false):innerB ks kids=false:=by rw [innerB,h,Bool.and_false];rfl
theorem node_inner (kv dv:Value)(ks:List KEY)(kids:List Int):SpecR Tryz.prog 99 #[kv,dv] (fun w=>RdW w kv ks.length (KL ks)∧RdW w dv kids.length (NL kids)) (fun r H'=>r= .bool (innerB ks kids)∧H'= []):=by
 refine SpecR.of (fun w hrr=>?_)
 obtain⟨hr1,hr2⟩:=hrr
 have hlen1:=hr1.le
 have hlen2:=hr2.le
 refine Calls.enter Tryz.func99 rfl rfl rfl (St.rebase w) ?_
 simp only [argSlots]
 refine Ws ?_
 refine Zlr2 (hr:=hr1) ?_
 refine Ws ?_
 (refine Wl (α:={ i:Nat//i≤ks.length∧keysTo ks i=true }) (fun x=>ks.length-x.1) (fun x=> [(0,kv),(1,dv),(9,kv),(10, .int .i64 (ks.length:Int)),(11, .int .i64 (x.1:Int))]) (fun x=> [Ex (hp w)]) ⟨0,Nat.zero_le _,rfl⟩ ?_;rintro ⟨i,hi,hks⟩ mx hmx;(try dsimp only at hmx ⊢))
 refine Ws ?_
 (refine Wcd ?_ ?_<;>intro h)
 ·have hil:i<ks.length:=by omega
  refine Ws ?_
  refine Zir (hr:=hr1) (j:=i) ?_ (hj:=by rfl) (hlt:=by exact hil) (hl:=by rw [KL_length];omega)
  refine Ws ?_
  refine Zlh (hr:=hr1) ?_ (hv:=by exact KL_two ks i hil) (hl:=by rfl)
  refine Ws ?_
  refine Zal fun b6=>?_
  refine Ws ?_
  refine ZSa (ys:=keyL (ks.getD i (0,0))) ?_ (h1:=by exact keyL_one _)
  refine Ws ?_
  ((with_reducible apply Tri.quiet);(case hB=>kernel_rfl))
  refine Zqo (h:=fun _ qK=>by exact Zla qK (hl:=by rfl)) (k:=?_)
  refine Zqo (h:=fun _ qK=>by exact Zcv (node_rightKey (ks.getD i (0,0))) qK) (k:=?_)
  refine Wqs ?_
  ((with_reducible apply TriQ.casesB 19);(case h=>rfl);(all_goals intro g1))
  ·have g1':keyOk (ks.getD i (0,0))=false:=by simpa using g1
   refine Wqs ?_
   refine Ws ?_
   exact Zfr (hq:=by simp only [tupled];(rw [inner_nok (keyAt_lt (by rw [keyAt,g1'];rfl) hil)]))
  ·have g1':keyOk (ks.getD i (0,0))=true:=by simpa using g1
   refine Wqs ?_
   ((with_reducible apply TriQ.casesB 22);(case h=>rfl);(all_goals intro g2))
   ·have g2':=of_decide_eq_true g2
    refine Wqs ?_
    refine Zqo (h:=fun _ qK=>by exact Zir (hr:=hr1) (j:=i-1) qK (hj:=by omega) (hlt:=by omega) (hl:=by rw [KL_length];omega)) (k:=?_)
    refine Zqo (h:=fun _ qK=>by exact Zlh (hr:=hr1) qK (hv:=by exact KL_two ks (i-1) (by omega)) (hl:=by rfl)) (k:=?_)
    refine Zqo (h:=fun _ qK=>by exact Zla qK (hl:=by rfl)) (k:=?_)
    refine Zqo (h:=fun _ qK=>by exact Zcv (node_Less (ks.getD (i-1) (0,0)) (ks.getD i (0,0))) qK) (k:=?_)
    refine Wqs ?_
    refine Ws ?_
    (refine Wcb ?_ ?_<;>intro g3)
    ·have g3':lessK (ks.getD (i-1) (0,0)) (ks.getD i (0,0))=false:=by simpa using g3
     refine Ws ?_
     exact Zfr (hq:=by simp only [tupled];(rw [inner_nok (keyAt_lt (by rw [keyAt,g3',dFf (by omega)];simp) hil)]))
    ·have g3':lessK (ks.getD (i-1) (0,0)) (ks.getD i (0,0))=true:=by simpa using g3
     refine Ws ?_
     exact Zag ⟨i+1,by omega,by rw [keysTo,hks,keyAt,g1',g3'];simp⟩
   ·have g2':=of_decide_eq_false g2
    refine Wqs ?_
    refine Ws ?_
    exact Zag ⟨i+1,by omega,by rw [keysTo,hks,keyAt,g1',dTt (show i=0 by omega)];simp⟩
 ·obtain rfl:i=ks.length:=by omega
  refine Ws ?_
  refine Zlr2 (hr:=hr2) ?_
  refine Ws ?_
  (refine Wl (α:={ i:Nat//i≤kids.length∧kidsTo kids i=true }) (fun x=>kids.length-x.1) (fun x=> [(0,kv),(1,dv),(34,dv),(35, .int .i64 (kids.length:Int)),(36, .int .i64 (x.1:Int))]) (fun x=> [Ex (hp w)]) ⟨0,Nat.zero_le _,rfl⟩ ?_;rintro ⟨i,hi,hds⟩ mx hmx;(try dsimp only at hmx ⊢))
  refine Ws ?_
  (refine Wcd ?_ ?_<;>intro h2)
  ·have hil:i<kids.length:=by omega
   refine Ws ?_
   refine Zir (hr:=hr2) (j:=i) ?_ (hj:=by rfl) (hlt:=by exact hil) (hl:=by rw [NL_length];omega)
   refine Ws ?_
   refine Zlr (hr:=hr2) ?_ (hv:=by exact(by rw [Nat.mul_one];exact NL_get kids i hil))
   refine Ws ?_
   refine Zcv (node_between (kids.getD i 0) 2 511) ?_
   refine Ws ?_
   (refine ZcB 44 ?_ ?_<;>intro g1)
   ·have g1':betw (kids.getD i 0) 2 511=false:=by simpa using g1
    refine Ws ?_
    exact Zfr (hq:=by simp only [tupled];(rw [inner_nod (kidAt_lt (by rw [kidAt,g1'];rfl) hil)]))
   ·have g1':betw (kids.getD i 0) 2 511=true:=by simpa using g1
    refine Ws ?_
    refine Zsl (lo:=0) (hi:=i) ?_ (hr:=by exact rdw_ex Wp hr2)
    refine Ws ?_
    have hsub: ∀w',RdW w' dv kids.length (NL kids)→RdW w' (subv dv 1 0 i) (kids.take i).length (NL (kids.take i)):=fun w' h=>by
     have:=h.subv (size:=1) (lo:=0) (hi:=i) (by omega) (by omega)
     rw [NL_sub,Nat.sub_zero] at this
     rw [lTk,show min i kids.length=i by omega];exact this
    refine Zcv (slices_Contains (subv dv 1 0 i) (kids.take i) (kids.getD i 0)) ?_ (hpre:=by exact fun w' hw'=>hsub w' (rdw_ex Wp hr2 w' hw'))
    refine Ws ?_
    (refine Wcb ?_ ?_<;>intro g2)
    ·refine Ws ?_
     exact Zfr (hq:=by simp only [tupled];(rw [inner_nod (kidAt_lt (by rw [kidAt,g2];simp) hil)]))
    ·refine Ws ?_
     exact Zag ⟨i+1,by omega,by rw [kidsTo,hds,kidAt,g1',g2];simp⟩
  ·obtain rfl:i=kids.length:=by omega
   refine Ws ?_
   refine Zlr2 (hr:=hr1) ?_
   refine Ws ?_
   refine Zlr2 (hr:=hr2) ?_
   refine Ws ?_
   (refine ZcB 57 ?_ ?_<;>intro g1)
   ·have g1':=of_decide_eq_true g1
    refine Ws ?_
    refine Zlr2 (hr:=hr2) ?_
    refine Ws ?_
    refine Zcv (node_between (kids.length:Int) 1 16) ?_
    refine Ws ?_
    exact Zfr (hq:=by simp only [tupled];(rw [innerB,hks,hds,dTt (show ks.length=kids.length by omega)];rfl))
   ·have g1':=of_decide_eq_false g1
    refine Ws ?_
    exact Zfr (hq:=by simp only [tupled];(rw [innerB,hks,hds,dFf (show ¬ks.length=kids.length by omega)];rfl))
def ndL (ev kv dv:Value):List Value:= [.bool false,ev,kv,dv]
def ndV (ev kv dv:Value):Value:= .agg (ndL ev kv dv).toArray
theorem node_big (v:Value)(l:List UInt8)(n size:Nat)(hs:size≤8)(hl:l.length≤1000000):Gv.Spec Tryz.prog 175 #[v, .int .u64 (n:Int), .int .i64 (size:Int)] [own 5 1 v l.length (B8 l)]
  (fun r H'=>H'= [own 5 1 r (l++bigB n size).length (B8 (l++bigB n size))]):=by
 refine Gv.Spec.of (fun w h0 hw=>?_)
 refine Calls.enter Tryz.func175 rfl rfl rfl hw ?_
 simp only [argSlots]
 refine Wap ?_
 refine Ws ?_
 (refine Wl (α:=Σ' (k:Nat) (c:List UInt8) (u:Value),k≤size∧c++bigB n k=l++bigB n size) (fun x=>x.1) (fun x=> [(0,x.2.2.1),(1, .int .u64 (n:Int)),(7, .int .i64 ((x.1:Int)-1))]) (fun x=> [own 5 1 x.2.2.1 x.2.1.length (B8 x.2.1),Ex h0]) ⟨size,l,v,Nat.le_refl _,rfl⟩ ?_;rintro ⟨k,c,u,hk,hc⟩ mx hmx;(try dsimp only at hmx ⊢))
 have hcl:c.length+k=l.length+size:=by
  have:=congrArg List.length hc
  simpa [bigB_length] using this
 refine Ws ?_
 (refine Wcd ?_ ?_<;>intro h)
 ·obtain⟨j,rfl⟩: ∃j,k=j+1:=⟨k-1,by omega⟩
  refine Ws ?_
  refine Zi 19 ((UInt8.ofNat (n/2 ^ (8*j))).toNat:Int) ?_ (hi:=by rw [show ((j+1:Nat):Int)-1=(j:Int) by omega];exact byte_shr n j (by omega))
  (refine Zli (ys:= [.int .u8 ((UInt8.ofNat (n/2 ^ (8*j))).toNat:Int)]) ?_;intro vl)
  refine Ws ?_
  refine Zap ?_ (hr:=by exact rdw_own Wp) (hl:=by rfl) (h1:=by intro y hy;simp at hy;subst hy;rfl)
  intro u'
  refine Ws ?_
  refine Zat (own 5 1 u' _ _) (own 5 1 u' (c++ [UInt8.ofNat (n/2 ^ (8*j))]).length (B8 (c++ [UInt8.ofNat (n/2 ^ (8*j))]))) ?_ (e:=by rw [B8_append,lAp];rfl)
  refine Zi 7 ((j:Int)-1) ?_ (hi:=by omega)
  exact Zag ⟨j,c++ [UInt8.ofNat (n/2 ^ (8*j))],u',by omega,by rw [←hc,bigB];simp⟩
 ·obtain rfl:k=0:=by omega
  have hce:c=l++bigB n size:=by rw [←hc];simp [bigB]
  refine Ws ?_
  refine Zat (own 5 1 u _ _) (own 5 1 u (l++bigB n size).length (B8 (l++bigB n size))) ?_ (e:=by rw [hce])
  refine Zfn [own 5 1 u (l++bigB n size).length (B8 (l++bigB n size))] (hq:=?_)
  rfl
theorem node_Right_inner (ev kv dv:Value)(ks:List KEY)(kids:List Int):SpecR Tryz.prog 55 #[ndV ev kv dv] (fun w=>RdW w ev 0 [] ∧RdW w kv ks.length (KL ks)∧RdW w dv kids.length (NL kids)) (fun r H'=>r= .bool (innerB ks kids)∧H'= []):=by
 refine SpecR.of (fun w hrr=>?_)
 obtain⟨hr0,hr1,hr2⟩:=hrr
 refine Calls.enter Tryz.func55 rfl rfl rfl (St.rebase w) ?_
 simp only [argSlots]
 refine Ws ?_
 (refine Wbx ?_;intro b1)
 refine Ws ?_
 refine Zlr2 (hr:=hr0) ?_
 refine Ws ?_
 refine Zz 24 true ?_
 refine Ws ?_
 refine Zcv (node_inner kv dv ks kids) ?_ (hpre:=by exact fun w' hw'=>⟨rdw_ex Wp hr1 w' hw',rdw_ex Wp hr2 w' hw'⟩)
 refine Ws ?_
 exact Zfr (hq:=by simp only [tupled];done)
theorem node_Size_inner (ev kv dv:Value)(kids:List Int):SpecR Tryz.prog 114 #[ndV ev kv dv] (fun w=>RdW w dv kids.length (NL kids)) (fun r H'=>r= .int .i64 (kids.length:Int)∧H'= []):=by
 refine SpecR.of (fun w hr=>?_)
 refine Calls.enter Tryz.func114 rfl rfl rfl (St.rebase w) ?_
 simp only [argSlots]
 refine Ws ?_
 (refine Wbx ?_;intro b1)
 refine Ws ?_
 refine Zlr2 (hr:=hr) ?_
 refine Ws ?_
 exact Zfr (hq:=by simp only [tupled];done)
theorem inner_spec {ks:List KEY}{kids:List Int}(h:innerB ks kids=true):keysTo ks ks.length=true∧kidsTo kids kids.length=true∧ks.length=kids.length∧1≤kids.length∧kids.length≤16:=by
 simp only [innerB,betw,Bool.and_eq_true,decide_eq_true_eq] at h
 refine⟨h.1.1.1,h.1.1.2,h.1.2, ?_, ?_⟩<;>omega
theorem keysTo_at {ks:List KEY}: ∀{n:Nat},keysTo ks n=true→ ∀i,i<n→keyAt ks i=true
 | n+1,h,i,hi=>by
  rw [keysTo,Bool.and_eq_true] at h
  by_cases e:i=n
  ·subst e;exact h.2
  ·exact keysTo_at h.1 i (by omega)
theorem kidsTo_at {ks:List Int}: ∀{n:Nat},kidsTo ks n=true→ ∀i,i<n→kidAt ks i=true
 | n+1,h,i,hi=>by
  rw [kidsTo,Bool.and_eq_true] at h
  by_cases e:i=n
  ·subst e;exact h.2
  ·exact kidsTo_at h.1 i (by omega)
theorem key_range {ks:List KEY}{i:Nat}(h:keyAt ks i=true):0≤(ks.getD i (0,0)).1∧(ks.getD i (0,0)).1≤4294967295:=by
 simp only [keyAt,keyOk,betw,Bool.and_eq_true,decide_eq_true_eq] at h
 exact h.1
theorem kid_range {ks:List Int}{i:Nat}(h:kidAt ks i=true):2≤ks.getD i 0∧ks.getD i 0≤511:=by
 simp only [kidAt,betw,Bool.and_eq_true,decide_eq_true_eq] at h
 exact h.1
theorem node_putKey (v:Value)(l:List UInt8)(k:KEY)(hk:0≤k.1∧k.1≤4294967295)(hl:l.length≤1000):Gv.Spec Tryz.prog 176 #[v,keyV k] [own 5 1 v l.length (B8 l)]
  (fun r H'=>H'= [own 5 1 r (l++keyB k).length (B8 (l++keyB k))]):=by
 refine Gv.Spec.of (fun w h0 hw=>?_)
 refine Calls.enter Tryz.func176 rfl rfl rfl hw ?_
 simp only [argSlots]
 refine Wap ?_
 refine Ws ?_
 (refine Wbx ?_;intro b3)
 refine Ws ?_
 refine Wm [blk b3 38 (keyL k)] ?_
 refine Wq [0,1,2,3] ?_
 refine ZMv 8 (.int .u64 (k.1.toNat:Int)) ?_ (hv:=by congr 1;omega)
 refine Wq [5,6,7] ?_
 refine ZMv 12 (.int .u64 (n64 k.2:Int)) ?_ (hv:=by congr 1;unfold n64;omega)
 refine ZA 4 ?_
 refine Zcs (node_big v l k.1.toNat 4 (by omega) (by omega)) ?_
 rintro v2 H2 rfl
 obtain⟨c2,hc2⟩: ∃c2,c2=l++bigB k.1.toNat 4:=⟨_,rfl⟩
 have hl2:c2.length=l.length+4:=by rw [hc2,lAp,bigB_length]
 rw [←hc2]
 refine Wap ?_
 refine Zw ?_
 refine ZA 8 ?_
 refine Zcs (node_big v2 c2 (n64 k.2) 8 (by omega) (by omega)) ?_
 rintro v3 H3 rfl
 refine Wap ?_
 have e:c2++bigB (n64 k.2) 8=l++keyB k:=by rw [hc2,keyB,aAs]
 rw [e]
 refine Zw ?_
 refine Wq [9] ?_
 refine ZE ?_
 refine Ws ?_
 refine Zfn [own 5 1 v3 (l++keyB k).length (B8 (l++keyB k))] (hq:=?_)
 rfl
theorem node_Put_no (ev kv dv:Value)(ks:List KEY)(kids:List Int)(h:innerB ks kids=false):SpecR Tryz.prog 144 #[ndV ev kv dv] (fun w=>RdW w ev 0 [] ∧RdW w kv ks.length (KL ks)∧RdW w dv kids.length (NL kids)) (fun r H'=>r= .tuple #[.slice none 0 0, .int .i64 1] ∧H'= []):=by
 refine SpecR.of (fun w hrr=>?_)
 obtain⟨hr0,hr1,hr2⟩:=hrr
 refine Calls.enter Tryz.func144 rfl rfl rfl (St.rebase w) ?_
 simp only [argSlots]
 refine Ws ?_
 (refine Wbx ?_;intro b1)
 refine Ws ?_
 refine Zla (cs:=ndL ev kv dv) ?_ (hl:=by rfl)
 refine Ws ?_
 refine Zcv (node_Right_inner ev kv dv ks kids) ?_ (hpre:=by exact fun w' hw'=>⟨rdw_ex Wp hr0 w' hw',rdw_ex Wp hr1 w' hw',rdw_ex Wp hr2 w' hw'⟩)
 refine Ws ?_
 refine Zz 11 true ?_ (hi:=by rw [h];rfl)
 refine Ws ?_
 exact Zfr (hq:=by simp only [tupled];done)
theorem node_Put (ev kv dv:Value)(ks:List KEY)(kids:List Int)(h:innerB ks kids=true):SpecR Tryz.prog 144 #[ndV ev kv dv] (fun w=>RdW w ev 0 [] ∧RdW w kv ks.length (KL ks)∧RdW w dv kids.length (NL kids)) (fun r H'=> ∃u,r= .tuple #[u, .int .i64 0] ∧H'= [own 5 1 u (putI ks kids).length (B8 (putI ks kids))]):=by
 refine SpecR.of (fun w hrr=>?_)
 obtain⟨hr0,hr1,hr2⟩:=hrr
 obtain⟨i1,i2,i3,i4,i5⟩:=inner_spec h
 refine Calls.enter Tryz.func144 rfl rfl rfl (St.rebase w) ?_
 simp only [argSlots]
 refine Ws ?_
 (refine Wbx ?_;intro b1)
 refine Ws ?_
 refine Zla (cs:=ndL ev kv dv) ?_ (hl:=by rfl)
 refine Ws ?_
 refine Zcv (node_Right_inner ev kv dv ks kids) ?_ (hpre:=by exact fun w' hw'=>⟨rdw_ex Wp hr0 w' hw',rdw_ex Wp hr1 w' hw',rdw_ex Wp hr2 w' hw'⟩)
 refine Ws ?_
 refine Zz 11 false ?_ (hi:=by rw [h];rfl)
 refine Ws ?_
 refine Zla (cs:=ndL ev kv dv) ?_ (hl:=by rfl)
 refine Ws ?_
 refine Zcv (node_Size_inner ev kv dv kids) ?_ (hpre:=by exact rdw_ex Wp hr2)
 refine Ws ?_
 refine Zi 14 ((UInt8.ofNat kids.length).toNat:Int) ?_ (hi:=by have:((UInt8.ofNat kids.length).toNat:Int)=(kids.length:Int)%256:=by { simp };omega)
 (refine Zli (ys:= [.int .u8 ((UInt8.ofNat kids.length).toNat:Int)]) ?_;intro v4)
 refine Ws ?_
 refine Zlr2 (hr:=hr0) ?_
 refine Ws ?_
 refine Zat (own 5 1 v4 _ _) (own 5 1 v4 (UInt8.ofNat kids.length::kidsB ks kids 0).length (B8 (UInt8.ofNat kids.length::kidsB ks kids 0))) ?_
 (refine Wl (α:=Unit) (fun _=>0) (fun _=> [(1, .pointer (some ⟨b1,0,none⟩)),(4,v4),(17,ev),(18, .int .i64 0),(19, .int .i64 0)]) (fun _=> [own 5 1 v4 (UInt8.ofNat kids.length::kidsB ks kids 0).length (B8 (UInt8.ofNat kids.length::kidsB ks kids 0)),blk b1 125 (ndL ev kv dv),Ex (hp w)]) () ?_;rintro ⟨⟩ mx hmx;(try dsimp only at hmx ⊢))
 refine Ws ?_
 (refine Wcd ?_ ?_<;>intro hz)
 ·omega
 refine Ws ?_
 refine Zlr2 (hr:=hr2) ?_
 refine Ws ?_
 (refine Wl (α:=Σ' (i:Nat) (u:Value),i≤kids.length) (fun x=>kids.length-x.1) (fun x=> [(1, .pointer (some ⟨b1,0,none⟩)),(4,x.2.1),(55,dv),(56, .int .i64 (kids.length:Int)),(57, .int .i64 (x.1:Int))]) (fun x=> [own 5 1 x.2.1 (UInt8.ofNat kids.length::kidsB ks kids x.1).length (B8 (UInt8.ofNat kids.length::kidsB ks kids x.1)),blk b1 125 (ndL ev kv dv),Ex (hp w)]) ⟨0,v4,Nat.zero_le _⟩ ?_;rintro ⟨i,u,hi⟩ mx hmx;(try dsimp only at hmx ⊢))
 obtain⟨c0,hc0⟩: ∃c0,c0=UInt8.ofNat kids.length::kidsB ks kids i:=⟨_,rfl⟩
 have hl0:c0.length=1+i*14:=by rw [hc0,lCn,kidsB_length];omega
 rw [←hc0]
 refine Ws ?_
 (refine Wcd ?_ ?_<;>intro hc)
 ·have hil:i<kids.length:=by omega
  have hik:i<ks.length:=by omega
  have hkr:=key_range (keysTo_at i1 i hik)
  have hcr:=kid_range (kidsTo_at i2 i hil)
  refine Ws ?_
  refine Zir (hr:=hr2) (j:=i) ?_ (hj:=by rfl) (hlt:=by exact hil) (hl:=by rw [NL_length];omega)
  refine Ws ?_
  refine Zlr (hr:=hr2) ?_ (hv:=by exact(by rw [Nat.mul_one];exact NL_get kids i hil))
  refine Ws ?_
  refine Zir (hr:=hr1) (j:=i) ?_ (hj:=by rfl) (hlt:=by exact hik) (hl:=by rw [KL_length];omega)
  refine Ws ?_
  refine Zlh (hr:=hr1) ?_ (hv:=by exact KL_two ks i hik) (hl:=by rfl)
  refine Ws ?_
  refine Zcs (node_putKey u c0 (ks.getD i (0,0)) hkr (by omega)) ?_
  rintro v2 H2 rfl
  obtain⟨c2,hc2⟩: ∃c2,c2=c0++keyB (ks.getD i (0,0)):=⟨_,rfl⟩
  have hl2:c2.length=13+i*14:=by rw [hc2,lAp,hl0,keyB_length];omega
  rw [←hc2]
  refine Wap ?_
  refine Ws ?_
  refine Zi 70 ((kids.getD i 0).toNat:Int) ?_ (hi:=by omega)
  refine Zcs (node_big v2 c2 (kids.getD i 0).toNat 2 (by omega) (by omega)) ?_
  rintro v3 H3 rfl
  have e:c2++bigB (kids.getD i 0).toNat 2=UInt8.ofNat kids.length::kidsB ks kids (i+1):=by rw [hc2,hc0,kidsB,cAp,cAp,aAs]
  rw [e]
  refine Wap ?_
  refine Ws ?_
  exact Zag ⟨i+1,v3,by omega⟩
 ·obtain rfl:i=kids.length:=by omega
  refine Ws ?_
  refine Zat (own 5 1 u _ _) (own 5 1 u (putI ks kids).length (B8 (putI ks kids))) ?_ (e:=by rw [hc0];rfl)
  exact Zfn [own 5 1 u (putI ks kids).length (B8 (putI ks kids))] (hq:=by exact⟨u,rfl,rfl⟩)
theorem sub_rd' {h:PH}{v:Value}{l:List UInt8}(hr:Rd h v l.length (B8 l))(lo hi:Nat)(h1:lo≤hi)(h2:hi≤l.length):Rd h (subv v 1 lo hi) ((l.drop lo).take (hi-lo)).length (B8 ((l.drop lo).take (hi-lo))):=by
 have:=hr.subv (size:=1) h1 h2
 rw [B8_sub] at this
 rw [show ((l.drop lo).take (hi-lo)).length=hi-lo by rw [lTk,lDp];omega]
 exact this
theorem drop_rd {h:PH}{v:Value}{l:List UInt8}(hr:Rd h v l.length (B8 l))(k:Nat)(hk:k≤l.length):Rd h (subv v 1 k l.length) (l.drop k).length (B8 (l.drop k)):=by
 have:=sub_rd' hr k l.length hk (Nat.le_refl _)
 rwa [List.take_of_length_le (by rw [lDp];omega)] at this
theorem get_or' (l:List UInt8)(i:Nat)(h:i<l.length):(B8 l)[i]? =some (.int .u8 ((l.getD i 0).toNat:Int)):=by
 rw [B8_get l i h,gDe,gEe h];rfl
theorem s64_wrap (n:Nat)(h:n<18446744073709551616):IntKind.i64.wrap (n:Int)=s64 n:=by
 rw [IntKind.wrap_i64];unfold s64;split<;>omega
theorem node_take (r:Nat)(u:Value)(l:List UInt8)(size:Nat)(h1:PH)(hr:Rd h1 u l.length (B8 l))(hs:size≤l.length)(h8:size≤8):Gv.Spec Tryz.prog 147 #[.pointer (some ⟨r,0,none⟩), .int .i64 (size:Int)] [blk r 237 [u],Ex h1]
  (fun x H'=>x= .int .u64 (numB (l.take size):Int)∧ ∃A c,Rd h1 (.slice A (l.drop size).length c) (l.drop size).length (B8 (l.drop size))∧H'= [blk r 237 [.slice A (l.drop size).length c],Ex h1]):=by
 refine Gv.Spec.of (fun w h0 hw=>?_)
 refine Calls.enter Tryz.func147 rfl rfl rfl hw ?_
 simp only [argSlots]
 refine Wap ?_
 have hm:Rd h1 (subv u 1 0 size) (l.take size).length (B8 (l.take size)):=by
  have:=sub_rd' hr 0 size (by omega) hs
  rwa [List.drop_zero,Nat.sub_zero] at this
 have hml:(l.take size).length=size:=by rw [lTk];omega
 have hd:=drop_rd hr size hs
 refine Ws ?_
 refine Zsl (lo:=0) (hi:=size) ?_ (hr:=by exact rdw_ex Wp hr)
 refine Ws ?_
 refine Zlr2 (hr:=hm) ?_
 refine Ws ?_
 (refine Wl (α:={ k:Nat//k≤size }) (fun x=>size-x.1) (fun x=> [(0, .pointer (some ⟨r,0,none⟩)),(1, .int .i64 (size:Int)),(5, .int .u64 (numB ((l.take size).take x.1):Int)),(13,subv u 1 0 size),(14, .int .i64 ((l.take size).length:Int)),(15, .int .i64 (x.1:Int))]) (fun x=> [blk r 237 [u],Ex h1,Ex h0]) ⟨0,Nat.zero_le _⟩ ?_;rintro ⟨k,hk⟩ mx hmx;(try dsimp only at hmx ⊢))
 refine Ws ?_
 (refine Wcd ?_ ?_<;>intro h)
 ·have hk':k<(l.take size).length:=by omega
  have hb:=numB_lt ((l.take size).take k)
  have hb2:numB ((l.take size).take k)<256 ^ 7:=Nat.lt_of_lt_of_le hb (Nat.pow_le_pow_right (by omega) (by rw [lTk];omega))
  refine Ws ?_
  refine Zir (hr:=hm) (j:=k) ?_ (hj:=by rfl) (hlt:=by exact hk') (hl:=by rw [B8_length];omega)
  refine Ws ?_
  refine Zlr (hr:=hm) ?_ (hv:=by exact(by rw [Nat.mul_one];exact B8_get _ k hk'))
  refine Ws ?_
  have hy:((((l.take size)[k]'hk').toNat:Nat):Int)%18446744073709551616=(((l.take size)[k]'hk').toNat:Int):=by have:=((l.take size)[k]'hk').toNat_lt;omega
  have hor:=or8_64 (numB ((l.take size).take k)) ((l.take size)[k]'hk') (by omega)
  refine Zi 5 (numB ((l.take size).take (k+1)):Int) ?_ (hi:=by rw [numB_take (l.take size) k hk',hy];exact hor)
  exact Zag ⟨k+1,by omega⟩
 ·obtain rfl:k=size:=by omega
  refine Zi 5 (numB (l.take k):Int) ?_ (hi:=by rw [List.take_of_length_le (l:=l.take k) (Nat.le_of_eq hml)])
  refine Ws ?_
  refine Zsl (lo:=k) (hi:=l.length) ?_ (hr:=by exact rdw_ex Wp hr)
  obtain⟨A,c,he,_⟩:=id hd
  rw [he] at hd
  refine Zv 31 (.slice A (l.drop k).length c) ?_ (hv:=by exact he)
  refine Ws ?_
  refine ZS ?_ (hi:=by show 0<1;omega)
  refine Ws ?_
  exact Zfn [blk r 237 [.slice A (l.drop k).length c],Ex h1] (hq:=by exact⟨rfl,A,c,hd,rfl⟩)
theorem node_key (r:Nat)(u:Value)(l:List UInt8)(h1:PH)(hr:Rd h1 u l.length (B8 l))(hs:12≤l.length):Gv.Spec Tryz.prog 146 #[.pointer (some ⟨r,0,none⟩)] [blk r 237 [u],Ex h1]
  (fun x H'=>x=keyV ((numB (l.take 4):Int),s64 (numB ((l.drop 4).take 8)))∧ ∃A c,Rd h1 (.slice A (l.drop 12).length c) (l.drop 12).length (B8 (l.drop 12))∧H'= [blk r 237 [.slice A (l.drop 12).length c],Ex h1]):=by
 refine Gv.Spec.of (fun w h0 hw=>?_)
 refine Calls.enter Tryz.func146 rfl rfl rfl hw ?_
 simp only [argSlots]
 refine Wap ?_
 have hb4:=numB_lt (l.take 4)
 rw [show (l.take 4).length=4 by rw [lTk];omega] at hb4
 have hb8:=numB_lt ((l.drop 4).take 8)
 rw [show ((l.drop 4).take 8).length=8 by rw [lTk,lDp];omega] at hb8
 refine Ws ?_
 refine Zal fun b2=>?_
 refine Ws ?_
 refine Zcs (node_take r u l 4 h1 hr (by omega) (by omega)) ?_
 rintro x1 H1 ⟨rfl,A1,c1,hr1,rfl⟩
 refine Wap ?_
 refine Ws ?_
 refine Zcs (node_take r (.slice A1 (l.drop 4).length c1) (l.drop 4) 8 h1 hr1 (by rw [lDp];omega) (by omega)) ?_
 rintro x2 H2 ⟨rfl,A2,c2,hr2,rfl⟩
 rw [List.drop_drop] at hr2 ⊢
 refine Wap ?_
 refine Ws ?_
 refine Zi 8 (s64 (numB ((l.drop 4).take 8))) ?_ (hi:=by exact s64_wrap _ (by omega))
 refine Zi 5 (numB (l.take 4):Int) ?_ (hi:=by rfl)
 refine Zbu (ys:=keyL ((numB (l.take 4):Int),s64 (numB ((l.drop 4).take 8)))) ?_
 refine Ws ?_
 refine ZSa (ys:=keyL ((numB (l.take 4):Int),s64 (numB ((l.drop 4).take 8)))) ?_ (h1:=by exact keyL_one _)
 refine Ws ?_
 exact Zfn [blk r 237 [.slice A2 (l.drop (4+8)).length c2],Ex h1] (h:=ResL.cons (Zra (show (keyL ((numB (l.take 4):Int),s64 (numB ((l.drop 4).take 8)))).length=2 from rfl)) (ResL.nil)) (hq:=by exact⟨rfl,A2,c2,hr2,rfl⟩)
theorem ndL_len (a b c:Value):(ndL a b c).length=4:=rfl
theorem nd_one' (A B:Option Addr)(m c n d:Nat): ∀y∈ndL (.slice none 0 0) (.slice A m c) (.slice B n d),y.oneCell'=true:=by
 intro y hy;simp [ndL] at hy;rcases hy with rfl | rfl | rfl | rfl<;>rfl
theorem nd_one (A:Option Addr)(c:Nat)(B:Option Addr)(d:Nat): ∀y∈ndL (.slice none 0 0) (.slice none 0 0) (.slice none 0 0),y.oneCell'=true:=nd_one' none none 0 0 0 0
theorem keysG_succ (l:List UInt8)(i:Nat):keysG l (i+1)=keysG l i++ [keyG l i] :=by rw [keysG,List.range_succ,List.map_append];rfl
theorem kidsG_succ (l:List UInt8)(i:Nat):kidsG l (i+1)=kidsG l i++ [kidG l i] :=by rw [kidsG,List.range_succ,List.map_append];rfl
theorem KL_snoc (a:List KEY)(k:KEY):KL (a++ [k])=KL a++keyL k:=by simp [KL]
theorem NL_snoc (a:List Int)(k:Int):NL (a++ [k])=NL a++ [.int .i64 k] :=by simp [NL]
theorem keysG_length (l:List UInt8)(i:Nat):(keysG l i).length=i:=by simp [keysG]
theorem kidsG_length (l:List UInt8)(i:Nat):(kidsG l i).length=i:=by simp [kidsG]
theorem bytes_Equal2 (u v:Value)(a b:List UInt8):SpecR Tryz.prog 135 #[u,v] (fun w=>RdW w u a.length (B8 a)∧RdW w v b.length (B8 b)) (fun r H'=>r= .bool (decide (a=b))∧H'= []):=by
 refine SpecR.of (fun w hh=>?_)
 refine Calls.enter Tryz.func135 rfl rfl rfl (St.rebase w) ?_
 simp only [argSlots]
 refine Ws ?_
 refine Zbs (l:=a) ?_ (he:=by exact Tryz.underlying5) (hr:=by exact rdw_ex Wp hh.1)
 refine Ws ?_
 refine Zbs (l:=b) ?_ (he:=by exact Tryz.underlying5) (hr:=by exact rdw_ex Wp hh.2)
 refine Ws ?_
 exact Zfr (hq:=by simp only [tupled];(rw [bytes_eq']))
theorem node_Get_inner (v:Value)(l:List UInt8):SpecR Tryz.prog 105 #[.bool false,v] (fun w=>RdW w v l.length (B8 l)) (fun r H'=> ∃A c B d,r= .tuple #[ndV (.slice none 0 0) (.slice A (getI l).1.1.length c) (.slice B (getI l).1.2.length d), .int .i64 ((getI l).2:Int)] ∧H'= [own 38 2 (.slice A (getI l).1.1.length c) (getI l).1.1.length (KL (getI l).1.1),own 3 1 (.slice B (getI l).1.2.length d) (getI l).1.2.length (NL (getI l).1.2)]):=by
 refine SpecR.of (fun w hr=>?_)
 have hlen:=hr.le
 obtain⟨A0,c0,rfl,_⟩:=id hr
 refine Calls.enter Tryz.func105 rfl rfl rfl (St.rebase w) ?_
 simp only [argSlots]
 refine Ws ?_
 refine Zal fun b4=>?_
 refine Ws ?_
 (refine ZcB 15 ?_ ?_<;>intro h1)
 ·have g1:=of_decide_eq_true h1
  have hg:getI l=(([], []),3):=by rw [getI,if_pos (.inl (by omega))]
  refine Ws ?_
  refine ZSa (ys:=ndL (.slice none 0 0) (.slice none 0 0) (.slice none 0 0)) ?_ (h1:=by exact nd_one none 0 none 0)
  refine Ws ?_
  (with_reducible apply Tri.ownNil 3 1)
  (with_reducible apply Tri.ownNil 38 2)
  rw [hg]
  exact Zfn [own 38 2 (.slice none 0 0) 0 [],own 3 1 (.slice none 0 0) 0 []] (h:=ResL.cons (Zra (ndL_len (.slice none 0 0) (.slice none 0 0) (.slice none 0 0))) (ResL.cons (Res1.tmp rfl) (ResL.nil))) (hq:=by exact⟨none,0,none,0,rfl,rfl⟩)
 ·have g1:=of_decide_eq_false h1
  have x0:=(l.getD 0 0).toNat_lt
  refine Ws ?_
  refine Zir (hr:=hr) (j:=0) ?_ (hj:=by rfl) (hlt:=by omega) (hl:=by rw [B8_length];omega)
  refine Ws ?_
  refine Zlr (v:= .int .u8 ((l.getD 0 0).toNat:Int)) (hr:=hr) ?_ (hv:=by exact get_or' l 0 (by omega))
  refine Ws ?_
  (refine Wcd ?_ ?_<;>intro h2)
  ·have hg:getI l=(([], []),3):=by rw [getI,if_pos (.inr (by unfold cntG;omega))]
   refine Ws ?_
   refine ZSa (ys:=ndL (.slice none 0 0) (.slice none 0 0) (.slice none 0 0)) ?_ (h1:=by exact nd_one none 0 none 0)
   refine Ws ?_
   (with_reducible apply Tri.ownNil 3 1)
   (with_reducible apply Tri.ownNil 38 2)
   rw [hg]
   exact Zfn [own 38 2 (.slice none 0 0) 0 [],own 3 1 (.slice none 0 0) 0 []] (h:=ResL.cons (Zra (ndL_len (.slice none 0 0) (.slice none 0 0) (.slice none 0 0))) (ResL.cons (Res1.tmp rfl) (ResL.nil))) (hq:=by exact⟨none,0,none,0,rfl,rfl⟩)
  ·obtain⟨n,hn⟩: ∃n,n=cntG l:=⟨_,rfl⟩
   have hn':n=(l.getD 0 0).toNat:=hn
   have hll:l.length=1+n*14:=by omega
   refine Ws ?_
   refine Zbu (ys:=ndL (.slice none 0 0) (.slice none 0 0) (.slice none 0 0)) ?_
   refine Ws ?_
   refine Zal fun b7=>?_
   refine Ws ?_
   refine ZSa (ys:=ndL (.slice none 0 0) (.slice none 0 0) (.slice none 0 0)) ?_ (h1:=by exact nd_one none 0 none 0)
   refine Ws ?_
   refine Zsl (lo:=1) (hi:=l.length) ?_ (hr:=by exact rdw_ex Wp hr)
   have hd1:=drop_rd hr 1 (by omega)
   obtain⟨A1,c1,he,_⟩:=id hd1
   rw [he] at hd1
   refine Zv 31 (.slice A1 (l.drop 1).length c1) ?_ (hv:=by exact he)
   refine Ws ?_
   refine Zbu (ys:= [.slice A1 (l.drop 1).length c1]) ?_
   refine Ws ?_
   (refine Wbx ?_;intro b8)
   refine Ws ?_
   refine Zir (hr:=hr) (j:=0) ?_ (hj:=by rfl) (hlt:=by omega) (hl:=by rw [B8_length];omega)
   refine Ws ?_
   refine Zlr (v:= .int .u8 ((l.getD 0 0).toNat:Int)) (hr:=hr) ?_ (hv:=by exact get_or' l 0 (by omega))
   refine Ws ?_
   (with_reducible apply Tri.ownNil 3 1)
   (with_reducible apply Tri.ownNil 38 2)
   refine Zat (own 38 2 _ 0 []) (own 38 2 (.slice none 0 0) 0 (KL (keysG l 0))) ?_
   refine Zat (own 3 1 _ 0 []) (own 3 1 (.slice none 0 0) 0 (NL (kidsG l 0))) ?_
   refine Zi 37 (n:Int) ?_ (hi:=by rw [hn'])
   (refine Wl (α:=Σ' (i:Nat) (Ak:Option Addr) (ck:Nat) (Ad:Option Addr) (cd:Nat) (A1:Option Addr) (c1:Nat),i≤n∧Rd (hp w) (.slice A1 (l.drop (1+i*14)).length c1) (l.drop (1+i*14)).length (B8 (l.drop (1+i*14)))) (fun x=>n-x.1) (fun x=> [(0, .bool false),(1, .slice A0 l.length c0),(4, .pointer (some ⟨b4,0,none⟩)),(7, .pointer (some ⟨b7,0,none⟩)),(8, .pointer (some ⟨b8,0,none⟩)),(37, .int .i64 (n:Int)),(38, .int .i64 (x.1:Int))]) (fun x=> [blk b4 125 [.bool false, .slice none 0 0, .slice none 0 0, .slice none 0 0],blk b7 125 (ndL (.slice none 0 0) (.slice x.2.1 x.1 x.2.2.1) (.slice x.2.2.2.1 x.1 x.2.2.2.2.1)),blk b8 237 [.slice x.2.2.2.2.2.1 (l.drop (1+x.1*14)).length x.2.2.2.2.2.2.1],own 38 2 (.slice x.2.1 x.1 x.2.2.1) x.1 (KL (keysG l x.1)),own 3 1 (.slice x.2.2.2.1 x.1 x.2.2.2.2.1) x.1 (NL (kidsG l x.1)),Ex (hp w)]) ⟨0,none,0,none,0,A1,c1,Nat.zero_le _,hd1⟩ ?_;rintro ⟨i,Ak,ck,Ad,cd,A1,c1,hi,hu⟩ mx hmx;(try dsimp only at hmx ⊢))
   refine Ws ?_
   (refine Wcd ?_ ?_<;>intro hc)
   ·have hin:i<n:=by omega
    have hkb:numB ((l.drop (13+i*14)).take 2)<65536:=by
     have:=numB_lt ((l.drop (13+i*14)).take 2)
     rw [show ((l.drop (13+i*14)).take 2).length=2 by rw [lTk,lDp];omega] at this
     exact this
    have hkk:((numB ((l.drop (1+i*14)).take 4):Int),s64 (numB ((l.drop (1+i*14+4)).take 8)))=keyG l i:=by rw [keyG,show 5+i*14=1+i*14+4 by omega]
    refine Wo ?_
    (with_reducible refine Tri.seq ?_)
    (with_reducible refine Tri.block ?_)
    (with_reducible refine Tri.seq ?_)
    (with_reducible refine Tri.seq ?_)
    refine Wo ?_
    (refine Wme (α:=Σ' (A3:Option Addr) (c3:Nat) (A2:Option Addr) (c2:Nat),Rd (hp w) (.slice A2 (l.drop (13+i*14)).length c2) (l.drop (13+i*14)).length (B8 (l.drop (13+i*14)))) (fun x=> [(0, .bool false),(1, .slice A0 l.length c0),(4, .pointer (some ⟨b4,0,none⟩)),(7, .pointer (some ⟨b7,0,none⟩)),(8, .pointer (some ⟨b8,0,none⟩)),(37, .int .i64 (n:Int)),(38, .int .i64 (i:Int))]) (fun x=> [blk b4 125 [.bool false, .slice none 0 0, .slice none 0 0, .slice none 0 0],blk b7 125 (ndL (.slice none 0 0) (.slice x.1 (i+1) x.2.1) (.slice Ad i cd)),blk b8 237 [.slice x.2.2.1 (l.drop (13+i*14)).length x.2.2.2.1],own 38 2 (.slice x.1 (i+1) x.2.1) (i+1) (KL (keysG l (i+1))),own 3 1 (.slice Ad i cd) i (NL (kidsG l i)),Ex (hp w)]) ?_ ?_;rotate_left;rintro ⟨A3,c3,A2,c2,hr2⟩;(try dsimp only);rotate_left)
    ·refine Wm [Ex (hp w)] ?_
     refine Wq [0,2] ?_
     refine ZA2 1 3 ?_ ?_
     ·refine Zl ?_
      refine Zw ?_
      refine ZA 3 ?_
      refine Zcs (node_key b8 (.slice A1 (l.drop (1+i*14)).length c1) (l.drop (1+i*14)) (hp w) hu (by rw [lDp];omega)) ?_
      rintro x1 H1 ⟨rfl,A2,c2,hr2,rfl⟩
      simp only [List.drop_drop] at hr2 ⊢
      rw [show 1+i*14+12=13+i*14 by omega] at hr2 ⊢
      rw [hkk]
      refine Wap ?_
      refine Zw ?_
      refine ZA 4 ?_
      (refine Zli (ys:=keyL (keyG l i)) ?_;intro vl)
      refine Zw ?_
      refine ZA 5 ?_
      refine Zap ?_ (hr:=by exact rdw_own Wp) (hl:=by rfl) (h1:=by exact keyL_one _)
      intro kv2
      (refine Tri.shape (e:=38) (size:=2) (v:=kv2) Wp ?_;rintro ⟨A3,c3,rfl⟩)
      refine Zw ?_
      refine Wq [6] ?_
      refine ZA 7 ?_
      refine ZS ?_ (hi:=by show 2<4;omega)
      refine Zw ?_
      refine ZE ?_
      refine Wo ?_
      refine Zat (own 38 2 (.slice A3 _ c3) _ _) (own 38 2 (.slice A3 (i+1) c3) (i+1) (KL (keysG l (i+1)))) ?_ (e:=by rw [keysG_succ,KL_snoc])
      exact Zrc ⟨A3,c3,A2,c2,hr2⟩
     ·refine Zcs (node_key b8 (.slice A1 (l.drop (1+i*14)).length c1) (l.drop (1+i*14)) (hp w) hu (by rw [lDp];omega)) ?_
      rintro x1 H1 ⟨rfl,A2,c2,hr2,rfl⟩
      simp only [List.drop_drop] at hr2 ⊢
      rw [show 1+i*14+12=13+i*14 by omega] at hr2 ⊢
      rw [hkk]
      refine Wap ?_
      refine Zw ?_
      refine ZA2 1 4 ?_ ?_
      ·refine Zl ?_
       refine Zw ?_
       refine ZA 4 ?_
       (refine Zli (ys:=keyL (keyG l i)) ?_;intro vl)
       refine Zw ?_
       refine ZA 5 ?_
       refine Zap ?_ (hr:=by exact rdw_own Wp) (hl:=by rfl) (h1:=by exact keyL_one _)
       intro kv2
       (refine Tri.shape (e:=38) (size:=2) (v:=kv2) Wp ?_;rintro ⟨A3,c3,rfl⟩)
       refine Zw ?_
       refine Wq [6] ?_
       refine ZA 7 ?_
       refine ZS ?_ (hi:=by show 2<4;omega)
       refine Zw ?_
       refine ZE ?_
       refine Wo ?_
       refine Zat (own 38 2 (.slice A3 _ c3) _ _) (own 38 2 (.slice A3 (i+1) c3) (i+1) (KL (keysG l (i+1)))) ?_ (e:=by rw [keysG_succ,KL_snoc])
       exact Zrc ⟨A3,c3,A2,c2,hr2⟩
      ·(refine Zli (ys:=keyL (keyG l i)) ?_;intro vl)
       refine Zw ?_
       refine ZA 1 ?_
       refine Zl ?_
       refine Zw ?_
       refine ZA 5 ?_
       refine Zap ?_ (hr:=by exact rdw_own Wp) (hl:=by rfl) (h1:=by exact keyL_one _)
       intro kv2
       (refine Tri.shape (e:=38) (size:=2) (v:=kv2) Wp ?_;rintro ⟨A3,c3,rfl⟩)
       refine Zw ?_
       refine Wq [6] ?_
       refine ZA 7 ?_
       refine ZS ?_ (hi:=by show 2<4;omega)
       refine Zw ?_
       refine ZE ?_
       refine Wo ?_
       refine Zat (own 38 2 (.slice A3 _ c3) _ _) (own 38 2 (.slice A3 (i+1) c3) (i+1) (KL (keysG l (i+1)))) ?_ (e:=by rw [keysG_succ,KL_snoc])
       exact Zrc ⟨A3,c3,A2,c2,hr2⟩
    ·refine Ws ?_
     refine Wm [Ex (hp w)] ?_
     refine Wq [0,2] ?_
     refine ZA2 1 3 ?_ ?_
     ·refine Zl ?_
      refine Zw ?_
      refine ZA 3 ?_
      refine Zcs (node_take b8 (.slice A2 (l.drop (13+i*14)).length c2) (l.drop (13+i*14)) 2 (hp w) hr2 (by rw [lDp];omega) (by omega)) ?_
      rintro x1 H1 ⟨rfl,A4,c4,hr4,rfl⟩
      simp only [List.drop_drop] at hr4 ⊢
      rw [show 13+i*14+2=1+(i+1)*14 by omega] at hr4 ⊢
      refine Wap ?_
      refine Zw ?_
      refine Wq [4] ?_
      refine ZMv 59 (.int .i64 (kidG l i)) ?_ (hv:=by first | rfl | (rw [wrap_i64 (by omega)];rfl))
      refine ZA 5 ?_
      (refine Zli (ys:= [.int .i64 (kidG l i)]) ?_;intro vl)
      refine Zw ?_
      refine ZA 6 ?_
      refine Zap ?_ (hr:=by exact rdw_own Wp) (hl:=by rfl) (h1:=by intro y hy;simp at hy;subst hy;rfl)
      intro dv2
      (refine Tri.shape (e:=3) (size:=1) (v:=dv2) Wp ?_;rintro ⟨A5,c5,rfl⟩)
      refine Zw ?_
      refine Wq [7] ?_
      refine ZA 8 ?_
      refine ZS ?_ (hi:=by show 3<4;omega)
      refine Zw ?_
      refine ZE ?_
      refine Ws ?_
      refine Zat (own 3 1 (.slice A5 _ c5) _ _) (own 3 1 (.slice A5 (i+1) c5) (i+1) (NL (kidsG l (i+1)))) ?_ (e:=by rw [kidsG_succ,NL_snoc])
      exact Zag ⟨i+1,A3,c3,A5,c5,A4,c4,by omega,hr4⟩
     ·refine Zcs (node_take b8 (.slice A2 (l.drop (13+i*14)).length c2) (l.drop (13+i*14)) 2 (hp w) hr2 (by rw [lDp];omega) (by omega)) ?_
      rintro x1 H1 ⟨rfl,A4,c4,hr4,rfl⟩
      simp only [List.drop_drop] at hr4 ⊢
      rw [show 13+i*14+2=1+(i+1)*14 by omega] at hr4 ⊢
      refine Wap ?_
      refine Zw ?_
      refine Wq [4] ?_
      refine ZMv 59 (.int .i64 (kidG l i)) ?_ (hv:=by first | rfl | (rw [wrap_i64 (by omega)];rfl))
      refine ZA2 1 5 ?_ ?_
      ·refine Zl ?_
       refine Zw ?_
       refine ZA 5 ?_
       (refine Zli (ys:= [.int .i64 (kidG l i)]) ?_;intro vl)
       refine Zw ?_
       refine ZA 6 ?_
       refine Zap ?_ (hr:=by exact rdw_own Wp) (hl:=by rfl) (h1:=by intro y hy;simp at hy;subst hy;rfl)
       intro dv2
       (refine Tri.shape (e:=3) (size:=1) (v:=dv2) Wp ?_;rintro ⟨A5,c5,rfl⟩)
       refine Zw ?_
       refine Wq [7] ?_
       refine ZA 8 ?_
       refine ZS ?_ (hi:=by show 3<4;omega)
       refine Zw ?_
       refine ZE ?_
       refine Ws ?_
       refine Zat (own 3 1 (.slice A5 _ c5) _ _) (own 3 1 (.slice A5 (i+1) c5) (i+1) (NL (kidsG l (i+1)))) ?_ (e:=by rw [kidsG_succ,NL_snoc])
       exact Zag ⟨i+1,A3,c3,A5,c5,A4,c4,by omega,hr4⟩
      ·(refine Zli (ys:= [.int .i64 (kidG l i)]) ?_;intro vl)
       refine Zw ?_
       refine ZA 1 ?_
       refine Zl ?_
       refine Zw ?_
       refine ZA 6 ?_
       refine Zap ?_ (hr:=by exact rdw_own Wp) (hl:=by rfl) (h1:=by intro y hy;simp at hy;subst hy;rfl)
       intro dv2
       (refine Tri.shape (e:=3) (size:=1) (v:=dv2) Wp ?_;rintro ⟨A5,c5,rfl⟩)
       refine Zw ?_
       refine Wq [7] ?_
       refine ZA 8 ?_
       refine ZS ?_ (hi:=by show 3<4;omega)
       refine Zw ?_
       refine ZE ?_
       refine Ws ?_
       refine Zat (own 3 1 (.slice A5 _ c5) _ _) (own 3 1 (.slice A5 (i+1) c5) (i+1) (NL (kidsG l (i+1)))) ?_ (e:=by rw [kidsG_succ,NL_snoc])
       exact Zag ⟨i+1,A3,c3,A5,c5,A4,c4,by omega,hr4⟩
   ·obtain rfl:i=n:=by omega
    have hnk:(keysG l i).length=i:=keysG_length l i
    have hnd:(kidsG l i).length=i:=kidsG_length l i
    refine Ws ?_
    refine Zla (cs:=ndL (.slice none 0 0) (.slice Ak i ck) (.slice Ad i cd)) ?_ (hl:=by rfl)
    refine Ws ?_
    have hpre: ∀{H H1 H2:List Atom} (p1:Pull H (own 38 2 (.slice Ak i ck) i (KL (keysG l i))) H1) (p2:Pull H (own 3 1 (.slice Ad i cd) i (NL (kidsG l i))) H2) (w':World),St w w' H→RdW w' (.slice none 0 0) 0 [] ∧RdW w' (.slice Ak i ck) (keysG l i).length (KL (keysG l i))∧RdW w' (.slice Ad i cd) (kidsG l i).length (NL (kidsG l i)):=fun p1 p2 w' hw'=>⟨⟨none,0,rfl,⟨Nat.le_refl _,Nat.zero_le _⟩,fun j u hu=>by simp at hu⟩,by rw [hnk];exact rdw_own p1 w' hw',by rw [hnd];exact rdw_own p2 w' hw'⟩
    by_cases hok:innerB (keysG l i) (kidsG l i)=true
    ·refine Zcr (node_Put (.slice none 0 0) (.slice Ak i ck) (.slice Ad i cd) (keysG l i) (kidsG l i) hok) ?_ (hpre:=by exact hpre Wp Wp)
     rintro r1 H1 ⟨u,rfl,rfl⟩
     refine Wap ?_
     refine Ws ?_
     refine Zz 71 false ?_
     refine Ws ?_
     refine Zcv (bytes_Equal2 u (.slice A0 l.length c0) (putI (keysG l i) (kidsG l i)) l) ?_ (hpre:=by exact fun w' hw'=>⟨rdw_own Wp w' hw',rdw_ex Wp hr w' hw'⟩)
     refine Ws ?_
     by_cases hpe:putI (keysG l i) (kidsG l i)=l
     ·have hg:getI l=((keysG l i,kidsG l i),0):=by rw [getI,if_neg (by rw [←hn];omega), ←hn,if_pos ⟨hok,hpe⟩]
      refine Zz 76 false ?_ (hi:=by simp [hpe])
      refine Ws ?_
      refine Zla (cs:=ndL (.slice none 0 0) (.slice Ak i ck) (.slice Ad i cd)) ?_ (hl:=by rfl)
      refine Ws ?_
      refine ZSa (ys:=ndL (.slice none 0 0) (.slice Ak i ck) (.slice Ad i cd)) ?_ (h1:=by exact nd_one' Ak Ad i ck i cd)
      refine Ws ?_
      rw [hg]
      simp only [hnk,hnd]
      exact Zfn [own 38 2 (.slice Ak i ck) i (KL (keysG l i)),own 3 1 (.slice Ad i cd) i (NL (kidsG l i))] (h:=ResL.cons (Zra (ndL_len (.slice none 0 0) (.slice Ak i ck) (.slice Ad i cd))) (ResL.cons (Res1.tmp rfl) (ResL.nil))) (hq:=by exact⟨Ak,ck,Ad,cd,rfl,rfl⟩)
     ·have hg:getI l=(([], []),3):=by rw [getI,if_neg (by rw [←hn];omega), ←hn,if_neg (fun h=>hpe h.2)]
      refine Zz 76 true ?_ (hi:=by simp [hpe])
      refine Ws ?_
      refine ZSa (ys:=ndL (.slice none 0 0) (.slice none 0 0) (.slice none 0 0)) ?_ (h1:=by exact nd_one none 0 none 0)
      refine Ws ?_
      (with_reducible apply Tri.ownNil 3 1)
      (with_reducible apply Tri.ownNil 38 2)
      rw [hg]
      exact Zfn [own 38 2 (.slice none 0 0) 0 [],own 3 1 (.slice none 0 0) 0 []] (h:=ResL.cons (Zra (ndL_len (.slice none 0 0) (.slice none 0 0) (.slice none 0 0))) (ResL.cons (Res1.tmp rfl) (ResL.nil))) (hq:=by exact⟨none,0,none,0,rfl,rfl⟩)
    ·have hg:getI l=(([], []),3):=by rw [getI,if_neg (by rw [←hn];omega), ←hn,if_neg (fun h=>hok h.1)]
     refine Zcv (node_Put_no (.slice none 0 0) (.slice Ak i ck) (.slice Ad i cd) (keysG l i) (kidsG l i) (by simpa using hok)) ?_ (hpre:=by exact hpre Wp Wp)
     refine Ws ?_
     refine Zz 71 true ?_
     refine Ws ?_
     refine ZSa (ys:=ndL (.slice none 0 0) (.slice none 0 0) (.slice none 0 0)) ?_ (h1:=by exact nd_one none 0 none 0)
     refine Ws ?_
     (with_reducible apply Tri.ownNil 3 1)
     (with_reducible apply Tri.ownNil 38 2)
     rw [hg]
     exact Zfn [own 38 2 (.slice none 0 0) 0 [],own 3 1 (.slice none 0 0) 0 []] (h:=ResL.cons (Zra (ndL_len (.slice none 0 0) (.slice none 0 0) (.slice none 0 0))) (ResL.cons (Res1.tmp rfl) (ResL.nil))) (hq:=by exact⟨none,0,none,0,rfl,rfl⟩)
def entL (e:ENT):List Value:= [.int .i64 e.key.1, .int .i64 e.key.2, .int .i64 e.fin, .int .i64 e.addr, .int .i64 e.len, .int .i64 e.count, .int .i64 e.codec, .int .u32 (e.crc:Int)]
def entV (e:ENT):Value:= .agg (entL e).toArray
def EL (E:List ENT):List Value:=E.flatMap entL
theorem entL_len (e:ENT):(entL e).length=8:=rfl
theorem EL_length: ∀E,(EL E).length=E.length*8
 | [] =>rfl
 | x::W=>by
  have:=EL_length W
  simp only [EL,List.flatMap_cons,lAp,lCn,entL_len] at this ⊢;omega
theorem EL_drop: ∀(F:List ENT) (k:Nat),(EL F).drop (k*8)=EL (F.drop k)
 | F,0=>rfl
 | [],k+1=>by simp [EL]
 | x::F,k+1=>by
  rw [show (k+1)*8=k*8+8 by omega, ←List.drop_drop,List.drop_drop,Nat.add_comm, ←List.drop_drop]
  exact EL_drop F k
theorem EL_eight (F:List ENT)(k:Nat)(h:k<F.length):((EL F).drop (k*8)).take 8=entL (F.getD k ent0):=by
 rw [EL_drop,List.drop_eq_getElem_cons h,gDe,gEe h];rfl
theorem EL_key (F:List ENT)(k:Nat)(h:k<F.length):((EL F).drop (k*8)).take 2=keyL (F.getD k ent0).key:=by
 rw [EL_drop,List.drop_eq_getElem_cons h,gDe,gEe h];rfl
theorem EL_snoc (a:List ENT)(k:ENT):EL (a++ [k])=EL a++entL k:=by simp [EL]
theorem entL_one (e:ENT): ∀y∈entL e,y.oneCell'=true:=by
 intro y hy;simp [entL] at hy;rcases hy with rfl | rfl | rfl | rfl | rfl | rfl | rfl | rfl<;>rfl
def ndLL (leaf:Bool)(ev kv dv:Value):List Value:= [.bool leaf,ev,kv,dv]
def ndW (leaf:Bool)(ev kv dv:Value):Value:= .agg (ndLL leaf ev kv dv).toArray
theorem ndLL_len (l:Bool)(a b c:Value):(ndLL l a b c).length=4:=rfl
theorem node_PagesE (e:ENT)(hl:0≤e.len∧e.len≤65535):SpecR Tryz.prog 93 #[entV e] (fun _=>True) (fun r H'=>r= .int .i64 (pagesE e.len)∧H'= []):=by
 refine SpecR.of (fun w _=>?_)
 refine Calls.enter Tryz.func93 rfl rfl rfl (St.rebase w) ?_
 simp only [argSlots]
 refine Ws ?_
 (refine Wbx ?_;intro b1)
 refine Ws ?_
 refine Zi 2 (pagesE e.len) ?_ (hi:=by unfold pagesE;omega)
 exact Zfr (hq:=by simp only [tupled];done)
theorem node_rightEntry (e:ENT):SpecR Tryz.prog 139 #[entV e] (fun _=>True) (fun r H'=>r= .bool (entOk e)∧H'= []):=by
 refine SpecR.of (fun w _=>?_)
 refine Calls.enter Tryz.func139 rfl rfl rfl (St.rebase w) ?_
 simp only [argSlots]
 refine Ws ?_
 (refine Wbx ?_;intro b1)
 refine Ws ?_
 refine Zlg (ys:=keyL e.key) ?_ (hl:=by rfl)
 refine Ws ?_
 refine Zcv (node_rightKey e.key) ?_
 refine Ws ?_
 (refine ZcB 7 ?_ ?_<;>intro h1)
 ·have g1:keyOk e.key=false:=by simpa using h1
  refine Ws ?_
  exact Zfr (hq:=by simp only [tupled];(rw [entOk,g1];rfl))
 ·have g1:keyOk e.key=true:=by simpa using h1
  refine Ws ?_
  (refine ZcB 15 ?_ ?_<;>intro h2)
  ·have g2:=of_decide_eq_true h2
   refine Ws ?_
   exact Zfr (hq:=by simp only [tupled];(rw [entOk,g1,dFf (show ¬e.key.2≤e.fin by omega)];rfl))
  ·have g2:=of_decide_eq_false h2
   refine Ws ?_
   refine Zcv (node_between e.addr 2 511) ?_
   refine Ws ?_
   (refine ZcB 21 ?_ ?_<;>intro h3)
   ·have g3:betw e.addr 2 511=false:=by simpa using h3
    refine Ws ?_
    exact Zfr (hq:=by simp only [tupled];(rw [entOk,g3,Bool.and_false];rfl))
   ·have g3:betw e.addr 2 511=true:=by simpa using h3
    refine Ws ?_
    refine Zcv (node_between e.len 1 65535) ?_
    refine Ws ?_
    (refine Wcb ?_ ?_<;>intro h4)
    ·have g4:betw e.len 1 65535=false:=by simpa using h4
     refine Ws ?_
     exact Zfr (hq:=by simp only [tupled];(rw [entOk,g4,Bool.and_false];rfl))
    ·have g4:betw e.len 1 65535=true:=by simpa using h4
     have g3':2≤e.addr∧e.addr≤511:=by simpa [betw] using g3
     have g4':1≤e.len∧e.len≤65535:=by simpa [betw] using g4
     have hpg:0≤pagesE e.len∧pagesE e.len≤1000:=by unfold pagesE;omega
     have eh:entOk e=(decide (e.addr+pagesE e.len≤512) && betw e.count 1 200 && betw e.codec 0 15):=by rw [entOk,g1,g3,g4,dTt (show e.key.2≤e.fin by omega)];rfl
     refine Ws ?_
     ((with_reducible apply Tri.quiet);(case hB=>kernel_rfl))
     refine Wqs ?_
     refine Zqo (h:=fun _ qK=>by exact Zla (cs:=entL e) qK (hl:=by rfl)) (k:=?_)
     refine Zqo (h:=fun _ qK=>by exact Zcv (node_PagesE e ⟨by omega,by omega⟩) qK) (k:=?_)
     refine Wqs ?_
     ((with_reducible apply TriQ.casesB 33);(case h=>rfl);(all_goals intro h5))
     ·refine Wqs ?_
      refine Zqo (h:=fun _ qK=>by exact Zcv (node_between e.count 1 200) qK) (k:=?_)
      refine Wqs ?_
      ((with_reducible apply TriQ.casesB 38);(case h=>rfl);(all_goals intro h6))
      ·refine Wqs ?_
       refine Zqo (h:=fun _ qK=>by exact Zcv (node_between e.codec 0 15) qK) (k:=?_)
       refine Wqs ?_
       refine Ws ?_
       exact Zfr (hq:=by simp only [tupled];(rw [eh,h5,h6];rfl))
      ·refine Wqs ?_
       refine Ws ?_
       exact Zfr (hq:=by simp only [tupled];(rw [eh,h5,h6];rfl))
     ·refine Wqs ?_
      refine Ws ?_
      exact Zfr (hq:=by simp only [tupled];(rw [eh,h5];rfl))
theorem node_leaf (v:Value)(E:List ENT):SpecR Tryz.prog 98 #[v] (fun w=>RdW w v E.length (EL E)) (fun r H'=>r= .bool (leafB E)∧H'= []):=by
 refine SpecR.of (fun w hr=>?_)
 have hlen:=hr.le
 refine Calls.enter Tryz.func98 rfl rfl rfl (St.rebase w) ?_
 simp only [argSlots]
 refine Ws ?_
 refine Zlr2 (hr:=hr) ?_
 refine Ws ?_
 (refine Wl (α:={ i:Nat//i≤E.length∧entsTo E i=true }) (fun x=>E.length-x.1) (fun x=> [(0,v),(6,v),(7, .int .i64 (E.length:Int)),(8, .int .i64 (x.1:Int))]) (fun x=> [Ex (hp w)]) ⟨0,Nat.zero_le _,rfl⟩ ?_;rintro ⟨i,hi,hE⟩ mx hmx;(try dsimp only at hmx ⊢))
 refine Ws ?_
 (refine Wcd ?_ ?_<;>intro h)
 ·have hil:i<E.length:=by omega
  obtain⟨e,he⟩: ∃e,e=E.getD i ent0:=⟨_,rfl⟩
  have h8:=EL_eight E i hil
  rw [←he] at h8
  refine Ws ?_
  refine Zir (hr:=hr) (j:=i) ?_ (hj:=by rfl) (hlt:=by exact hil) (hl:=by rw [EL_length];omega)
  refine Ws ?_
  refine Zlh (hr:=hr) ?_ (hv:=by exact h8) (hl:=by rfl)
  refine Ws ?_
  refine Zal fun b4=>?_
  refine Ws ?_
  refine ZSa (ys:=entL e) ?_ (h1:=by exact entL_one _)
  refine Ws ?_
  refine Zla (cs:=entL e) ?_ (hl:=by rfl)
  refine Ws ?_
  refine Zcv (node_rightEntry e) ?_
  refine Ws ?_
  (refine Wcb ?_ ?_<;>intro g1)
  ·have g1':entOk e=false:=by simpa using g1
   refine Ws ?_
   exact Zfr (hq:=by simp only [tupled];(rw [leaf_no (entAt_lt (by rw [entAt, ←he,g1'];rfl) hil)]))
  ·have g1':entOk e=true:=by simpa using g1
   refine Ws ?_
   (refine Wcd ?_ ?_<;>intro g2)
   ·have hnx:entsTo E (i+1)=true:=by rw [entsTo,hE,entAt, ←he,g1',dTt (show i=0 by omega)];simp
    refine Ws ?_
    exact Zag ⟨i+1,by omega,hnx⟩
   ·obtain⟨p,hp0⟩: ∃e,e=E.getD (i-1) ent0:=⟨_,rfl⟩
    have h8p:=EL_eight E (i-1) (by omega)
    rw [←hp0] at h8p
    have eat:entAt E i=afterE p e:=by rw [entAt, ←he, ←hp0,g1',dFf (show ¬i=0 by omega)];simp
    refine Ws ?_
    refine Zir (hr:=hr) (j:=i-1) ?_ (hj:=by omega) (hlt:=by omega) (hl:=by rw [EL_length];omega)
    refine Ws ?_
    refine Zlh (hr:=hr) ?_ (hv:=by exact h8p) (hl:=by rfl)
    refine Ws ?_
    refine Zal fun b5=>?_
    refine Ws ?_
    refine ZSa (ys:=entL p) ?_ (h1:=by exact entL_one _)
    refine Ws ?_
    refine Zlg (ys:=keyL p.key) ?_ (p:=by exact(by exact Pull.head)) (hl:=by rfl)
    refine Ws ?_
    refine Zlg (ys:=keyL e.key) ?_ (hl:=by rfl)
    refine Ws ?_
    refine Zcv (node_Less p.key e.key) ?_
    refine Ws ?_
    (refine ZcB 29 ?_ ?_<;>intro g3)
    ·have g3':lessK p.key e.key=false:=by simpa using g3
     refine Ws ?_
     exact Zfr (hq:=by simp only [tupled];(rw [leaf_no (entAt_lt (by rw [eat,afterE,g3'];rfl) hil)]))
    ·have g3':lessK p.key e.key=true:=by simpa using g3
     refine Ws ?_
     (refine ZcB 37 ?_ ?_<;>intro g4)
     ·have g4':=of_decide_eq_true g4
      refine Ws ?_
      (refine Wcd ?_ ?_<;>intro g5)
      ·refine Ws ?_
       exact Zfr (hq:=by simp only [tupled];(rw [leaf_no (entAt_lt (by rw [eat,afterE,g3',dTt g4',dTt (show e.key.2≤p.fin by omega)];rfl) hil)]))
      ·have hnx:entsTo E (i+1)=true:=by rw [entsTo,hE,eat,afterE,g3',dTt g4',dFf (show ¬e.key.2≤p.fin by omega)];rfl
       refine Ws ?_
       exact Zag ⟨i+1,by omega,hnx⟩
     ·have g4':=of_decide_eq_false g4
      have hnx:entsTo E (i+1)=true:=by rw [entsTo,hE,eat,afterE,g3',dFf g4'];rfl
      refine Ws ?_
      exact Zag ⟨i+1,by omega,hnx⟩
 ·obtain rfl:i=E.length:=by omega
  refine Ws ?_
  refine Zlr2 (hr:=hr) ?_
  refine Ws ?_
  refine Zcv (node_between (E.length:Int) 1 7) ?_
  refine Ws ?_
  exact Zfr (hq:=by simp only [tupled];(rw [leafB,hE];rfl))
def ndR (w:World)(ev kv dv:Value)(E:List ENT)(K:List KEY)(D:List Int):Prop:=RdW w ev E.length (EL E)∧RdW w kv K.length (KL K)∧RdW w dv D.length (NL D)
theorem ndR_ex {w0:World}{H H1:List Atom}{h0:PH}{ev kv dv:Value}{E:List ENT}{K:List KEY}{D:List Int}(p:Pull H (Ex h0) H1)(h1:Rd h0 ev E.length (EL E))(h2:Rd h0 kv K.length (KL K))(h3:Rd h0 dv D.length (NL D)): ∀w,St w0 w H→ndR w ev kv dv E K D:=fun w hw=>⟨rdw_ex p h1 w hw,rdw_ex p h2 w hw,rdw_ex p h3 w hw⟩
theorem node_Right (leaf:Bool)(ev kv dv:Value)(E:List ENT)(K:List KEY)(D:List Int):SpecR Tryz.prog 55 #[ndW leaf ev kv dv] (fun w=>ndR w ev kv dv E K D) (fun r H'=>r= .bool (rightN leaf E K D)∧H'= []):=by
 refine SpecR.of (fun w hrr=>?_)
 obtain⟨hr0,hr1,hr2⟩:=hrr
 refine Calls.enter Tryz.func55 rfl rfl rfl (St.rebase w) ?_
 simp only [argSlots]
 refine Ws ?_
 (refine Wbx ?_;intro b1)
 refine Ws ?_
 (refine Wcb ?_ ?_<;>intro hlf)
 ·subst hlf
  refine Ws ?_
  refine Zlr2 (hr:=hr1) ?_
  refine Ws ?_
  (refine ZcB 9 ?_ ?_<;>intro g1)
  ·refine Ws ?_
   refine Zlr2 (hr:=hr2) ?_
   refine Ws ?_
   (refine ZcB 15 ?_ ?_<;>intro g2)
   ·refine Ws ?_
    refine Zcv (node_leaf ev E) ?_ (hpre:=by exact rdw_ex Wp hr0)
    refine Ws ?_
    exact Zfr (hq:=by simp only [tupled];(rw [rightN,if_pos rfl,dTt (show K.length=0 by have:=of_decide_eq_true g1;omega),dTt (show D.length=0 by have:=of_decide_eq_true g2;omega)];rfl))
   ·refine Ws ?_
    exact Zfr (hq:=by simp only [tupled];(rw [rightN,if_pos rfl,dFf (show ¬D.length=0 by have:=of_decide_eq_false g2;omega),Bool.false_and,Bool.and_false]))
  ·refine Ws ?_
   exact Zfr (hq:=by simp only [tupled];(rw [rightN,if_pos rfl,dFf (show ¬K.length=0 by have:=of_decide_eq_false g1;omega),Bool.false_and]))
 ·subst hlf
  refine Ws ?_
  refine Zlr2 (hr:=hr0) ?_
  refine Ws ?_
  (refine ZcB 24 ?_ ?_<;>intro g1)
  ·refine Ws ?_
   refine Zcv (node_inner kv dv K D) ?_ (hpre:=by exact fun w' hw'=>⟨rdw_ex Wp hr1 w' hw',rdw_ex Wp hr2 w' hw'⟩)
   refine Ws ?_
   exact Zfr (hq:=by simp only [tupled];(rw [rightN,if_neg (by simp),dTt (show E.length=0 by have:=of_decide_eq_true g1;omega)];rfl))
  ·refine Ws ?_
   exact Zfr (hq:=by simp only [tupled];(rw [rightN,if_neg (by simp),dFf (show ¬E.length=0 by have:=of_decide_eq_false g1;omega),Bool.false_and]))
def sizeN (leaf:Bool)(E:List ENT)(D:List Int):Nat:=if leaf then E.length else D.length
theorem node_Size (leaf:Bool)(ev kv dv:Value)(E:List ENT)(K:List KEY)(D:List Int):SpecR Tryz.prog 114 #[ndW leaf ev kv dv] (fun w=>ndR w ev kv dv E K D) (fun r H'=>r= .int .i64 (sizeN leaf E D:Int)∧H'= []):=by
 refine SpecR.of (fun w hrr=>?_)
 obtain⟨hr0,hr1,hr2⟩:=hrr
 refine Calls.enter Tryz.func114 rfl rfl rfl (St.rebase w) ?_
 simp only [argSlots]
 refine Ws ?_
 (refine Wbx ?_;intro b1)
 refine Ws ?_
 (refine Wcb ?_ ?_<;>intro hlf)
 ·subst hlf
  refine Ws ?_
  refine Zlr2 (hr:=hr0) ?_
  refine Ws ?_
  exact Zfr (hq:=by simp only [tupled];rfl)
 ·subst hlf
  refine Ws ?_
  refine Zlr2 (hr:=hr2) ?_
  refine Ws ?_
  exact Zfr (hq:=by simp only [tupled];rfl)
def leastN (leaf:Bool)(E:List ENT)(K:List KEY):KEY:=if leaf then(E.getD 0 ent0).key else K.getD 0 (0,0)
theorem node_Least (leaf:Bool)(ev kv dv:Value)(E:List ENT)(K:List KEY)(D:List Int):SpecR Tryz.prog 143 #[ndW leaf ev kv dv] (fun w=>ndR w ev kv dv E K D) (fun r H'=>r=keyV (leastN leaf E K)∧H'= []):=by
 refine SpecR.of (fun w hrr=>?_)
 obtain⟨hr0,hr1,hr2⟩:=hrr
 refine Calls.enter Tryz.func143 rfl rfl rfl (St.rebase w) ?_
 simp only [argSlots]
 refine Ws ?_
 (refine Wbx ?_;intro b1)
 refine Ws ?_
 refine Zal fun b2=>?_
 refine Ws ?_
 (refine ZcB 6 ?_ ?_<;>intro hlf)
 ·subst hlf
  refine Ws ?_
  refine Zlr2 (hr:=hr0) ?_
  refine Ws ?_
  (refine Wcd ?_ ?_<;>intro g1)
  ·have g1':0<E.length:=by omega
   refine Ws ?_
   refine Zir (hr:=hr0) (j:=0) ?_ (hj:=by rfl) (hlt:=by exact g1') (hl:=by rw [EL_length];omega)
   refine Ws ?_
   refine Zlh (hr:=hr0) (ys:=keyL (E.getD 0 ent0).key) ?_ (hv:=by exact EL_key E 0 g1') (hl:=by rfl)
   refine Ws ?_
   refine ZSa (ys:=keyL (E.getD 0 ent0).key) ?_ (h1:=by exact keyL_one _)
   refine Ws ?_
   exact Zfn [] (h:=ResL.cons (Zra (show (keyL (E.getD 0 ent0).key).length=2 from rfl)) (ResL.nil)) (hq:=by exact⟨rfl,rfl⟩)
  ·have g1':E= [] :=List.eq_nil_of_length_eq_zero (by omega)
   subst g1'
   refine Ws ?_
   refine Zz 21 false ?_
   refine Ws ?_
   refine ZSa (ys:=keyL (0,0)) ?_ (h1:=by exact keyL_one _)
   refine Ws ?_
   exact Zfn [] (h:=ResL.cons (Zra (show (keyL (0,0)).length=2 from rfl)) (ResL.nil)) (hq:=by exact⟨rfl,rfl⟩)
 ·subst hlf
  refine Ws ?_
  refine Zz 21 true ?_
  refine Ws ?_
  refine Zlr2 (hr:=hr1) ?_
  refine Ws ?_
  (refine Wcd ?_ ?_<;>intro g1)
  ·have g1':0<K.length:=by omega
   refine Ws ?_
   refine Zir (hr:=hr1) (j:=0) ?_ (hj:=by rfl) (hlt:=by exact g1') (hl:=by rw [KL_length];omega)
   refine Ws ?_
   refine Zlh (hr:=hr1) (ys:=keyL (K.getD 0 (0,0))) ?_ (hv:=by exact KL_two K 0 g1') (hl:=by rfl)
   refine Ws ?_
   refine ZSa (ys:=keyL (K.getD 0 (0,0))) ?_ (h1:=by exact keyL_one _)
   refine Ws ?_
   exact Zfn [] (h:=ResL.cons (Zra (show (keyL (K.getD 0 (0,0))).length=2 from rfl)) (ResL.nil)) (hq:=by exact⟨rfl,rfl⟩)
  ·have g1':K= [] :=List.eq_nil_of_length_eq_zero (by omega)
   subst g1'
   refine Ws ?_
   refine ZSa (ys:=keyL (0,0)) ?_ (h1:=by exact keyL_one _)
   refine Ws ?_
   exact Zfn [] (h:=ResL.cons (Zra (show (keyL (0,0)).length=2 from rfl)) (ResL.nil)) (hq:=by exact⟨rfl,rfl⟩)
theorem node_Put_inner (ev kv dv:Value)(E:List ENT)(K:List KEY)(D:List Int)(h:rightN false E K D=true):SpecR Tryz.prog 144 #[ndW false ev kv dv] (fun w=>ndR w ev kv dv E K D) (fun r H'=> ∃u,r= .tuple #[u, .int .i64 0] ∧H'= [own 5 1 u (putN false E K D).length (B8 (putN false E K D))]):=by
 have h':E= [] ∧innerB K D=true:=by
  rw [rightN,if_neg (by simp)] at h
  simp only [Bool.and_eq_true,decide_eq_true_eq] at h
  exact⟨List.eq_nil_of_length_eq_zero h.1,h.2⟩
 obtain⟨rfl,hi⟩:=h'
 have:=node_Put ev kv dv K D hi
 exact this
theorem node_PutN_no (leaf:Bool)(ev kv dv:Value)(E:List ENT)(K:List KEY)(D:List Int)(h:rightN leaf E K D=false):SpecR Tryz.prog 144 #[ndW leaf ev kv dv] (fun w=>ndR w ev kv dv E K D) (fun r H'=>r= .tuple #[.slice none 0 0, .int .i64 1] ∧H'= []):=by
 refine SpecR.of (fun w hrr=>?_)
 obtain⟨hr0,hr1,hr2⟩:=hrr
 refine Calls.enter Tryz.func144 rfl rfl rfl (St.rebase w) ?_
 simp only [argSlots]
 refine Ws ?_
 (refine Wbx ?_;intro b1)
 refine Ws ?_
 refine Zla (cs:=ndLL leaf ev kv dv) ?_ (hl:=by rfl)
 refine Ws ?_
 refine Zcv (node_Right leaf ev kv dv E K D) ?_ (hpre:=by exact ndR_ex Wp hr0 hr1 hr2)
 refine Ws ?_
 refine Zz 11 true ?_ (hi:=by rw [h];rfl)
 refine Ws ?_
 exact Zfr (hq:=by simp only [tupled];done)
theorem node_Put_leaf (ev kv dv:Value)(E:List ENT)(K:List KEY)(D:List Int)(h:rightN true E K D=true)(hR: ∀e∈E,entR e):SpecR Tryz.prog 144 #[ndW true ev kv dv] (fun w=>ndR w ev kv dv E K D) (fun r H'=> ∃u,r= .tuple #[u, .int .i64 0] ∧H'= [own 5 1 u (putN true E K D).length (B8 (putN true E K D))]):=by
 have h':K= [] ∧D= [] ∧leafB E=true:=by
  simp only [rightN,if_true,Bool.and_eq_true,decide_eq_true_eq] at h
  exact⟨List.eq_nil_of_length_eq_zero h.1,List.eq_nil_of_length_eq_zero h.2.1,h.2.2⟩
 obtain⟨rfl,rfl,hlf⟩:=h'
 obtain⟨i1,i2,i3⟩:=leaf_spec hlf
 refine SpecR.of (fun w hrr=>?_)
 obtain⟨hr0,hr1,hr2⟩:=hrr
 refine Calls.enter Tryz.func144 rfl rfl rfl (St.rebase w) ?_
 simp only [argSlots]
 refine Ws ?_
 (refine Wbx ?_;intro b1)
 refine Ws ?_
 refine Zla (cs:=ndLL true ev kv dv) ?_ (hl:=by rfl)
 refine Ws ?_
 refine Zcv (node_Right true ev kv dv E [] []) ?_ (hpre:=by exact ndR_ex Wp hr0 hr1 hr2)
 refine Ws ?_
 refine Zz 11 false ?_ (hi:=by rw [h];rfl)
 refine Ws ?_
 refine Zla (cs:=ndLL true ev kv dv) ?_ (hl:=by rfl)
 refine Ws ?_
 refine Zcv (node_Size true ev kv dv E [] []) ?_ (hpre:=by exact ndR_ex Wp hr0 hr1 hr2)
 refine Ws ?_
 refine Zi 14 ((UInt8.ofNat E.length).toNat:Int) ?_ (hi:=by have:((UInt8.ofNat E.length).toNat:Int)=(E.length:Int)%256:=by { simp };rw [this];rfl)
 (refine Zli (ys:= [.int .u8 ((UInt8.ofNat E.length).toNat:Int)]) ?_;intro v4)
 refine Ws ?_
 refine Zlr2 (hr:=hr0) ?_
 refine Ws ?_
 refine Zat (own 5 1 v4 _ _) (own 5 1 v4 (UInt8.ofNat E.length::entsB E 0).length (B8 (UInt8.ofNat E.length::entsB E 0))) ?_
 (refine Wl (α:=Σ' (i:Nat) (u:Value),i≤E.length) (fun x=>E.length-x.1) (fun x=> [(1, .pointer (some ⟨b1,0,none⟩)),(4,x.2.1),(17,ev),(18, .int .i64 (E.length:Int)),(19, .int .i64 (x.1:Int))]) (fun x=> [own 5 1 x.2.1 (UInt8.ofNat E.length::entsB E x.1).length (B8 (UInt8.ofNat E.length::entsB E x.1)),blk b1 125 (ndLL true ev kv dv),Ex (hp w)]) ⟨0,v4,Nat.zero_le _⟩ ?_;rintro ⟨i,u,hi⟩ mx hmx;(try dsimp only at hmx ⊢))
 obtain⟨c0,hc0⟩: ∃c0,c0=UInt8.ofNat E.length::entsB E i:=⟨_,rfl⟩
 have hl0:c0.length=1+i*30:=by rw [hc0,lCn,entsB_length];omega
 rw [←hc0]
 refine Ws ?_
 (refine Wcd ?_ ?_<;>intro hc)
 ·have hil:i<E.length:=by omega
  obtain⟨e,he⟩: ∃e,e=E.getD i ent0:=⟨_,rfl⟩
  have h8:=EL_eight E i hil
  rw [←he] at h8
  have hat:=entsTo_at i1 i hil
  rw [entAt,Bool.and_eq_true, ←he] at hat
  obtain⟨k1,k2,k3,k4,k5,k6,k7⟩:=entOk_spec hat.1
  have hRe:entR e:=by rw [he,gDe,gEe hil];exact hR _ (List.getElem_mem hil)
  obtain⟨_,_,hcr⟩:=hRe
  refine Ws ?_
  refine Zir (hr:=hr0) (j:=i) ?_ (hj:=by rfl) (hlt:=by exact hil) (hl:=by rw [EL_length];omega)
  refine Ws ?_
  refine Zlh (hr:=hr0) ?_ (hv:=by exact h8) (hl:=by rfl)
  refine Ws ?_
  refine Zal fun b6=>?_
  refine Ws ?_
  refine ZSa (ys:=entL e) ?_ (h1:=by exact entL_one _)
  refine Ws ?_
  refine Wm [blk b6 40 (entL e)] ?_
  refine Wq [0,1] ?_
  refine Zm 2 (h:=fun _ _ qK=>by exact Zlg (ys:=keyL e.key) qK (hl:=by rfl)) (k:=?_)
  refine Wq [4,5,6] ?_
  refine ZMv 29 (.int .u64 (n64 e.fin:Int)) ?_ (hv:=by congr 1;unfold n64;omega)
  refine ZA 3 ?_
  refine Zcs (node_putKey u c0 e.key k1 (by omega)) ?_
  rintro v1 H1 rfl
  obtain⟨c1,hc1⟩: ∃c,c=c0++keyB e.key:=⟨_,rfl⟩
  have hl1:c1.length=13+i*30:=by rw [hc1,lAp,hl0,keyB_length];omega
  rw [←hc1]
  refine Wap ?_
  refine Zw ?_
  refine ZA 7 ?_
  refine Zcs (node_big v1 c1 (n64 e.fin) 8 (by omega) (by omega)) ?_
  rintro v2 H2 rfl
  obtain⟨c2,hc2⟩: ∃c,c=c1++bigB (n64 e.fin) 8:=⟨_,rfl⟩
  have hl2:c2.length=21+i*30:=by rw [hc2,lAp,hl1,bigB_length];omega
  rw [←hc2]
  refine Wap ?_
  refine Zw ?_
  refine Wq [8] ?_
  refine ZE ?_
  refine Ws ?_
  refine Wm [blk b6 40 (entL e)] ?_
  refine Wq [0,1,2,3] ?_
  refine ZMv 34 (.int .u64 (e.addr.toNat:Int)) ?_ (hv:=by congr 1;omega)
  refine Wq [5,6,7] ?_
  refine ZMv 38 (.int .u64 (e.len.toNat:Int)) ?_ (hv:=by congr 1;omega)
  refine ZA 4 ?_
  refine Zcs (node_big v2 c2 e.addr.toNat 2 (by omega) (by omega)) ?_
  rintro v3 H3 rfl
  obtain⟨c3,hc3⟩: ∃c,c=c2++bigB e.addr.toNat 2:=⟨_,rfl⟩
  have hl3:c3.length=23+i*30:=by rw [hc3,lAp,hl2,bigB_length];omega
  rw [←hc3]
  refine Wap ?_
  refine Zw ?_
  refine ZA 8 ?_
  refine Zcs (node_big v3 c3 e.len.toNat 2 (by omega) (by omega)) ?_
  rintro v4 H4 rfl
  obtain⟨c4,hc4⟩: ∃c,c=c3++bigB e.len.toNat 2:=⟨_,rfl⟩
  have hl4:c4.length=25+i*30:=by rw [hc4,lAp,hl3,bigB_length];omega
  rw [←hc4]
  refine Wap ?_
  refine Zw ?_
  refine Wq [9] ?_
  refine ZE ?_
  refine Ws ?_
  refine Wm [blk b6 40 (entL e)] ?_
  refine Wq [0,1,2,3] ?_
  refine ZMv 43 (.int .u8 ((UInt8.ofNat e.count.toNat).toNat:Int)) ?_ (hv:=by congr 1;rw [byte_of (by omega) (by omega)];try omega)
  refine Wq [4,5,6] ?_
  refine ZMv 46 (.int .u8 ((UInt8.ofNat e.codec.toNat).toNat:Int)) ?_ (hv:=by congr 1;rw [byte_of (by omega) (by omega)];try omega)
  refine Wq [9,10,11] ?_
  refine ZMv 51 (.int .u64 (e.crc:Int)) ?_ (hv:=by congr 1;try omega)
  refine ZA 7 ?_
  (refine Zli (ys:= [.int .u8 ((UInt8.ofNat e.count.toNat).toNat:Int), .int .u8 ((UInt8.ofNat e.codec.toNat).toNat:Int)]) ?_;intro vl)
  refine Zw ?_
  refine ZA 8 ?_
  refine Zap ?_ (hr:=by exact rdw_own (v:=vl) Wp) (hl:=by rfl) (h1:=by intro y hy;simp at hy;rcases hy with rfl | rfl<;>rfl)
  intro v5
  obtain⟨c5,hc5⟩: ∃c,c=c4++ [UInt8.ofNat e.count.toNat,UInt8.ofNat e.codec.toNat] :=⟨_,rfl⟩
  have hl5:c5.length=27+i*30:=by rw [hc5,lAp,hl4];simp;omega
  refine Zat (own 5 1 v5 _ _) (own 5 1 v5 c5.length (B8 c5)) ?_ (e:=by rw [hc5,B8_append,lAp];rfl)
  refine Zw ?_
  refine ZA 12 ?_
  refine Zcs (node_big v5 c5 e.crc 4 (by omega) (by omega)) ?_
  rintro v6 H6 rfl
  have e6:c5++bigB e.crc 4=UInt8.ofNat E.length::entsB E (i+1):=by
   rw [hc5,hc4,hc3,hc2,hc1,hc0,entsB, ←he,entB];simp [aAs]
  rw [e6]
  refine Wap ?_
  refine Zw ?_
  refine Wq [13] ?_
  refine ZE ?_
  refine Ws ?_
  exact Zag ⟨i+1,v6,by omega⟩
 ·obtain rfl:i=E.length:=by omega
  refine Ws ?_
  refine Zlr2 (hr:=hr2) ?_
  refine Ws ?_
  (refine Wl (α:=Unit) (fun _=>0) (fun _=> [(1, .pointer (some ⟨b1,0,none⟩)),(4,u),(55,dv),(56, .int .i64 0),(57, .int .i64 0)]) (fun _=> [own 5 1 u c0.length (B8 c0),blk b1 125 (ndLL true ev kv dv),Ex (hp w)]) () ?_;rintro ⟨⟩ mx hmx;(try dsimp only at hmx ⊢))
  refine Ws ?_
  (refine Wcd ?_ ?_<;>intro hz)
  ·omega
  refine Ws ?_
  refine Zat (own 5 1 u _ _) (own 5 1 u (putN true E [] []).length (B8 (putN true E [] []))) ?_ (e:=by rw [hc0];rfl)
  exact Zfn [own 5 1 u (putN true E [] []).length (B8 (putN true E [] []))] (hq:=by exact⟨u,rfl,rfl⟩)
theorem node_PutN (leaf:Bool)(ev kv dv:Value)(E:List ENT)(K:List KEY)(D:List Int)(h:rightN leaf E K D=true)(hR: ∀e∈E,entR e):SpecR Tryz.prog 144 #[ndW leaf ev kv dv] (fun w=>ndR w ev kv dv E K D) (fun r H'=> ∃u,r= .tuple #[u, .int .i64 0] ∧H'= [own 5 1 u (putN leaf E K D).length (B8 (putN leaf E K D))]):=by
 cases leaf
 ·exact node_Put_inner ev kv dv E K D h
 ·exact node_Put_leaf ev kv dv E K D h hR
theorem node_entry (r:Nat)(u:Value)(l:List UInt8)(h1:PH)(hr:Rd h1 u l.length (B8 l))(hs:30≤l.length):Gv.Spec Tryz.prog 145 #[.pointer (some ⟨r,0,none⟩)] [blk r 237 [u],Ex h1]
  (fun x H'=>x=entV (entP l)∧ ∃A c,Rd h1 (.slice A (l.drop 30).length c) (l.drop 30).length (B8 (l.drop 30))∧H'= [blk r 237 [.slice A (l.drop 30).length c],Ex h1]):=by
 refine Gv.Spec.of (fun w h0 hw=>?_)
 refine Calls.enter Tryz.func145 rfl rfl rfl hw ?_
 simp only [argSlots]
 refine Wap ?_
 have hb: ∀a m,a+m≤30→numB ((l.drop a).take m)<256 ^ m:=fun a m h=>by
  have:=numB_lt ((l.drop a).take m)
  rwa [show ((l.drop a).take m).length=m by rw [lTk,lDp];omega] at this
 have q1:=hb 12 8 (by omega)
 have q2:=hb 20 2 (by omega)
 have q3:=hb 22 2 (by omega)
 have q4:=hb 24 1 (by omega)
 have q5:=hb 25 1 (by omega)
 have q6:=hb 26 4 (by omega)
 refine Ws ?_
 refine Zal fun b2=>?_
 refine Ws ?_
 refine Zcs (node_key r u l h1 hr (by omega)) ?_
 rintro x1 H1 ⟨rfl,A1,c1,hr1,rfl⟩
 refine Wap ?_
 refine Ws ?_
 refine Zcs (node_take r (.slice A1 (l.drop 12).length c1) (l.drop 12) 8 h1 hr1 (by rw [lDp];omega) (by omega)) ?_
 rintro x2 H2 ⟨rfl,A2,c2,hr2,rfl⟩
 simp only [List.drop_drop,Nat.reduceAdd] at hr2 ⊢
 refine Wap ?_
 refine Ws ?_
 refine Zi 8 (s64 (numB ((l.drop 12).take 8))) ?_ (hi:=by exact s64_wrap _ (by omega))
 refine Zbu (ys:= [.int .i64 (entP l).key.1, .int .i64 (entP l).key.2, .int .i64 (entP l).fin, .int .i64 0, .int .i64 0, .int .i64 0, .int .i64 0, .int .u32 0]) ?_
 refine Ws ?_
 refine Zal fun b3=>?_
 refine Ws ?_
 refine ZSa (ys:= [.int .i64 (entP l).key.1, .int .i64 (entP l).key.2, .int .i64 (entP l).fin, .int .i64 0, .int .i64 0, .int .i64 0, .int .i64 0, .int .u32 0]) ?_ (h1:=by intro y hy;simp at hy;rcases hy with rfl | rfl | rfl | rfl | rfl<;>rfl)
 refine Ws ?_
 refine Zcs (node_take r (.slice A2 (l.drop 20).length c2) (l.drop 20) 2 h1 hr2 (by rw [lDp];omega) (by omega)) ?_
 rintro x3 H3 ⟨rfl,A3,c3,hr3,rfl⟩
 simp only [List.drop_drop,Nat.reduceAdd] at hr3 ⊢
 refine Wap ?_
 refine Ws ?_
 refine Zcs (node_take r (.slice A3 (l.drop 22).length c3) (l.drop 22) 2 h1 hr3 (by rw [lDp];omega) (by omega)) ?_
 rintro x4 H4 ⟨rfl,A4,c4,hr4,rfl⟩
 simp only [List.drop_drop,Nat.reduceAdd] at hr4 ⊢
 refine Wap ?_
 refine Ws ?_
 refine ZS ?_ (hi:=by show 3<8;omega)
 refine Ws ?_
 refine ZS ?_ (hi:=by show 4<8;omega)
 refine Ws ?_
 refine Zcs (node_take r (.slice A4 (l.drop 24).length c4) (l.drop 24) 1 h1 hr4 (by rw [lDp];omega) (by omega)) ?_
 rintro x5 H5 ⟨rfl,A5,c5,hr5,rfl⟩
 simp only [List.drop_drop,Nat.reduceAdd] at hr5 ⊢
 refine Wap ?_
 refine Ws ?_
 refine Zcs (node_take r (.slice A5 (l.drop 25).length c5) (l.drop 25) 1 h1 hr5 (by rw [lDp];omega) (by omega)) ?_
 rintro x6 H6 ⟨rfl,A6,c6,hr6,rfl⟩
 simp only [List.drop_drop,Nat.reduceAdd] at hr6 ⊢
 refine Wap ?_
 refine Ws ?_
 refine ZS ?_ (hi:=by show 5<8;omega)
 refine Ws ?_
 refine ZS ?_ (hi:=by show 6<8;omega)
 refine Ws ?_
 refine Zcs (node_take r (.slice A6 (l.drop 26).length c6) (l.drop 26) 4 h1 hr6 (by rw [lDp];omega) (by omega)) ?_
 rintro x7 H7 ⟨rfl,A7,c7,hr7,rfl⟩
 simp only [List.drop_drop,Nat.reduceAdd] at hr7 ⊢
 refine Wap ?_
 refine Ws ?_
 refine ZS ?_ (hi:=by show 7<8;omega)
 refine Ws ?_
 refine Zat (blk b3 _ _) (blk b3 40 (entL (entP l))) ?_
 refine Zla (cs:=entL (entP l)) ?_ (hl:=by rfl)
 refine Ws ?_
 refine ZSa (ys:=entL (entP l)) ?_ (h1:=by exact entL_one _)
 refine Ws ?_
 exact Zfn [blk r 237 [.slice A7 (l.drop 30).length c7],Ex h1] (h:=ResL.cons (Zra (entL_len (entP l))) (ResL.nil)) (hq:=by exact⟨rfl,A7,c7,hr7,rfl⟩)
end Go.Proofs.YtcglabmlhljkmaaGreat
