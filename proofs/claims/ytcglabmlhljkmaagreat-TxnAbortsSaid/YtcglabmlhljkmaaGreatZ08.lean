/- Texts of this claim, put together: TvWalk22, TvWalk23, TvWalk24, TvWalk16, TvWalk25, TvPlain21, TvPlain22, TvPlain23, TvPlain24, TvPlain25, TxPlain15, TxWalk13, TxPlain10, TxPlain13, BmWalk7, TxWalk6. -/
import Derived.Test.YtcglabmlhljkmaaGreatZ02
import Derived.Test.YtcglabmlhljkmaaGreatZ07
import Derived.Test.YtcglabmlhljkmaaGreatZ06
import Derived.Test.YtcglabmlhljkmaaGreatZ05
import Derived.Test.YtcglabmlhljkmaaGreatZ04
import Derived.Test.YtcglabmlhljkmaaGreatZ03
import Derived.Test.YtcglabmlhljkmaaGreatZ00
set_option maxHeartbeats 64000000
set_option linter.unusedVariables false
set_option linter.unusedSimpArgs false
namespace Go.Proofs.YtcglabmlhljkmaaGreat
open Go Go.RowKit Go.Gv
def rd3 (S:DS)(a:Int)(leaf:Bool):ND3:=⟨(rdN S a leaf).E,(rdN S a leaf).K,(rdN S a leaf).D⟩
theorem up_self {leaf:Bool}{x:ND3}(h:okN leaf x):upN leaf x x:=by
 refine⟨?_,Nat.le_refl _,Nat.le_refl _,Nat.le_refl _⟩
 cases leaf
 ·exact h.1
 ·exact h
theorem app_ok {leaf:Bool}{x y:ND3}(hx:okN leaf x)(hy:okN leaf y):okN leaf (appN x y):=by
 cases leaf
 ·obtain⟨a,b⟩:=hx;obtain⟨c,d⟩:=hy
  refine⟨?_, ?_⟩
  ·show x.E++y.E= [];rw [a,c];rfl
  ·show (x.K++y.K).length=(x.D++y.D).length;rw [lAp,lAp,b,d]
 ·obtain⟨a,b⟩:=hx;obtain⟨c,d⟩:=hy
  refine⟨?_, ?_⟩
  ·show x.K++y.K= [];rw [a,c];rfl
  ·show x.D++y.D= [];rw [b,d];rfl
theorem ok_lens {leaf:Bool}{x:ND3}{m:Nat}(hx:okN leaf x)(h:szN leaf x≤m):x.E.length≤m∧x.K.length≤m∧x.D.length≤m:=by
 cases leaf
 ·obtain⟨a,b⟩:=hx
  have h':x.D.length≤m:=h
  rw [a];exact⟨Nat.zero_le _,by omega,h'⟩
 ·obtain⟨a,b⟩:=hx
  have h':x.E.length≤m:=h
  rw [a,b];exact⟨h',Nat.zero_le _,Nat.zero_le _⟩
set_option maxRecDepth 4000 in
theorem view_joinedR (pv d:Nat)(v:VS)(leaf:Bool)(h:Nat)(hh:decide (h=1)=leaf)(ev kv:Value)(B:Option Addr)(b:Nat)(D:List Int)(i o:Nat)(A1 B1 C1:Option Addr)(a1 b1 c1:Nat)(x Z:ND3)
  (hev: ∃A m c,ev= .slice A m c) (hkv: ∃A m c,kv= .slice A m c) (hv:v.ok) (hD:D.length≤1000) (hi:i+1<D.length∧o=i+1) (hx:okN leaf x) (hxn:szN leaf x≤1000) (hG:rdG leaf v (D.getD o 0)) (hZ:Z=appN x (rd3 v.S (D.getD o 0) leaf)):
  Gv.Spec Tryz.prog 110 #[.pointer (some ⟨pv,0,none⟩),ndW false ev kv (.slice B D.length b), .int .i64 (i:Int),ndW leaf (.slice A1 x.E.length a1) (.slice B1 x.K.length b1) (.slice C1 x.D.length c1), .int .i64 (h:Int)]
  [blk pv 146 (viewL d v),DSK d v.S,own 3 1 (.slice B D.length b) D.length (NL D),manyRd (rds3 A1 a1 B1 b1 C1 c1 x)]
  (fun r H'=> ∃A a B2 b2 C c,r= .tuple #[ndW leaf (.slice A Z.E.length a) (.slice B2 Z.K.length b2) (.slice C Z.D.length c), .int .i64 (i:Int), .int .i64 0] ∧H'= [blk pv 146 (viewL d (giN v (D.getD o 0)).1),DSK d (giN v (D.getD o 0)).1.S,own 3 1 (.slice B D.length b) D.length (NL D),manyRd (rds3 A a B2 b2 C c Z)]):=by
 refine Gv.Spec.of (fun w h0 hw=>?_)
 refine Calls.enter Tryz.func110 rfl rfl rfl hw ?_
 simp only [argSlots]
 refine Wap ?_
 obtain⟨A5,m5,c5,rfl⟩:=hev
 obtain⟨A6,m6,c6,rfl⟩:=hkv
 obtain⟨ad,had⟩: ∃ad,ad=D.getD o 0:=⟨_,rfl⟩
 rw [←had] at hG hZ ⊢
 have hon:o<D.length:=by omega
 have hND:(NL D)[o*1]? =some (.int .i64 ad):=by
  rw [Nat.mul_one,nl_get,had,gDe,gEe hon];rfl
 obtain⟨ha,hl,he,hlf,hok,hE,hDn,hgi⟩:=hG
 have hNd:=view_Node pv d v ad leaf hv (by omega) ha
 obtain⟨y,hy⟩: ∃y:ND3,y=⟨(rdN v.S ad leaf).E,(rdN v.S ad leaf).K,(rdN v.S ad leaf).D⟩:=⟨_,rfl⟩
 have hyZ:y=rd3 v.S ad leaf:=hy
 rw [←hy] at hok
 have hyE:(rdN v.S ad leaf).E=y.E:=by rw [hy]
 have hyK:(rdN v.S ad leaf).K=y.K:=by rw [hy]
 have hyD:(rdN v.S ad leaf).D=y.D:=by rw [hy]
 rw [hyE,hyK,hyD,hlf,he] at hNd
 rw [hyE] at hE
 rw [hyD] at hDn
 rw [←hyZ] at hZ
 have hxl:=ok_lens hx hxn
 have hyl:y.E.length≤1000∧y.K.length≤1000∧y.D.length≤1000:=by
  refine ok_lens hok ?_
  cases leaf
  ·exact hDn
  ·exact hE
 have hZo:okN leaf Z:=by rw [hZ];exact app_ok hx hok
 have hZl:Z.E.length≤2000∧Z.K.length≤2000∧Z.D.length≤2000:=by
  rw [hZ];simp only [appN,lAp];omega
 have hup:upN leaf (appN x y) Z:=by rw [←hZ];exact up_self hZo
 have hgv:=view_give pv d v ad hv
 have hdk:DSK d v.S=DSK d (giN v ad).1.S:=by rw [giN_S v ad]
 refine Ws ?_
 (refine Wbx ?_;intro b6)
 refine Ws ?_
 (refine Wbx ?_;intro b8)
 refine Ws ?_
 refine Zal fun b10=>?_
 refine Ws ?_
 refine Zi 13 ((i:Int)+1) ?_ (hi:=by rfl)
 refine Zz 25 false ?_ (hi:=by exact dFf (by omega))
 refine Ws ?_
 refine Zi 13 (o:Int) ?_ (hi:=by omega)
 refine Zi 14 (i:Int) ?_ (hi:=by omega)
 refine Zi 34 (o:Int) ?_ (hi:=by omega)
 refine Zix (j:=o) ?_ (hj:=by rfl) (hlt:=by exact hon)
 refine Ws ?_
 refine Zlo (j:=o*1) ?_ (hv:=by exact hND)
 refine Ws ?_
 refine Zz 38 leaf ?_ (hi:=by rw [←hh];exact decide_eq_decide.2 (by omega))
 refine Zcs hNd ?_
 rintro r1 H1 ⟨A,c,B2,e,C,f,rfl,rfl⟩
 refine Wap ?_
 refine Ws ?_
 refine Zal fun b15=>?_
 refine Ws ?_
 refine ZSa (ys:=ndLL leaf (.slice A y.E.length c) (.slice B2 y.K.length e) (.slice C y.D.length f)) ?_ (h1:=by exact ndLL_one leaf A B2 C _ c _ e _ f)
 refine Ws ?_
 refine Zz 43 false ?_
 refine Ws ?_
 refine Zix (j:=o) ?_ (hj:=by rfl) (hlt:=by exact hon)
 refine Ws ?_
 refine Zlo (j:=o*1) ?_ (hv:=by exact hND)
 refine Ws ?_
 refine Zd hgv ?_
 refine Ws ?_
 refine Zz 54 false ?_ (hi:=by rw [hgi];rfl)
 refine Ws ?_
 refine Zz 59 true ?_ (hi:=by exact dTt (by omega))
 refine Ws ?_
 refine Zla (cs:=ndLL leaf (.slice A1 x.E.length a1) (.slice B1 x.K.length b1) (.slice C1 x.D.length c1)) ?_ (hl:=by rfl)
 refine Ws ?_
 refine Zla (cs:=ndLL leaf (.slice A y.E.length c) (.slice B2 y.K.length e) (.slice C y.D.length f)) ?_ (hl:=by rfl)
 refine Ws ?_
 have hJ:=node_JoinU leaf (.slice A1 x.E.length a1) (.slice B1 x.K.length b1) (.slice C1 x.D.length c1) (.slice A y.E.length c) (.slice B2 y.K.length e) (.slice C y.D.length f) x y Z hup (by omega) (by omega) (by omega)
 rw [←hZ] at hJ
 refine Zcr hJ ?_ (hpre:=by exact fun w' hw'=>⟨ndR_rds Wp w' hw',⟨rdw_own (v:= .slice A y.E.length c) Wp w' hw',rdw_own (v:= .slice B2 y.K.length e) Wp w' hw',rdw_own (v:= .slice C y.D.length f) Wp w' hw'⟩⟩)
 rintro r3 H3 ⟨u1,u2,u3,rfl,rfl⟩
 simp only [ownN]
 refine Wap ?_
 (refine Tri.shape (e:=40) (size:=8) (v:=u1) Wp ?_;rintro ⟨A3,a3,rfl⟩)
 (refine Tri.shape (e:=38) (size:=2) (v:=u2) Wp ?_;rintro ⟨B3,b3,rfl⟩)
 (refine Tri.shape (e:=3) (size:=1) (v:=u3) Wp ?_;rintro ⟨C3,c3,rfl⟩)
 refine Ws ?_
 refine ZSa (ys:=ndLL leaf (.slice A3 Z.E.length a3) (.slice B3 Z.K.length b3) (.slice C3 Z.D.length c3)) ?_ (h1:=by exact ndLL_one leaf A3 B3 C3 _ a3 _ b3 _ c3)
 refine Ws ?_
 (with_reducible apply Tri.noneM)
 refine Tri.joinS (l:= []) (e:=40) (size:=8) (v:= .slice A3 Z.E.length a3) Wp Wp ?_
 refine Tri.joinS (e:=38) (size:=2) (v:= .slice B3 Z.K.length b3) Wp Wp ?_
 refine Tri.joinS (e:=3) (size:=1) (v:= .slice C3 Z.D.length c3) Wp Wp ?_
 refine Zat (manyRd ([] ++ [(.slice A3 _ a3,_,_)] ++ [_] ++ [_])) (manyRd (rds3 A3 a3 B3 b3 C3 c3 Z)) ?_
 rw [hdk]
 exact Zfn [blk pv 146 (viewL d (giN v ad).1),DSK d (giN v ad).1.S,own 3 1 (.slice B D.length b) D.length (NL D),manyRd (rds3 A3 a3 B3 b3 C3 c3 Z)] (h:=ResL.cons (Zra (rfl:(ndLL leaf (.slice A3 Z.E.length a3) (.slice B3 Z.K.length b3) (.slice C3 Z.D.length c3)).length=4)) (ResL.cons (Res1.tmp rfl) (ResL.cons (Res1.tmp rfl) (ResL.nil)))) (hq:=by exact⟨A3,a3,B3,b3,C3,c3,rfl,rfl⟩)
set_option maxRecDepth 4000 in
theorem view_joinedL (pv d:Nat)(v:VS)(leaf:Bool)(h:Nat)(hh:decide (h=1)=leaf)(ev kv:Value)(B:Option Addr)(b:Nat)(D:List Int)(i o:Nat)(A1 B1 C1:Option Addr)(a1 b1 c1:Nat)(x Z:ND3)
  (hev: ∃A m c,ev= .slice A m c) (hkv: ∃A m c,kv= .slice A m c) (hv:v.ok) (hD:D.length≤1000) (hi:i+1=D.length∧i=o+1) (hx:okN leaf x) (hxn:szN leaf x≤1000) (hG:rdG leaf v (D.getD o 0)) (hZ:Z=appN (rd3 v.S (D.getD o 0) leaf) x):
  Gv.Spec Tryz.prog 110 #[.pointer (some ⟨pv,0,none⟩),ndW false ev kv (.slice B D.length b), .int .i64 (i:Int),ndW leaf (.slice A1 x.E.length a1) (.slice B1 x.K.length b1) (.slice C1 x.D.length c1), .int .i64 (h:Int)]
  [blk pv 146 (viewL d v),DSK d v.S,own 3 1 (.slice B D.length b) D.length (NL D),manyRd (rds3 A1 a1 B1 b1 C1 c1 x)]
  (fun r H'=> ∃A a B2 b2 C c,r= .tuple #[ndW leaf (.slice A Z.E.length a) (.slice B2 Z.K.length b2) (.slice C Z.D.length c), .int .i64 (o:Int), .int .i64 0] ∧H'= [blk pv 146 (viewL d (giN v (D.getD o 0)).1),DSK d (giN v (D.getD o 0)).1.S,own 3 1 (.slice B D.length b) D.length (NL D),manyRd (rds3 A a B2 b2 C c Z)]):=by
 refine Gv.Spec.of (fun w h0 hw=>?_)
 refine Calls.enter Tryz.func110 rfl rfl rfl hw ?_
 simp only [argSlots]
 refine Wap ?_
 obtain⟨A5,m5,c5,rfl⟩:=hev
 obtain⟨A6,m6,c6,rfl⟩:=hkv
 obtain⟨ad,had⟩: ∃ad,ad=D.getD o 0:=⟨_,rfl⟩
 rw [←had] at hG hZ ⊢
 have hon:o<D.length:=by omega
 have hND:(NL D)[o*1]? =some (.int .i64 ad):=by
  rw [Nat.mul_one,nl_get,had,gDe,gEe hon];rfl
 obtain⟨ha,hl,he,hlf,hok,hE,hDn,hgi⟩:=hG
 have hNd:=view_Node pv d v ad leaf hv (by omega) ha
 obtain⟨y,hy⟩: ∃y:ND3,y=⟨(rdN v.S ad leaf).E,(rdN v.S ad leaf).K,(rdN v.S ad leaf).D⟩:=⟨_,rfl⟩
 have hyZ:y=rd3 v.S ad leaf:=hy
 rw [←hy] at hok
 have hyE:(rdN v.S ad leaf).E=y.E:=by rw [hy]
 have hyK:(rdN v.S ad leaf).K=y.K:=by rw [hy]
 have hyD:(rdN v.S ad leaf).D=y.D:=by rw [hy]
 rw [hyE,hyK,hyD,hlf,he] at hNd
 rw [hyE] at hE
 rw [hyD] at hDn
 rw [←hyZ] at hZ
 have hxl:=ok_lens hx hxn
 have hyl:y.E.length≤1000∧y.K.length≤1000∧y.D.length≤1000:=by
  refine ok_lens hok ?_
  cases leaf
  ·exact hDn
  ·exact hE
 have hZo:okN leaf Z:=by rw [hZ];exact app_ok hok hx
 have hZl:Z.E.length≤2000∧Z.K.length≤2000∧Z.D.length≤2000:=by
  rw [hZ];simp only [appN,lAp];omega
 have hup:upN leaf (appN y x) Z:=by rw [←hZ];exact up_self hZo
 have hgv:=view_give pv d v ad hv
 have hdk:DSK d v.S=DSK d (giN v ad).1.S:=by rw [giN_S v ad]
 refine Ws ?_
 (refine Wbx ?_;intro b6)
 refine Ws ?_
 (refine Wbx ?_;intro b8)
 refine Ws ?_
 refine Zal fun b10=>?_
 refine Ws ?_
 refine Zi 13 ((i:Int)+1) ?_ (hi:=by rfl)
 refine Zz 25 true ?_ (hi:=by exact dTt (by omega))
 refine Ws ?_
 refine Zi 13 (o:Int) ?_ (hi:=by omega)
 refine Zi 14 (o:Int) ?_ (hi:=by omega)
 refine Zi 34 (o:Int) ?_ (hi:=by omega)
 refine Zix (j:=o) ?_ (hj:=by rfl) (hlt:=by exact hon)
 refine Ws ?_
 refine Zlo (j:=o*1) ?_ (hv:=by exact hND)
 refine Ws ?_
 refine Zz 38 leaf ?_ (hi:=by rw [←hh];exact decide_eq_decide.2 (by omega))
 refine Zcs hNd ?_
 rintro r1 H1 ⟨A,c,B2,e,C,f,rfl,rfl⟩
 refine Wap ?_
 refine Ws ?_
 refine Zal fun b15=>?_
 refine Ws ?_
 refine ZSa (ys:=ndLL leaf (.slice A y.E.length c) (.slice B2 y.K.length e) (.slice C y.D.length f)) ?_ (h1:=by exact ndLL_one leaf A B2 C _ c _ e _ f)
 refine Ws ?_
 refine Zz 43 false ?_
 refine Ws ?_
 refine Zix (j:=o) ?_ (hj:=by rfl) (hlt:=by exact hon)
 refine Ws ?_
 refine Zlo (j:=o*1) ?_ (hv:=by exact hND)
 refine Ws ?_
 refine Zd hgv ?_
 refine Ws ?_
 refine Zz 54 false ?_ (hi:=by rw [hgi];rfl)
 refine Ws ?_
 refine Zz 59 false ?_ (hi:=by exact dFf (by omega))
 refine Ws ?_
 refine Zla (cs:=ndLL leaf (.slice A y.E.length c) (.slice B2 y.K.length e) (.slice C y.D.length f)) ?_ (hl:=by rfl)
 refine Ws ?_
 refine Zla (cs:=ndLL leaf (.slice A1 x.E.length a1) (.slice B1 x.K.length b1) (.slice C1 x.D.length c1)) ?_ (hl:=by rfl)
 refine Ws ?_
 have hJ:=node_JoinU leaf (.slice A y.E.length c) (.slice B2 y.K.length e) (.slice C y.D.length f) (.slice A1 x.E.length a1) (.slice B1 x.K.length b1) (.slice C1 x.D.length c1) y x Z hup (by omega) (by omega) (by omega)
 rw [←hZ] at hJ
 refine Zcr hJ ?_ (hpre:=by exact fun w' hw'=>⟨⟨rdw_own (v:= .slice A y.E.length c) Wp w' hw',rdw_own (v:= .slice B2 y.K.length e) Wp w' hw',rdw_own (v:= .slice C y.D.length f) Wp w' hw'⟩,ndR_rds Wp w' hw'⟩)
 rintro r3 H3 ⟨u1,u2,u3,rfl,rfl⟩
 simp only [ownN]
 refine Wap ?_
 (refine Tri.shape (e:=40) (size:=8) (v:=u1) Wp ?_;rintro ⟨A3,a3,rfl⟩)
 (refine Tri.shape (e:=38) (size:=2) (v:=u2) Wp ?_;rintro ⟨B3,b3,rfl⟩)
 (refine Tri.shape (e:=3) (size:=1) (v:=u3) Wp ?_;rintro ⟨C3,c3,rfl⟩)
 refine Ws ?_
 refine ZSa (ys:=ndLL leaf (.slice A3 Z.E.length a3) (.slice B3 Z.K.length b3) (.slice C3 Z.D.length c3)) ?_ (h1:=by exact ndLL_one leaf A3 B3 C3 _ a3 _ b3 _ c3)
 refine Ws ?_
 (with_reducible apply Tri.noneM)
 refine Tri.joinS (l:= []) (e:=40) (size:=8) (v:= .slice A3 Z.E.length a3) Wp Wp ?_
 refine Tri.joinS (e:=38) (size:=2) (v:= .slice B3 Z.K.length b3) Wp Wp ?_
 refine Tri.joinS (e:=3) (size:=1) (v:= .slice C3 Z.D.length c3) Wp Wp ?_
 refine Zat (manyRd ([] ++ [(.slice A3 _ a3,_,_)] ++ [_] ++ [_])) (manyRd (rds3 A3 a3 B3 b3 C3 c3 Z)) ?_
 rw [hdk]
 exact Zfn [blk pv 146 (viewL d (giN v ad).1),DSK d (giN v ad).1.S,own 3 1 (.slice B D.length b) D.length (NL D),manyRd (rds3 A3 a3 B3 b3 C3 c3 Z)] (h:=ResL.cons (Zra (rfl:(ndLL leaf (.slice A3 Z.E.length a3) (.slice B3 Z.K.length b3) (.slice C3 Z.D.length c3)).length=4)) (ResL.cons (Res1.tmp rfl) (ResL.cons (Res1.tmp rfl) (ResL.nil)))) (hq:=by exact⟨A3,a3,B3,b3,C3,c3,rfl,rfl⟩)
theorem joinN_mem: ∀(xs:List ND3) (y:ND3),y∈xs→ ∀e∈y.E,e∈(joinN xs).E
 | [],y,hy,e,he=>by cases hy
 | x::xs,y,hy,e,he=>by
  show e∈x.E++(joinN xs).E
  rcases List.mem_cons.1 hy with rfl | hy
  ·exact mAl _ he
  ·exact mAr _ (joinN_mem xs y hy e he)
theorem split_join {leaf:Bool}{x:ND3}(hx:okN leaf x):joinN (splitN leaf x)=x:=splN_join _ x hx (Nat.le_succ _)
theorem split_R {leaf:Bool}{x:ND3}(hx:okN leaf x)(h: ∀e∈x.E,entR e): ∀y∈splitN leaf x, ∀e∈y.E,entR e:=fun y hy e he=>h e (by
 have h1:=joinN_mem _ y hy e he
 rw [split_join hx] at h1;exact h1)
theorem split_ne {leaf:Bool}{x:ND3}(hx:okN leaf x)(h:0<szN leaf x):0<(splitN leaf x).length:=by
 rcases Nat.eq_zero_or_pos (splitN leaf x).length with h0 | h0
 ·have h1:=split_join hx
  rw [List.eq_nil_of_length_eq_zero h0] at h1
  rw [←h1] at h
  cases leaf<;>exact absurd h (by decide)
 ·exact h0
theorem split_len {leaf:Bool}(x:ND3):(splitN leaf x).length≤szN leaf x:=splN_len _ x
def removeT (pv d:Nat)(v:VS)(h:Nat)(a:Int)(k:KEY):Prop:=
 Gv.Spec Tryz.prog 67 #[.pointer (some ⟨pv,0,none⟩), .int .i64 a, .int .i64 (h:Int), .agg (keyL k).toArray] [blk pv 146 (viewL d v),DSK d v.S]
  (fun r H'=> ∃A c B e C f,r= .tuple #[ndW (decide (h=1)) (.slice A (rmN h v a k).2.1.E.length c) (.slice B (rmN h v a k).2.1.K.length e) (.slice C (rmN h v a k).2.1.D.length f), .int .i64 ((rmN h v a k).2.2:Int)]
   ∧H'= [blk pv 146 (viewL d (rmN h v a k).1),DSK d (rmN h v a k).1.S,manyRd (rds3 A c B e C f (rmN h v a k).2.1)])
set_option maxRecDepth 4000 in
theorem remove_leaf (pv d:Nat)(v:VS)(a:Int)(k:KEY)(hv:v.ok)(hG:rmG 1 v a k):removeT pv d v 1 a k:=by
 refine Gv.Spec.of (fun w h0 hw=>?_)
 refine Calls.enter Tryz.func67 rfl rfl rfl hw ?_
 simp only [argSlots]
 refine Wap ?_
 rw [rmG] at hG
 obtain⟨⟨ha,hl,he,hlf,hok,hE,hD,hgi⟩,_⟩:=hG
 have hin:rmN 1 v a k=((giN v a).1,⟨delE (rdN v.S a true).E k,(rdN v.S a true).K,(rdN v.S a true).D⟩,0):=by rw [rmN,if_pos rfl]
 obtain⟨R0,hR0⟩: ∃R,R=rmN 1 v a k:=⟨_,rfl⟩
 rw [←hR0] at hin ⊢
 have hNd:=view_Node pv d v a true hv (by omega) ha
 have hd1:decide ((0:Nat)=0)=true:=rfl
 rw [hd1] at he hlf hok hE hD
 obtain⟨N,hN⟩: ∃N,N=rdN v.S a true:=⟨_,rfl⟩
 rw [←hN] at hNd he hlf hE hD hin
 have hgS:=giN_S v a
 have hdk:DSK d v.S=DSK d (giN v a).1.S:=by rw [hgS]
 have hgv:=view_give pv d v a hv
 refine Ws ?_
 (refine Wbx ?_;intro b7)
 refine Ws ?_
 refine Zal fun b8=>?_
 refine Ws ?_
 refine Zz 22 true ?_
 refine Zcs hNd ?_
 rintro r1 H1 ⟨A,c,B,e,C,f,rfl,rfl⟩
 refine Wap ?_
 refine Ws ?_
 refine Zal fun b10=>?_
 refine Ws ?_
 refine ZSa (ys:=ndLL N.leaf (.slice A N.E.length c) (.slice B N.K.length e) (.slice C N.D.length f)) ?_ (h1:=by exact ndLL_one N.leaf A B C _ c _ e _ f)
 refine Ws ?_
 refine Zz 27 false ?_ (hi:=by rw [he];rfl)
 refine Ws ?_
 refine Zd hgv ?_
 refine Ws ?_
 refine Zz 34 false ?_ (hi:=by rw [hgi];rfl)
 refine Ws ?_
 refine Zz 38 true ?_
 refine Ws ?_
 refine Zcr (slices_CloneEntry (.slice A N.E.length c) N.E.length (EL N.E) (EL_lens N.E rfl) (EL_ones _) (by omega)) ?_ (hpre:=by exact rdw_own (v:= .slice A N.E.length c) Wp)
 rintro u1 H1 rfl
 refine Wap ?_
 (refine Tri.shape (e:=40) (size:=8) (v:=u1) Wp ?_;rintro ⟨A3,a3,rfl⟩)
 refine Ws ?_
 refine ZomakeFunc (vs:= [.pointer (some ⟨b7,0,none⟩)]) ?_ (hc:=by exact⟨rfl,trivial⟩)
 refine Ws ?_
 have hdel:=slices_DelE A3 a3 N.E k b7 (by omega)
 refine Zcs hdel ?_
 rintro r3 H3 ⟨A4,a4,rfl,rfl⟩
 refine Wap ?_
 refine Ws ?_
 refine ZS ?_ (hi:=by exact(by decide:1<4))
 refine Zat (blk b10 _ _) (blk b10 125 (ndLL true (.slice A4 (delE N.E k).length a4) (.slice B N.K.length e) (.slice C N.D.length f))) ?_ (e:=by rw [hlf];rfl)
 refine Ws ?_
 refine Zla (cs:=ndLL true (.slice A4 (delE N.E k).length a4) (.slice B N.K.length e) (.slice C N.D.length f)) ?_ (hl:=by rfl)
 refine Ws ?_
 refine ZSa (ys:=ndLL true (.slice A4 (delE N.E k).length a4) (.slice B N.K.length e) (.slice C N.D.length f)) ?_ (h1:=by exact ndLL_one true A4 B C _ a4 _ e _ f)
 refine Ws ?_
 obtain⟨Z,hZ⟩: ∃Z:ND3,Z=⟨delE N.E k,N.K,N.D⟩:=⟨_,rfl⟩
 rw [←hZ] at hin
 have hZE:delE N.E k=Z.E:=by rw [hZ]
 have hZK:N.K=Z.K:=by rw [hZ]
 have hZD:N.D=Z.D:=by rw [hZ]
 rw [hZE,hZK,hZD]
 (with_reducible apply Tri.noneM)
 refine Tri.joinS (l:= []) (e:=40) (size:=8) (v:= .slice A4 Z.E.length a4) Wp Wp ?_
 refine Tri.joinS (e:=38) (size:=2) (v:= .slice B Z.K.length e) Wp Wp ?_
 refine Tri.joinS (e:=3) (size:=1) (v:= .slice C Z.D.length f) Wp Wp ?_
 refine Zat (manyRd ([] ++ [(.slice A4 _ a4,_,_)] ++ [_] ++ [_])) (manyRd (rds3 A4 a4 B e C f Z)) ?_
 rw [hin,hdk]
 exact Zfn [blk pv 146 (viewL d (giN v a).1),DSK d (giN v a).1.S,manyRd (rds3 A4 a4 B e C f Z)] (h:=ResL.cons (Zra (rfl:(ndLL true (.slice A4 Z.E.length a4) (.slice B Z.K.length e) (.slice C Z.D.length f)).length=4)) (ResL.cons (Res1.tmp rfl) (ResL.nil))) (hq:=by exact⟨A4,a4,B,e,C,f,rfl,rfl⟩)
theorem jd_few {leaf:Bool}{v:VS}{D:List Int}{i:Nat}{x:ND3}(hf:fewN leaf x=true)(h1:1<D.length):
  jdN leaf v D i x=((giN v (D.getD (nbO D.length i) 0)).1,if i+1=D.length then appN (rd3 v.S (D.getD (nbO D.length i) 0) leaf) x else appN x (rd3 v.S (D.getD (nbO D.length i) 0) leaf),nbF D.length i,2):=by
 rw [jdN,if_pos ⟨hf,h1⟩];rfl
theorem jd_not {leaf:Bool}{v:VS}{D:List Int}{i:Nat}{x:ND3}(h: ¬(fewN leaf x=true∧1<D.length)):jdN leaf v D i x=(v,x,i,1):=by
 rw [jdN,if_neg h]
theorem jd_facts {leaf:Bool}{v:VS}{D:List Int}{i:Nat}{x:ND3}(hG:jdG leaf v D i x)(hi:i<D.length):
  (jdN leaf v D i x).1.ok∧okN leaf (jdN leaf v D i x).2.1∧szN leaf (jdN leaf v D i x).2.1≤2000∧1≤(jdN leaf v D i x).2.2.2∧(jdN leaf v D i x).2.2.1+(jdN leaf v D i x).2.2.2≤D.length:=by
 obtain⟨hv,hx,hxn,hN,_,_,_,_⟩:=hG
 by_cases h:fewN leaf x=true∧1<D.length
 ·obtain⟨ha,hl,he,hlf,hok,hE,hD,hgi⟩:=hN h.1 h.2
  have hs:szN leaf (rd3 v.S (D.getD (nbO D.length i) 0) leaf)≤1000:=by
   cases leaf
   ·exact hD
   ·exact hE
  have hok:okN leaf (rd3 v.S (D.getD (nbO D.length i) 0) leaf):=hok
  have hsz: ∀y z:ND3,szN leaf (appN y z)=szN leaf y+szN leaf z:=fun y z=>by
   cases leaf
   ·exact lAp
   ·exact lAp
  rw [jd_few h.1 h.2]
  refine⟨giN_ok hv _, ?_, ?_,Nat.le_succ 1, ?_⟩
  ·split
   ·exact app_ok hok hx
   ·exact app_ok hx hok
  ·split
   ·show szN leaf (appN _ _)≤2000;rw [hsz];omega
   ·show szN leaf (appN _ _)≤2000;rw [hsz];omega
  ·show nbF D.length i+2≤D.length
   rw [nbF];split<;>omega
 ·rw [jd_not h]
  exact⟨hv,hx,Nat.le_trans hxn (by decide),Nat.le_refl 1,hi⟩
set_option maxRecDepth 8000 in
theorem remove_step (pv d:Nat)(v:VS)(h:Nat)(a:Int)(k:KEY)(hv:v.ok)(hh:h≤1000)(hG:rmG (h+2) v a k)
  (ih:removeT pv d (giN v a).1 (h+1) ((rdN v.S a false).D.getD (childN (rdN v.S a false).K k) 0) k):removeT pv d v (h+2) a k:=by
 refine Gv.Spec.of (fun w h0 hw=>?_)
 refine Calls.enter Tryz.func67 rfl rfl rfl hw ?_
 simp only [argSlots]
 refine Wap ?_
 rw [rmG] at hG
 obtain⟨⟨ha,hl,he,hlf,hok,hE,hD,hgi⟩,hG'⟩:=hG
 have hG':=hG' (Nat.succ_ne_zero h)
 have hd1:decide (h+1=0)=false:=rfl
 rw [hd1] at he hlf hok hE hD
 have hin:rmN (h+2) v a k=rmS (decide (h+1=1)) ⟨(rdN v.S a false).E,(rdN v.S a false).K,(rdN v.S a false).D⟩ (childN (rdN v.S a false).K k) (rmN (h+1) (giN v a).1 ((rdN v.S a false).D.getD (childN (rdN v.S a false).K k) 0) k):=by
  rw [rmN,if_neg (Nat.succ_ne_zero h)]
 obtain⟨R0,hR0⟩: ∃R,R=rmN (h+2) v a k:=⟨_,rfl⟩
 have hdf:decide (h+2=1)=false:=dFf (by omega)
 rw [←hR0] at hin ⊢
 rw [hdf]
 have hNd:=view_Node pv d v a false hv (by omega) ha
 obtain⟨hE0,hKD⟩:=hok
 obtain⟨N,hN⟩: ∃N,N=rdN v.S a false:=⟨_,rfl⟩
 rw [←hN] at hNd he hlf hE hD hin hE0 hKD ih hG'
 have hE0:N.E= [] :=hE0
 have hKD:N.K.length=N.D.length:=hKD
 obtain⟨hql,_,hJG⟩:=hG'
 obtain⟨q,hq⟩: ∃q,q=childN N.K k:=⟨_,rfl⟩
 rw [←hq] at hql hJG hin ih
 obtain⟨kd,hkd⟩: ∃kd,kd=N.D.getD q 0:=⟨_,rfl⟩
 rw [←hkd] at hJG hin ih
 have hND:(NL N.D)[q*1]? =some (.int .i64 kd):=by
  rw [Nat.mul_one,nl_get,hkd,gDe,gEe hql];rfl
 have hgS:=giN_S v a
 have hdk:DSK d v.S=DSK d (giN v a).1.S:=by rw [hgS]
 have hgv:=view_give pv d v a hv
 obtain⟨leaf,hleaf⟩: ∃leaf,leaf=decide (h+1=1):=⟨_,rfl⟩
 rw [removeT] at ih
 obtain⟨V,hVd⟩: ∃V,V=rmN (h+1) (giN v a).1 kd k:=⟨_,rfl⟩
 rw [←hVd] at ih hJG hin
 rw [←hleaf] at ih hJG hin
 refine Ws ?_
 (refine Wbx ?_;intro b7)
 refine Ws ?_
 refine Zal fun b8=>?_
 refine Ws ?_
 refine Zz 22 false ?_ (hi:=by exact dFf (by omega))
 refine Zcs hNd ?_
 rintro r1 H1 ⟨A,c,B,e,C,f,rfl,rfl⟩
 refine Wap ?_
 refine Ws ?_
 refine Zal fun b10=>?_
 refine Ws ?_
 refine ZSa (ys:=ndLL N.leaf (.slice A N.E.length c) (.slice B N.K.length e) (.slice C N.D.length f)) ?_ (h1:=by exact ndLL_one N.leaf A B C _ c _ e _ f)
 refine Ws ?_
 refine Zz 27 false ?_ (hi:=by rw [he];rfl)
 refine Ws ?_
 refine Zd hgv ?_
 refine Ws ?_
 refine Zz 34 false ?_ (hi:=by rw [hgi];rfl)
 refine Ws ?_
 refine Zz 38 false ?_ (hi:=by exact dFf (by omega))
 refine Zat (blk b10 _ _) (blk b10 125 (ndLL false (.slice A N.E.length c) (.slice B N.K.length e) (.slice C N.D.length f))) ?_ (e:=by rw [hlf])
 refine Ws ?_
 refine Zla (cs:=ndLL false (.slice A N.E.length c) (.slice B N.K.length e) (.slice C N.D.length f)) ?_ (hl:=by rfl)
 refine Ws ?_
 refine Zla (cs:=keyL k) ?_ (hl:=by rfl)
 refine Ws ?_
 have hcd:=tree_child false (.slice A N.E.length c) (.slice B N.K.length e) (.slice C N.D.length f) N.K k (by omega)
 rw [←hq] at hcd
 refine Zcv hcd ?_ (hpre:=by exact rdw_own (v:= .slice B N.K.length e) Wp)
 have hz1:((h+1:Nat):Int)=((h+2:Nat):Int)-1:=by omega
 rw [hz1] at ih
 rw [hdk]
 refine Ws ?_
 refine Wm [blk b10 125 (ndLL false (.slice A N.E.length c) (.slice B N.K.length e) (.slice C N.D.length f)),own 3 1 (.slice C N.D.length f) N.D.length (NL N.D),blk b7 38 (keyL k)] ?_
 refine Wq [0,1,2,3] ?_
 refine Zm 4 (h:=fun _ _ qK=>by exact Zix (j:=q) qK (hj:=by rfl) (hlt:=by exact hql)) (k:=?_)
 refine Zm 5 (h:=fun _ _ qK=>by exact Zlo (j:=q*1) qK (hv:=by exact hND)) (k:=?_)
 refine Wq [6,7] ?_
 refine Zm 8 (h:=fun _ _ qK=>by exact Zla (cs:=keyL k) qK (hl:=by rfl)) (k:=?_)
 refine ZA2 9 13 ?_ ?_
 refine Zcs ih ?_
 rintro r3 H3 ⟨A3,c3,B3,e3,C3,f3,rfl,rfl⟩
 refine Wap ?_
 refine Zw ?_
 refine Wq [10,11,12] ?_
 refine ZA 13 ?_
 refine Zal fun b14=>?_
 refine Zw ?_
 refine ZA 14 ?_
 refine ZSa (ys:=ndLL leaf (.slice A3 V.2.1.E.length c3) (.slice B3 V.2.1.K.length e3) (.slice C3 V.2.1.D.length f3)) ?_ (h1:=by exact ndLL_one leaf A3 B3 C3 _ c3 _ e3 _ f3)
 refine Zw ?_
 refine Wq [15] ?_
 refine ZE ?_
 refine Ws ?_
 rotate_left
 refine Zal fun b14=>?_
 refine Zw ?_
 refine ZA 9 ?_
 refine Zcs ih ?_
 rintro r3 H3 ⟨A3,c3,B3,e3,C3,f3,rfl,rfl⟩
 refine Wap ?_
 refine Zw ?_
 refine Wq [10,11,12] ?_
 refine ZA 14 ?_
 refine ZSa (ys:=ndLL leaf (.slice A3 V.2.1.E.length c3) (.slice B3 V.2.1.K.length e3) (.slice C3 V.2.1.D.length f3)) ?_ (h1:=by exact ndLL_one leaf A3 B3 C3 _ c3 _ e3 _ f3)
 refine Zw ?_
 refine Wq [15] ?_
 refine ZE ?_
 refine Ws ?_
 rotate_left
 all_goals
  by_cases hz:V.2.2=0
  ·have hJG:=hJG hz
   rw [rmS,if_pos hz] at hin
   have hjf:=jd_facts hJG hql
   obtain⟨hVok,hxo,hxn,hnb,hsz0,hszm,hjR,hjW⟩:=hJG
   obtain⟨J,hJ⟩: ∃J,J=jdN leaf V.1 N.D q V.2.1:=⟨_,rfl⟩
   rw [←hJ] at hin hjf hsz0 hszm hjR hjW
   obtain⟨VJ,X,fr,ct⟩:=J
   dsimp only at hin hjf hsz0 hszm hjR hjW
   obtain⟨hj1,hj2,hj3,hj4,hj5⟩:=hjf
   have hx0:=split_ne hj2 hsz0
   have hxs:(splitN leaf X).length≤1000:=Nat.le_trans (split_len X) hszm
   have hjR:=split_R hj2 hjR
   have hsq:splN leaf (szN leaf X+1) X=splitN leaf X:=rfl
   obtain⟨U,hU⟩: ∃U,U=unN leaf VJ (splitN leaf X):=⟨_,rfl⟩
   obtain⟨RP,hRP⟩: ∃RP,RP=rpN leaf VJ ⟨N.E,N.K,N.D⟩ fr ct (splitN leaf X):=⟨_,rfl⟩
   have hRP':=hRP
   rw [rpN, ←hU] at hRP'
   rw [reN, ←hU] at hin
   have huc:=unN_cnt (leaf:=leaf) (v:=VJ) (xs:=splitN leaf X)
   rw [←hU] at huc
   obtain⟨Y,hY⟩: ∃Y:ND3,Y=⟨N.E,N.K.take fr++U.2.1.K++N.K.drop (fr+ct),N.D.take fr++U.2.1.D++N.D.drop (fr+ct)⟩:=⟨_,rfl⟩
   dsimp only at hRP' hin
   rw [←hY] at hRP' hin
   have hYo:U.2.2=0→okN false Y:=fun q0=>by
    obtain⟨_,k2,k3⟩:=huc q0
    rw [hY]
    refine⟨hE0, ?_⟩
    show (N.K.take fr++U.2.1.K++N.K.drop (fr+ct)).length=(N.D.take fr++U.2.1.D++N.D.drop (fr+ct)).length
    simp only [lAp,lTk,lDp,k2,k3,hKD]
   have hYn:U.2.2=0→Y.D.length≤3000:=fun q0=>by
    obtain⟨_,k2,k3⟩:=huc q0
    rw [hY]
    show (N.D.take fr++U.2.1.D++N.D.drop (fr+ct)).length≤3000
    simp only [lAp,lTk,lDp,k3];omega
   have hfw:=tree_few leaf A3 B3 C3 V.2.1 c3 e3 f3
   refine Zz 63 false ?_ (hi:=by rw [hz];rfl)
   refine Zi 11 0 ?_ (hi:=by rw [hz];rfl)
   refine Ws ?_
   refine Zla (cs:=ndLL leaf (.slice A3 V.2.1.E.length c3) (.slice B3 V.2.1.K.length e3) (.slice C3 V.2.1.D.length f3)) ?_ (hl:=by rfl)
   refine Ws ?_
   refine Zcv hfw ?_
   by_cases hfd:fewN leaf V.2.1=true∧1<N.D.length
   ·obtain⟨hfe,h1D⟩:=hfd
    have hrd:=hnb hfe h1D
    rw [jd_few hfe h1D] at hJ
    obtain⟨o,ho⟩: ∃o,o=nbO N.D.length q:=⟨_,rfl⟩
    rw [←ho] at hJ hrd
    obtain⟨q1,q2,q3,q4⟩:VJ=(giN V.1 (N.D.getD o 0)).1∧(X=if q+1=N.D.length then appN (rd3 V.1.S (N.D.getD o 0) leaf) V.2.1 else appN V.2.1 (rd3 V.1.S (N.D.getD o 0) leaf))∧fr=nbF N.D.length q∧ct=2:=by
     injection hJ with a1 a2;injection a2 with a2 a3;injection a3 with a3 a4;exact⟨a1,a2,a3,a4⟩
    have q5:X=X:=rfl
    rw [hfe]
    refine Ws ?_
    refine Zz 74 true ?_ (hi:=by exact dTt (by omega))
    refine Ws ?_
    refine Zla (cs:=ndLL false (.slice A N.E.length c) (.slice B N.K.length e) (.slice C N.D.length f)) ?_ (hl:=by rfl)
    refine Ws ?_
    refine Zla (cs:=ndLL leaf (.slice A3 V.2.1.E.length c3) (.slice B3 V.2.1.K.length e3) (.slice C3 V.2.1.D.length f3)) ?_ (hl:=by rfl)
    refine Ws ?_
    by_cases hlast:q+1=N.D.length
    ·rw [if_pos hlast] at q2
     rw [nbF,if_pos hlast] at q3
     rw [nbO,if_pos hlast] at ho
     have hjn:=view_joinedL pv d V.1 leaf (h+1) hleaf.symm (.slice A N.E.length c) (.slice B N.K.length e) C f N.D q o A3 B3 C3 c3 e3 f3 V.2.1 X ⟨_,_,_,rfl⟩ ⟨_,_,_,rfl⟩ hVok hD ⟨hlast,by omega⟩ hxo hxn hrd q2
     have q3:fr=o:=by omega
     rw [hz1] at hjn
     refine Zcs hjn ?_
     rintro r4 H4 ⟨A9,c9,B9,e9,C9,f9,rfl,rfl⟩
     refine Wap ?_
     refine Ws ?_
     refine ZSa (ys:=ndLL leaf (.slice A9 X.E.length c9) (.slice B9 X.K.length e9) (.slice C9 X.D.length f9)) ?_ (h1:=by exact ndLL_one leaf A9 B9 C9 _ c9 _ e9 _ f9)
     refine Ws ?_
     refine Zat (blk pv _ _) (blk pv 146 (viewL d VJ)) ?_ (e:=by rw [q1])
     refine Zat (DSK d _) (DSK d VJ.S) ?_ (e:=by rw [q1])
     refine Zat (blk b14 _ _) (blk b14 125 (ndLL leaf (.slice A9 X.E.length c9) (.slice B9 X.K.length e9) (.slice C9 X.D.length f9))) ?_ (e:=by rw [q5])
     refine Zat (manyRd (rds3 A9 c9 B9 e9 C9 f9 _)) (manyRd (rds3 A9 c9 B9 e9 C9 f9 X)) ?_ (e:=by rw [q5])
     refine Zz 87 false ?_
     refine Zi 15 (fr:Int) ?_ (hi:=by rw [q3])
     refine Zi 16 (ct:Int) ?_ (hi:=by rw [q4];rfl)
     refine Ws ?_
     refine Wm [blk b10 125 (ndLL false (.slice A N.E.length c) (.slice B N.K.length e) (.slice C N.D.length f)),blk b14 125 (ndLL leaf (.slice A9 X.E.length c9) (.slice B9 X.K.length e9) (.slice C9 X.D.length f9)),manyRd (rds3 A9 c9 B9 e9 C9 f9 X)] ?_
     refine Wq [0] ?_
     refine Zm 1 (h:=fun _ _ qK=>by exact Zla (cs:=ndLL false (.slice A N.E.length c) (.slice B N.K.length e) (.slice C N.D.length f)) qK (hl:=by rfl)) (k:=?_)
     refine Wq [2,3] ?_
     refine Zm 4 (h:=fun _ _ qK=>by exact Zla (cs:=ndLL leaf (.slice A9 X.E.length c9) (.slice B9 X.K.length e9) (.slice C9 X.D.length f9)) qK (hl:=by rfl)) (k:=?_)
     have hsp:=node_Split leaf (szN leaf X) X (.slice A9 X.E.length c9) (.slice B9 X.K.length e9) (.slice C9 X.D.length f9) hj2 (Nat.le_refl _) (by omega)
     refine ZA 5 ?_
     refine Zcr hsp ?_ (hpre:=by exact fun w' hw'=>ndR_rds Wp w' hw')
     rintro r5 H5 ⟨VZ,hVZ,hWZ,rfl⟩
     refine Wap ?_
     (refine Tri.shape (e:=125) (size:=4) (v:=r5) Wp ?_;rintro ⟨AZ,cz,rfl⟩)
     rw [hsq] at hVZ
     rw [hsq]
     have hrp:=view_replaced pv d VJ leaf A c B e C f ⟨N.E,N.K,N.D⟩ fr ct AZ cz VZ (splitN leaf X) hj1 (by omega) hxs hVZ hWZ hjR ⟨hE0,hKD⟩ hD hj4 hj5 hx0
     rw [←hRP] at hrp
     refine Zw ?_
     refine ZA 6 ?_
     refine Zcs hrp ?_
     rintro r6 H6 ⟨AY,cy,VY,rfl,hYl,hYW,rfl⟩
     refine Wap ?_
     refine Zw ?_
     refine Wq [7,8,9,10,11] ?_
     refine ZE ?_
     refine Ws ?_
     by_cases hz2:U.2.2=0
     ·rw [if_pos hz2] at hRP' hin
      rw [hRP'] at hYl ⊢
      (try dsimp only at hYl ⊢)
      refine Zz 101 false ?_
      refine Ws ?_
      have hwh:=tree_whole AY cy VY (splitN false Y) hYl (Nat.le_trans (split_len Y) (by have:=hYn hz2;show Y.D.length≤_;omega)) hYW Y (split_join (hYo hz2)) (hYo hz2) (by have:=hYn hz2;omega)
      refine Zcs hwh ?_
      rintro r7 H7 ⟨A6,a6,B6,b6,C6,c6,rfl,rfl⟩
      refine Wap ?_
      refine Ws ?_
      refine ZSa (ys:=ndLL false (.slice A6 Y.E.length a6) (.slice B6 Y.K.length b6) (.slice C6 Y.D.length c6)) ?_ (h1:=by exact ndLL_one false A6 B6 C6 _ a6 _ b6 _ c6)
      refine Ws ?_
      rw [hin]
      exact Zfn [blk pv 146 (viewL d U.1),DSK d U.1.S,manyRd (rds3 A6 a6 B6 b6 C6 c6 Y)] (h:=ResL.cons (Zra (rfl:(ndLL false (.slice A6 Y.E.length a6) (.slice B6 Y.K.length b6) (.slice C6 Y.D.length c6)).length=4)) (ResL.cons (Res1.tmp rfl) (ResL.nil))) (hq:=by exact⟨A6,a6,B6,b6,C6,c6,rfl,rfl⟩)
     ·rw [if_neg hz2] at hRP' hin
      rw [hRP']
      (try dsimp only)
      refine Zz 101 true ?_ (hi:=by rw [dTt];omega)
      refine Ws ?_
      refine ZSa (ys:=ndLL false (.slice none 0 0) (.slice none 0 0) (.slice none 0 0)) ?_ (h1:=by exact ndLL_one false none none none 0 0 0 0 0 0)
      refine Ws ?_
      (with_reducible apply Tri.noneM)
      refine Zat (manyRd []) (manyRd []) ?_
      refine Tri.imp (A:=manyRd []) (B:=manyRd (rds3 none 0 none 0 none 0 nd0)) Wp many_nd0 ?_
      rw [hin]
      exact Zfn [blk pv 146 (viewL d U.1),DSK d U.1.S,manyRd (rds3 none 0 none 0 none 0 nd0)] (h:=ResL.cons (Zra (rfl:(ndLL false (.slice none 0 0) (.slice none 0 0) (.slice none 0 0)).length=4)) (ResL.cons (Res1.tmp rfl) (ResL.nil))) (hq:=by exact⟨none,0,none,0,none,0,rfl,rfl⟩)
    ·rw [if_neg hlast] at q2
     rw [nbF,if_neg hlast] at q3
     rw [nbO,if_neg hlast] at ho
     have hjn:=view_joinedR pv d V.1 leaf (h+1) hleaf.symm (.slice A N.E.length c) (.slice B N.K.length e) C f N.D q o A3 B3 C3 c3 e3 f3 V.2.1 X ⟨_,_,_,rfl⟩ ⟨_,_,_,rfl⟩ hVok hD ⟨by omega,ho⟩ hxo hxn hrd q2
     rw [hz1] at hjn
     refine Zcs hjn ?_
     rintro r4 H4 ⟨A9,c9,B9,e9,C9,f9,rfl,rfl⟩
     refine Wap ?_
     refine Ws ?_
     refine ZSa (ys:=ndLL leaf (.slice A9 X.E.length c9) (.slice B9 X.K.length e9) (.slice C9 X.D.length f9)) ?_ (h1:=by exact ndLL_one leaf A9 B9 C9 _ c9 _ e9 _ f9)
     refine Ws ?_
     refine Zat (blk pv _ _) (blk pv 146 (viewL d VJ)) ?_ (e:=by rw [q1])
     refine Zat (DSK d _) (DSK d VJ.S) ?_ (e:=by rw [q1])
     refine Zat (blk b14 _ _) (blk b14 125 (ndLL leaf (.slice A9 X.E.length c9) (.slice B9 X.K.length e9) (.slice C9 X.D.length f9))) ?_ (e:=by rw [q5])
     refine Zat (manyRd (rds3 A9 c9 B9 e9 C9 f9 _)) (manyRd (rds3 A9 c9 B9 e9 C9 f9 X)) ?_ (e:=by rw [q5])
     refine Zz 87 false ?_
     refine Zi 15 (fr:Int) ?_ (hi:=by rw [q3])
     refine Zi 16 (ct:Int) ?_ (hi:=by rw [q4];rfl)
     refine Ws ?_
     refine Wm [blk b10 125 (ndLL false (.slice A N.E.length c) (.slice B N.K.length e) (.slice C N.D.length f)),blk b14 125 (ndLL leaf (.slice A9 X.E.length c9) (.slice B9 X.K.length e9) (.slice C9 X.D.length f9)),manyRd (rds3 A9 c9 B9 e9 C9 f9 X)] ?_
     refine Wq [0] ?_
     refine Zm 1 (h:=fun _ _ qK=>by exact Zla (cs:=ndLL false (.slice A N.E.length c) (.slice B N.K.length e) (.slice C N.D.length f)) qK (hl:=by rfl)) (k:=?_)
     refine Wq [2,3] ?_
     refine Zm 4 (h:=fun _ _ qK=>by exact Zla (cs:=ndLL leaf (.slice A9 X.E.length c9) (.slice B9 X.K.length e9) (.slice C9 X.D.length f9)) qK (hl:=by rfl)) (k:=?_)
     have hsp:=node_Split leaf (szN leaf X) X (.slice A9 X.E.length c9) (.slice B9 X.K.length e9) (.slice C9 X.D.length f9) hj2 (Nat.le_refl _) (by omega)
     refine ZA 5 ?_
     refine Zcr hsp ?_ (hpre:=by exact fun w' hw'=>ndR_rds Wp w' hw')
     rintro r5 H5 ⟨VZ,hVZ,hWZ,rfl⟩
     refine Wap ?_
     (refine Tri.shape (e:=125) (size:=4) (v:=r5) Wp ?_;rintro ⟨AZ,cz,rfl⟩)
     rw [hsq] at hVZ
     rw [hsq]
     have hrp:=view_replaced pv d VJ leaf A c B e C f ⟨N.E,N.K,N.D⟩ fr ct AZ cz VZ (splitN leaf X) hj1 (by omega) hxs hVZ hWZ hjR ⟨hE0,hKD⟩ hD hj4 hj5 hx0
     rw [←hRP] at hrp
     refine Zw ?_
     refine ZA 6 ?_
     refine Zcs hrp ?_
     rintro r6 H6 ⟨AY,cy,VY,rfl,hYl,hYW,rfl⟩
     refine Wap ?_
     refine Zw ?_
     refine Wq [7,8,9,10,11] ?_
     refine ZE ?_
     refine Ws ?_
     by_cases hz2:U.2.2=0
     ·rw [if_pos hz2] at hRP' hin
      rw [hRP'] at hYl ⊢
      (try dsimp only at hYl ⊢)
      refine Zz 101 false ?_
      refine Ws ?_
      have hwh:=tree_whole AY cy VY (splitN false Y) hYl (Nat.le_trans (split_len Y) (by have:=hYn hz2;show Y.D.length≤_;omega)) hYW Y (split_join (hYo hz2)) (hYo hz2) (by have:=hYn hz2;omega)
      refine Zcs hwh ?_
      rintro r7 H7 ⟨A6,a6,B6,b6,C6,c6,rfl,rfl⟩
      refine Wap ?_
      refine Ws ?_
      refine ZSa (ys:=ndLL false (.slice A6 Y.E.length a6) (.slice B6 Y.K.length b6) (.slice C6 Y.D.length c6)) ?_ (h1:=by exact ndLL_one false A6 B6 C6 _ a6 _ b6 _ c6)
      refine Ws ?_
      rw [hin]
      exact Zfn [blk pv 146 (viewL d U.1),DSK d U.1.S,manyRd (rds3 A6 a6 B6 b6 C6 c6 Y)] (h:=ResL.cons (Zra (rfl:(ndLL false (.slice A6 Y.E.length a6) (.slice B6 Y.K.length b6) (.slice C6 Y.D.length c6)).length=4)) (ResL.cons (Res1.tmp rfl) (ResL.nil))) (hq:=by exact⟨A6,a6,B6,b6,C6,c6,rfl,rfl⟩)
     ·rw [if_neg hz2] at hRP' hin
      rw [hRP']
      (try dsimp only)
      refine Zz 101 true ?_ (hi:=by rw [dTt];omega)
      refine Ws ?_
      refine ZSa (ys:=ndLL false (.slice none 0 0) (.slice none 0 0) (.slice none 0 0)) ?_ (h1:=by exact ndLL_one false none none none 0 0 0 0 0 0)
      refine Ws ?_
      (with_reducible apply Tri.noneM)
      refine Zat (manyRd []) (manyRd []) ?_
      refine Tri.imp (A:=manyRd []) (B:=manyRd (rds3 none 0 none 0 none 0 nd0)) Wp many_nd0 ?_
      rw [hin]
      exact Zfn [blk pv 146 (viewL d U.1),DSK d U.1.S,manyRd (rds3 none 0 none 0 none 0 nd0)] (h:=ResL.cons (Zra (rfl:(ndLL false (.slice none 0 0) (.slice none 0 0) (.slice none 0 0)).length=4)) (ResL.cons (Res1.tmp rfl) (ResL.nil))) (hq:=by exact⟨none,0,none,0,none,0,rfl,rfl⟩)
   ·rw [jd_not hfd] at hJ
    obtain⟨q1,q2,q3,q4⟩:VJ=V.1∧X=V.2.1∧fr=q∧ct=1:=by
     injection hJ with a1 a2;injection a2 with a2 a3;injection a3 with a3 a4;exact⟨a1,a2,a3,a4⟩
    cases hfe:fewN leaf V.2.1 with
    | true=>
     refine Ws ?_
     refine Zz 74 false ?_ (hi:=by exact dFf (fun q0=>hfd ⟨hfe,by omega⟩))
     refine Ws ?_
     refine Zat (blk pv _ _) (blk pv 146 (viewL d VJ)) ?_ (e:=by rw [q1])
     refine Zat (DSK d _) (DSK d VJ.S) ?_ (e:=by rw [q1])
     refine Zat (blk b14 _ _) (blk b14 125 (ndLL leaf (.slice A3 X.E.length c3) (.slice B3 X.K.length e3) (.slice C3 X.D.length f3))) ?_ (e:=by rw [q2])
     refine Zat (manyRd (rds3 A3 c3 B3 e3 C3 f3 _)) (manyRd (rds3 A3 c3 B3 e3 C3 f3 X)) ?_ (e:=by rw [q2])
     refine Zz 87 false ?_
     refine Zi 15 (fr:Int) ?_ (hi:=by rw [q3])
     refine Zi 16 (ct:Int) ?_ (hi:=by rw [q4];rfl)
     refine Ws ?_
     refine Wm [blk b10 125 (ndLL false (.slice A N.E.length c) (.slice B N.K.length e) (.slice C N.D.length f)),blk b14 125 (ndLL leaf (.slice A3 X.E.length c3) (.slice B3 X.K.length e3) (.slice C3 X.D.length f3)),manyRd (rds3 A3 c3 B3 e3 C3 f3 X)] ?_
     refine Wq [0] ?_
     refine Zm 1 (h:=fun _ _ qK=>by exact Zla (cs:=ndLL false (.slice A N.E.length c) (.slice B N.K.length e) (.slice C N.D.length f)) qK (hl:=by rfl)) (k:=?_)
     refine Wq [2,3] ?_
     refine Zm 4 (h:=fun _ _ qK=>by exact Zla (cs:=ndLL leaf (.slice A3 X.E.length c3) (.slice B3 X.K.length e3) (.slice C3 X.D.length f3)) qK (hl:=by rfl)) (k:=?_)
     have hsp:=node_Split leaf (szN leaf X) X (.slice A3 X.E.length c3) (.slice B3 X.K.length e3) (.slice C3 X.D.length f3) hj2 (Nat.le_refl _) (by omega)
     refine ZA 5 ?_
     refine Zcr hsp ?_ (hpre:=by exact fun w' hw'=>ndR_rds Wp w' hw')
     rintro r5 H5 ⟨VZ,hVZ,hWZ,rfl⟩
     refine Wap ?_
     (refine Tri.shape (e:=125) (size:=4) (v:=r5) Wp ?_;rintro ⟨AZ,cz,rfl⟩)
     rw [hsq] at hVZ
     rw [hsq]
     have hrp:=view_replaced pv d VJ leaf A c B e C f ⟨N.E,N.K,N.D⟩ fr ct AZ cz VZ (splitN leaf X) hj1 (by omega) hxs hVZ hWZ hjR ⟨hE0,hKD⟩ hD hj4 hj5 hx0
     rw [←hRP] at hrp
     refine Zw ?_
     refine ZA 6 ?_
     refine Zcs hrp ?_
     rintro r6 H6 ⟨AY,cy,VY,rfl,hYl,hYW,rfl⟩
     refine Wap ?_
     refine Zw ?_
     refine Wq [7,8,9,10,11] ?_
     refine ZE ?_
     refine Ws ?_
     by_cases hz2:U.2.2=0
     ·rw [if_pos hz2] at hRP' hin
      rw [hRP'] at hYl ⊢
      (try dsimp only at hYl ⊢)
      refine Zz 101 false ?_
      refine Ws ?_
      have hwh:=tree_whole AY cy VY (splitN false Y) hYl (Nat.le_trans (split_len Y) (by have:=hYn hz2;show Y.D.length≤_;omega)) hYW Y (split_join (hYo hz2)) (hYo hz2) (by have:=hYn hz2;omega)
      refine Zcs hwh ?_
      rintro r7 H7 ⟨A6,a6,B6,b6,C6,c6,rfl,rfl⟩
      refine Wap ?_
      refine Ws ?_
      refine ZSa (ys:=ndLL false (.slice A6 Y.E.length a6) (.slice B6 Y.K.length b6) (.slice C6 Y.D.length c6)) ?_ (h1:=by exact ndLL_one false A6 B6 C6 _ a6 _ b6 _ c6)
      refine Ws ?_
      rw [hin]
      exact Zfn [blk pv 146 (viewL d U.1),DSK d U.1.S,manyRd (rds3 A6 a6 B6 b6 C6 c6 Y)] (h:=ResL.cons (Zra (rfl:(ndLL false (.slice A6 Y.E.length a6) (.slice B6 Y.K.length b6) (.slice C6 Y.D.length c6)).length=4)) (ResL.cons (Res1.tmp rfl) (ResL.nil))) (hq:=by exact⟨A6,a6,B6,b6,C6,c6,rfl,rfl⟩)
     ·rw [if_neg hz2] at hRP' hin
      rw [hRP']
      (try dsimp only)
      refine Zz 101 true ?_ (hi:=by rw [dTt];omega)
      refine Ws ?_
      refine ZSa (ys:=ndLL false (.slice none 0 0) (.slice none 0 0) (.slice none 0 0)) ?_ (h1:=by exact ndLL_one false none none none 0 0 0 0 0 0)
      refine Ws ?_
      (with_reducible apply Tri.noneM)
      refine Zat (manyRd []) (manyRd []) ?_
      refine Tri.imp (A:=manyRd []) (B:=manyRd (rds3 none 0 none 0 none 0 nd0)) Wp many_nd0 ?_
      rw [hin]
      exact Zfn [blk pv 146 (viewL d U.1),DSK d U.1.S,manyRd (rds3 none 0 none 0 none 0 nd0)] (h:=ResL.cons (Zra (rfl:(ndLL false (.slice none 0 0) (.slice none 0 0) (.slice none 0 0)).length=4)) (ResL.cons (Res1.tmp rfl) (ResL.nil))) (hq:=by exact⟨none,0,none,0,none,0,rfl,rfl⟩)
    | false=>
     refine Ws ?_
     refine Zat (blk pv _ _) (blk pv 146 (viewL d VJ)) ?_ (e:=by rw [q1])
     refine Zat (DSK d _) (DSK d VJ.S) ?_ (e:=by rw [q1])
     refine Zat (blk b14 _ _) (blk b14 125 (ndLL leaf (.slice A3 X.E.length c3) (.slice B3 X.K.length e3) (.slice C3 X.D.length f3))) ?_ (e:=by rw [q2])
     refine Zat (manyRd (rds3 A3 c3 B3 e3 C3 f3 _)) (manyRd (rds3 A3 c3 B3 e3 C3 f3 X)) ?_ (e:=by rw [q2])
     refine Zz 87 false ?_
     refine Zi 15 (fr:Int) ?_ (hi:=by rw [q3])
     refine Zi 16 (ct:Int) ?_ (hi:=by rw [q4];rfl)
     refine Ws ?_
     refine Wm [blk b10 125 (ndLL false (.slice A N.E.length c) (.slice B N.K.length e) (.slice C N.D.length f)),blk b14 125 (ndLL leaf (.slice A3 X.E.length c3) (.slice B3 X.K.length e3) (.slice C3 X.D.length f3)),manyRd (rds3 A3 c3 B3 e3 C3 f3 X)] ?_
     refine Wq [0] ?_
     refine Zm 1 (h:=fun _ _ qK=>by exact Zla (cs:=ndLL false (.slice A N.E.length c) (.slice B N.K.length e) (.slice C N.D.length f)) qK (hl:=by rfl)) (k:=?_)
     refine Wq [2,3] ?_
     refine Zm 4 (h:=fun _ _ qK=>by exact Zla (cs:=ndLL leaf (.slice A3 X.E.length c3) (.slice B3 X.K.length e3) (.slice C3 X.D.length f3)) qK (hl:=by rfl)) (k:=?_)
     have hsp:=node_Split leaf (szN leaf X) X (.slice A3 X.E.length c3) (.slice B3 X.K.length e3) (.slice C3 X.D.length f3) hj2 (Nat.le_refl _) (by omega)
     refine ZA 5 ?_
     refine Zcr hsp ?_ (hpre:=by exact fun w' hw'=>ndR_rds Wp w' hw')
     rintro r5 H5 ⟨VZ,hVZ,hWZ,rfl⟩
     refine Wap ?_
     (refine Tri.shape (e:=125) (size:=4) (v:=r5) Wp ?_;rintro ⟨AZ,cz,rfl⟩)
     rw [hsq] at hVZ
     rw [hsq]
     have hrp:=view_replaced pv d VJ leaf A c B e C f ⟨N.E,N.K,N.D⟩ fr ct AZ cz VZ (splitN leaf X) hj1 (by omega) hxs hVZ hWZ hjR ⟨hE0,hKD⟩ hD hj4 hj5 hx0
     rw [←hRP] at hrp
     refine Zw ?_
     refine ZA 6 ?_
     refine Zcs hrp ?_
     rintro r6 H6 ⟨AY,cy,VY,rfl,hYl,hYW,rfl⟩
     refine Wap ?_
     refine Zw ?_
     refine Wq [7,8,9,10,11] ?_
     refine ZE ?_
     refine Ws ?_
     by_cases hz2:U.2.2=0
     ·rw [if_pos hz2] at hRP' hin
      rw [hRP'] at hYl ⊢
      (try dsimp only at hYl ⊢)
      refine Zz 101 false ?_
      refine Ws ?_
      have hwh:=tree_whole AY cy VY (splitN false Y) hYl (Nat.le_trans (split_len Y) (by have:=hYn hz2;show Y.D.length≤_;omega)) hYW Y (split_join (hYo hz2)) (hYo hz2) (by have:=hYn hz2;omega)
      refine Zcs hwh ?_
      rintro r7 H7 ⟨A6,a6,B6,b6,C6,c6,rfl,rfl⟩
      refine Wap ?_
      refine Ws ?_
      refine ZSa (ys:=ndLL false (.slice A6 Y.E.length a6) (.slice B6 Y.K.length b6) (.slice C6 Y.D.length c6)) ?_ (h1:=by exact ndLL_one false A6 B6 C6 _ a6 _ b6 _ c6)
      refine Ws ?_
      rw [hin]
      exact Zfn [blk pv 146 (viewL d U.1),DSK d U.1.S,manyRd (rds3 A6 a6 B6 b6 C6 c6 Y)] (h:=ResL.cons (Zra (rfl:(ndLL false (.slice A6 Y.E.length a6) (.slice B6 Y.K.length b6) (.slice C6 Y.D.length c6)).length=4)) (ResL.cons (Res1.tmp rfl) (ResL.nil))) (hq:=by exact⟨A6,a6,B6,b6,C6,c6,rfl,rfl⟩)
     ·rw [if_neg hz2] at hRP' hin
      rw [hRP']
      (try dsimp only)
      refine Zz 101 true ?_ (hi:=by rw [dTt];omega)
      refine Ws ?_
      refine ZSa (ys:=ndLL false (.slice none 0 0) (.slice none 0 0) (.slice none 0 0)) ?_ (h1:=by exact ndLL_one false none none none 0 0 0 0 0 0)
      refine Ws ?_
      (with_reducible apply Tri.noneM)
      refine Zat (manyRd []) (manyRd []) ?_
      refine Tri.imp (A:=manyRd []) (B:=manyRd (rds3 none 0 none 0 none 0 nd0)) Wp many_nd0 ?_
      rw [hin]
      exact Zfn [blk pv 146 (viewL d U.1),DSK d U.1.S,manyRd (rds3 none 0 none 0 none 0 nd0)] (h:=ResL.cons (Zra (rfl:(ndLL false (.slice none 0 0) (.slice none 0 0) (.slice none 0 0)).length=4)) (ResL.cons (Res1.tmp rfl) (ResL.nil))) (hq:=by exact⟨none,0,none,0,none,0,rfl,rfl⟩)
  ·rw [rmS,if_neg hz] at hin
   refine Zz 63 true ?_ (hi:=by rw [dTt];omega)
   refine Ws ?_
   refine ZSa (ys:=ndLL false (.slice none 0 0) (.slice none 0 0) (.slice none 0 0)) ?_ (h1:=by exact ndLL_one false none none none 0 0 0 0 0 0)
   refine Ws ?_
   (with_reducible apply Tri.noneM)
   refine Zat (manyRd []) (manyRd []) ?_
   refine Tri.imp (A:=manyRd []) (B:=manyRd (rds3 none 0 none 0 none 0 nd0)) Wp many_nd0 ?_
   rw [hin]
   exact Zfn [blk pv 146 (viewL d V.1),DSK d V.1.S,manyRd (rds3 none 0 none 0 none 0 nd0)] (h:=ResL.cons (Zra (rfl:(ndLL false (.slice none 0 0) (.slice none 0 0) (.slice none 0 0)).length=4)) (ResL.cons (Res1.tmp rfl) (ResL.nil))) (hq:=by exact⟨none,0,none,0,none,0,rfl,rfl⟩)
structure FK (S:DS)(k:KEY)(R0:ENT×Nat) where
 h:Nat
 a:Int
 hR:fdN S h a k=R0
 hG:fdG S h a k
 hh:h≤1000
theorem tree_Find (pv d:Nat)(v:VS)(a:Int)(h:Nat)(kx:KEY)(hv:v.ok)(hl:v.S.W.length≤1000000)(hh:h≤5)(hG:fdG v.S h a kx):
  Gv.Spec Tryz.prog 18 #[.pointer (some ⟨pv,0,none⟩),rootV a (h:Int), .agg (keyL kx).toArray] [blk pv 146 (viewL d v),DSK d v.S]
  (fun r H'=>r= .tuple #[entV (fdN v.S h a kx).1, .int .i64 ((fdN v.S h a kx).2:Int)] ∧H'= [blk pv 146 (viewL d v),DSK d v.S]):=by
 refine Gv.Spec.of (fun w h0 hw=>?_)
 refine Calls.enter Tryz.func18 rfl rfl rfl hw ?_
 simp only [argSlots]
 refine Wap ?_
 obtain⟨R0,hR0⟩: ∃R,R=fdN v.S h a kx:=⟨_,rfl⟩
 rw [←hR0]
 refine Ws ?_
 (refine Wbx ?_;intro b4)
 refine Ws ?_
 (refine Wbx ?_;intro b5)
 refine Ws ?_
 refine Zal fun b6=>?_
 refine Ws ?_
 refine Zla (cs:=rootL a (h:Int)) ?_ (hl:=by rfl)
 refine Ws ?_
 refine Zcv (view_may pv a h hh) ?_
 refine Ws ?_
 refine Zz 19 false ?_
 refine Ws ?_
 have hz8: [Value.int .i64 0, .int .i64 0, .int .i64 0, .int .i64 0, .int .i64 0, .int .i64 0, .int .i64 0, .int .u32 0] =entL ent0:=rfl
 rw [hz8]
 (refine Wl (α:=FK v.S kx R0) (fun z=>z.h) (fun z=> [(0, .pointer (some ⟨pv,0,none⟩)),(5, .pointer (some ⟨b5,0,none⟩)),(6, .pointer (some ⟨b6,0,none⟩)),(9, .int .i64 z.a),(10, .int .i64 (z.h:Int))]) (fun z=> [blk b6 40 (entL ent0),blk b5 38 (keyL kx),blk pv 146 (viewL d v),DSK d v.S,Ex h0]) ⟨h,a,hR0.symm,hG,(by omega)⟩ ?_;rintro ⟨h,a,hR,hG,hh⟩ mx hmx;(try dsimp only at hmx ⊢))
 refine Ws ?_
 (refine Wcd ?_ ?_<;>intro hc)
 ·obtain⟨g,rfl⟩: ∃g,h=g+1:=⟨h-1,by omega⟩
  rw [fdG] at hG
  rw [fdN] at hR
  obtain⟨ha,he,hE,hK,hD⟩:=hG
  have hNd:=view_Node pv d v a (decide (g=0)) hv hl ha
  obtain⟨N,hN⟩: ∃N,N=rdN v.S a (decide (g=0)):=⟨_,rfl⟩
  rw [←hN] at hNd he hE hK
  have hg1:g≤1000:=by omega
  refine Ws ?_
  refine Zz 34 (decide (g=0)) ?_ (hi:=by exact decide_eq_decide.2 (by omega))
  refine Zcs hNd ?_
  rintro r1 H1 ⟨A,c,B,e,C,f,rfl,rfl⟩
  refine Wap ?_
  refine Ws ?_
  refine Zal fun b11=>?_
  refine Ws ?_
  refine ZSa (ys:=ndLL N.leaf (.slice A N.E.length c) (.slice B N.K.length e) (.slice C N.D.length f)) ?_ (h1:=by exact ndLL_one N.leaf A B C _ c _ e _ f)
  refine Ws ?_
  refine Zz 39 false ?_ (hi:=by rw [he];rfl)
  refine Ws ?_
  by_cases h00:g=0
  ·subst h00
   have hN1:rdN v.S a true=N:=by rw [hN];rfl
   rw [if_pos rfl,hN1] at hR
   have hk0:(N.E.take 0).any (fun y=>decide (y.key=kx))=false:=by rw [List.take_zero];rfl
   have hEl8:(EL N.E).length=N.E.length*8:=EL_lens N.E rfl
   refine Zz 43 false ?_ (hi:=by exact dFf (by omega))
   refine Ws ?_
   (refine Wl (α:=Σ' (i:Nat),i≤N.E.length∧(N.E.take i).any (fun y=>decide (y.key=kx))=false) (fun z=>N.E.length-z.1) (fun z=> [(0, .pointer (some ⟨pv,0,none⟩)),(5, .pointer (some ⟨b5,0,none⟩)),(6, .pointer (some ⟨b6,0,none⟩)),(9, .int .i64 a),(10, .int .i64 ((0+1:Nat):Int)),(52, .slice A N.E.length c),(53, .int .i64 (N.E.length:Int)),(54, .int .i64 (z.1:Int))]) (fun z=> [blk b6 40 (entL ent0),blk b5 38 (keyL kx),blk pv 146 (viewL d v),DSK d v.S,own 40 8 (.slice A N.E.length c) N.E.length (EL N.E),Ex h0]) ⟨0,Nat.zero_le _,hk0⟩ ?_;rintro ⟨i,hi,hno⟩ mx hmx;(try dsimp only at hmx ⊢))
   refine Ws ?_
   (refine Wcd ?_ ?_<;>intro hc2)
   ·have hil:i<N.E.length:=by omega
    have hil':i+1≤N.E.length:=hil
    obtain⟨y,hy⟩: ∃y,y=N.E.getD i ent0:=⟨_,rfl⟩
    have hE8:((EL N.E).drop (i*8)).take 8=entL y:=by rw [hy];exact EL_eight N.E i hil
    have hat:=any_take (fun y:ENT=>decide (y.key=kx)) N.E ent0 i hil
    rw [←hy,hno,Bool.false_or] at hat
    refine Ws ?_
    refine Zix (j:=i) ?_ (hj:=by rfl) (hlt:=by exact hil)
    refine Ws ?_
    refine Zlq (ys:=entL y) ?_ (hv:=by exact hE8) (hl:=by rfl)
    refine Ws ?_
    refine Zal fun b14=>?_
    refine Ws ?_
    refine ZSa (ys:=entL y) ?_ (h1:=by exact entL_one5 y)
    refine Ws ?_
    refine Zlg ?_ (hv:=by exact key_cells y) (hl:=by rfl)
    refine Ws ?_
    refine Zla (cs:=keyL kx) ?_ (hl:=by rfl)
    refine Ws ?_
    refine ZoeqlA (r:=decide (y.key=kx)) ?_ (hax:=by exact keyS_alk y.key) (hay:=by exact keyS_alk kx) (hr:=by exact keyS_eq y.key kx)
    refine Ws ?_
    by_cases hk:y.key=kx
    ·have hfd:=fdE_some hno hil (by rw [←hy];exact hk)
     rw [←hy,hR] at hfd
     refine Zz 61 true ?_ (hi:=by exact dTt hk)
     refine Ws ?_
     refine Zla (cs:=entL y) ?_ (hl:=by rfl)
     refine Ws ?_
     refine ZSa (ys:=entL y) ?_ (h1:=by exact entL_one5 y)
     refine Ws ?_
     rw [hfd]
     exact Zfn [blk pv 146 (viewL d v),DSK d v.S] (h:=ResL.cons (Zra (rfl:(entL y).length=8)) (ResL.cons (Res1.tmp rfl) (ResL.nil))) (hq:=by exact⟨rfl,rfl⟩)
    ·have hno':(N.E.take (i+1)).any (fun y=>decide (y.key=kx))=false:=by rw [hat];exact dFf hk
     refine Zz 61 false ?_ (hi:=by exact dFf hk)
     refine Ws ?_
     refine Zi 54 ((i+1:Nat):Int) ?_ (hi:=by omega)
     exact Zag ⟨i+1,hil',hno'⟩
   ·have hil:i=N.E.length:=by omega
    rw [hil,List.take_length] at hno
    have hfd:=fdE_none hno
    rw [hR] at hfd
    have hR1:fdN v.S 0 a kx=R0:=by rw [hfd];rfl
    have hG0:fdG v.S 0 a kx:=True.intro
    refine Ws ?_
    refine Zi 10 ((0:Nat):Int) ?_ (hi:=by rfl)
    exact Zag ⟨0,a,hR1,hG0,Nat.zero_le _⟩
  ·have hN1:rdN v.S a false=N:=by rw [hN,dFf h00]
   rw [if_neg h00,hN1] at hR
   obtain⟨hq1,hq2⟩:=hD h00
   rw [hN1] at hq1 hq2
   obtain⟨q,hq⟩: ∃q,q=childN N.K kx:=⟨_,rfl⟩
   have hcd:=tree_child N.leaf (.slice A N.E.length c) (.slice B N.K.length e) (.slice C N.D.length f) N.K kx (by omega)
   rw [←hq] at hq1 hq2 hR hcd
   obtain⟨kd,hkd⟩: ∃kd,kd=N.D.getD q 0:=⟨_,rfl⟩
   rw [←hkd] at hq2 hR
   have hND:(NL N.D)[q*1]? =some (.int .i64 kd):=by
    rw [Nat.mul_one,nl_get,hkd,gDe,gEe hq1];rfl
   refine Zz 43 true ?_ (hi:=by exact dTt (by omega))
   refine Ws ?_
   refine Wm [blk b11 125 (ndLL N.leaf (.slice A N.E.length c) (.slice B N.K.length e) (.slice C N.D.length f)),own 3 1 (.slice C N.D.length f) N.D.length (NL N.D),own 38 2 (.slice B N.K.length e) N.K.length (KL N.K),blk b5 38 (keyL kx)] ?_
   refine Wq [0,1] ?_
   refine Zm 2 (h:=fun _ _ qK=>by exact Zla (cs:=ndLL N.leaf (.slice A N.E.length c) (.slice B N.K.length e) (.slice C N.D.length f)) qK (hl:=by rfl)) (k:=?_)
   refine Zm 3 (h:=fun _ _ qK=>by exact Zla (cs:=keyL kx) qK (hl:=by rfl)) (k:=?_)
   refine Zm 4 (h:=fun _ _ qK=>by exact Zcv hcd qK (hpre:=by exact rdw_own (v:= .slice B N.K.length e) Wp)) (k:=?_)
   refine Zm 5 (h:=fun _ _ qK=>by exact Zix (j:=q) qK (hj:=by rfl) (hlt:=by exact hq1)) (k:=?_)
   refine Zm 6 (h:=fun _ _ qK=>by exact Zlo (j:=q*1) qK (hv:=by exact hND)) (k:=?_)
   refine Wq [7] ?_
   refine ZE ?_
   refine Ws ?_
   refine Zi 10 (g:Int) ?_ (hi:=by omega)
   exact Zag ⟨g,kd,hR,hq2,hg1⟩
 ·have hh0:h=0:=by omega
  subst hh0
  rw [fdN] at hR
  refine Ws ?_
  refine ZSa (ys:=entL ent0) ?_ (h1:=by exact entL_one5 _)
  refine Ws ?_
  rw [←hR]
  exact Zfn [blk pv 146 (viewL d v),DSK d v.S] (h:=ResL.cons (Zra (rfl:(entL ent0).length=8)) (ResL.cons (Res1.tmp rfl) (ResL.nil))) (hq:=by exact⟨rfl,rfl⟩)
theorem view_remove (pv d:Nat)(k:KEY): ∀(h:Nat) (v:VS) (a:Int),v.ok→h≤1000→rmG h v a k→removeT pv d v h a k
 | 0,v,a,_,_,hG=>hG.elim
 | 1,v,a,hv,_,hG=>remove_leaf pv d v a k hv hG
 | h+2,v,a,hv,hh,hG=>remove_step pv d v h a k hv (by omega) hG (view_remove pv d k (h+1) _ _ (giN_ok hv a) (by omega) (hG.2 (Nat.succ_ne_zero h)).2.1)
set_option maxRecDepth 4000 in
theorem view_Delete (pv d:Nat)(v:VS)(a:Int)(h:Nat)(k:KEY)(hv:v.ok)(hG:dlG v a h k):
  Gv.Spec Tryz.prog 19 #[.pointer (some ⟨pv,0,none⟩),rootV a (h:Int), .agg (keyL k).toArray] [blk pv 146 (viewL d v),DSK d v.S]
  (fun r H'=>r= .tuple #[.agg #[.int .i64 (dlN v a h k).2.1.1, .int .i64 ((dlN v a h k).2.1.2:Int)], .int .i64 ((dlN v a h k).2.2:Int)]
   ∧H'= [blk pv 146 (viewL d (dlN v a h k).1),DSK d (dlN v a h k).1.S]):=by
 refine Gv.Spec.of (fun w h0 hw=>?_)
 refine Calls.enter Tryz.func19 rfl rfl rfl hw ?_
 simp only [argSlots]
 refine Wap ?_
 obtain⟨hh,hl,hfG,hG2⟩:=hG
 obtain⟨R0,hR0⟩: ∃R,R=dlN v a h k:=⟨_,rfl⟩
 rw [←hR0]
 rw [dlN] at hR0
 have hfd:=tree_Find pv d v a h k hv (by omega) hh hfG
 obtain⟨F,hF⟩: ∃F,F=fdN v.S h a k:=⟨_,rfl⟩
 rw [←hF] at hR0 hfd hG2
 refine Ws ?_
 (refine Wbx ?_;intro b4)
 refine Ws ?_
 (refine Wbx ?_;intro b5)
 refine Ws ?_
 refine Zal fun b6=>?_
 refine Ws ?_
 refine Zla (cs:=rootL a (h:Int)) ?_ (hl:=by rfl)
 refine Ws ?_
 refine Zla (cs:=keyL k) ?_ (hl:=by rfl)
 refine Ws ?_
 refine Zd hfd ?_
 refine Ws ?_
 refine Zal fun b8=>?_
 refine Ws ?_
 refine ZSa (ys:=entL F.1) ?_ (h1:=by exact entL_one5 F.1)
 refine Ws ?_
 by_cases hf:F.2=0
 ·rw [if_neg (by omega)] at hR0
  obtain⟨hrG,hVok,hV⟩:=hG2 hf
  refine Zz 20 false ?_ (hi:=by rw [hf];rfl)
  refine Ws ?_
  have hrm:=view_remove pv d k h v a hv (by omega) hrG
  rw [removeT] at hrm
  obtain⟨V,hVd⟩: ∃V,V=rmN h v a k:=⟨_,rfl⟩
  rw [←hVd] at hrm hVok hV hR0
  obtain⟨leaf,hleaf⟩: ∃leaf,leaf=decide (h=1):=⟨_,rfl⟩
  rw [←hleaf] at hrm hV hR0
  refine Zla (cs:=keyL k) ?_ (hl:=by rfl)
  refine Ws ?_
  refine Zcs hrm ?_
  rintro r3 H3 ⟨A,c,B,e,C,f,rfl,rfl⟩
  refine Wap ?_
  refine Ws ?_
  refine Zal fun b10=>?_
  refine Ws ?_
  refine ZSa (ys:=ndLL leaf (.slice A V.2.1.E.length c) (.slice B V.2.1.K.length e) (.slice C V.2.1.D.length f)) ?_ (h1:=by exact ndLL_one leaf A B C _ c _ e _ f)
  refine Ws ?_
  by_cases hz:V.2.2=0
  ·rw [if_pos hz] at hR0
   obtain⟨hxo,hxs,hxR,hVW,hro⟩:=hV hz
   have hsp:=node_Split leaf (szN leaf V.2.1) V.2.1 (.slice A V.2.1.E.length c) (.slice B V.2.1.K.length e) (.slice C V.2.1.D.length f) hxo (Nat.le_refl _) (by omega)
   have hsq:splN leaf (szN leaf V.2.1+1) V.2.1=splitN leaf V.2.1:=rfl
   refine Zz 34 false ?_ (hi:=by rw [hz];rfl)
   refine Ws ?_
   refine Wm [blk b4 43 (rootL a (h:Int)),blk b10 125 (ndLL leaf (.slice A V.2.1.E.length c) (.slice B V.2.1.K.length e) (.slice C V.2.1.D.length f)),manyRd (rds3 A c B e C f V.2.1)] ?_
   refine Wq [0] ?_
   refine Zm 1 (h:=fun _ _ qK=>by exact Zla (cs:=ndLL leaf (.slice A V.2.1.E.length c) (.slice B V.2.1.K.length e) (.slice C V.2.1.D.length f)) qK (hl:=by rfl)) (k:=?_)
   refine Wq [3,4] ?_
   refine ZA 2 ?_
   refine Zcr hsp ?_ (hpre:=by exact fun w' hw'=>ndR_rds Wp w' hw')
   rintro r5 H5 ⟨VZ,hVZ,hWZ,rfl⟩
   refine Wap ?_
   (refine Tri.shape (e:=125) (size:=4) (v:=r5) Wp ?_;rintro ⟨AZ,cz,rfl⟩)
   rw [hsq] at hVZ
   rw [hsq]
   have hrt:=view_root pv d 1 V.1 leaf AZ cz VZ (splitN leaf V.2.1) h hro hVok (by omega) (Nat.le_trans (split_len _) hxs) (by omega) hVZ hWZ (split_R hxo hxR)
   rw [←hR0] at hrt
   refine Zw ?_
   refine ZA 5 ?_
   refine Zd hrt ?_
   refine Zw ?_
   refine Wq [6,7] ?_
   refine ZA 8 ?_
   refine ZSa (ys:= [.int .i64 R0.2.1.1, .int .i64 (R0.2.1.2:Int)]) ?_ (h1:=by exact two_int _ _)
   refine Zw ?_
   refine Wq [9] ?_
   refine ZE ?_
   refine Ws ?_
   exact Zfn [blk pv 146 (viewL d R0.1),DSK d R0.1.S] (h:=ResL.cons (Zra (rfl: [Value.int .i64 R0.2.1.1,Value.int .i64 (R0.2.1.2:Int)].length=2)) (ResL.cons (Res1.tmp rfl) (ResL.nil))) (hq:=by exact⟨rfl,rfl⟩)
  ·rw [if_neg hz] at hR0
   refine Zz 34 true ?_ (hi:=by rw [dTt];omega)
   refine Ws ?_
   refine ZSa (ys:= [.int .i64 0, .int .i64 0]) ?_ (h1:=by exact two_int _ _)
   refine Ws ?_
   rw [hR0]
   exact Zfn [blk pv 146 (viewL d V.1),DSK d V.1.S] (h:=ResL.cons (Zra (rfl: [Value.int .i64 0,Value.int .i64 0].length=2)) (ResL.cons (Res1.tmp rfl) (ResL.nil))) (hq:=by exact⟨rfl,rfl⟩)
 ·rw [if_pos (by omega)] at hR0
  refine Zz 20 true ?_ (hi:=by rw [dTt];omega)
  refine Ws ?_
  refine ZSa (ys:= [.int .i64 0, .int .i64 0]) ?_ (h1:=by exact two_int _ _)
  refine Ws ?_
  rw [hR0]
  exact Zfn [blk pv 146 (viewL d v),DSK d v.S] (h:=ResL.cons (Zra (rfl: [Value.int .i64 0,Value.int .i64 0].length=2)) (ResL.cons (Res1.tmp rfl) (ResL.nil))) (hq:=by exact⟨rfl,rfl⟩)
theorem szN_app {leaf:Bool}(x y:ND3):szN leaf (appN x y)=szN leaf x+szN leaf y:=by
 cases leaf
 ·exact lAp
 ·exact lAp
theorem okN_app {leaf:Bool}{x y:ND3}(hx:okN leaf x)(hy:okN leaf y):okN leaf (appN x y):=by
 cases leaf
 ·obtain⟨a,b⟩:=hx;obtain⟨c,d⟩:=hy
  refine⟨?_, ?_⟩
  ·show x.E++y.E= [];rw [a,c];rfl
  ·show (x.K++y.K).length=(x.D++y.D).length;rw [lAp,lAp,b,d]
 ·obtain⟨a,b⟩:=hx;obtain⟨c,d⟩:=hy
  refine⟨?_, ?_⟩
  ·show x.K++y.K= [];rw [a,c];rfl
  ·show x.D++y.D= [];rw [b,d];rfl
theorem entX_app {S:DS}{h:Nat}{x y:ND3}(hx:okN (decide (h=0)) x)(hy:okN (decide (h=0)) y):entX S h (appN x y)=entX S h x++entX S h y:=by
 by_cases h0:h=0
 ·rw [dTt h0] at hx hy
  obtain⟨_,a⟩:=hx;obtain⟨_,b⟩:=hy
  show (x.E++y.E)++(x.D++y.D).flatMap _=(x.E++x.D.flatMap _)++(y.E++y.D.flatMap _)
  rw [a,b]
  show (x.E++y.E)++ [] =(x.E++ [])++(y.E++ [])
  rw [List.append_nil,List.append_nil,List.append_nil]
 ·rw [dFf h0] at hx hy
  obtain⟨a,_⟩:=hx;obtain⟨b,_⟩:=hy
  show (x.E++y.E)++(x.D++y.D).flatMap _=(x.E++x.D.flatMap _)++(y.E++y.D.flatMap _)
  rw [a,b,List.flatMap_append];rfl
theorem pagX_app (S:DS)(h:Nat)(x y:ND3):pagX S h (appN x y)=pagX S h x++pagX S h y:=List.flatMap_append
def okZ (S:DS)(k:Nat)(mu:Nat→Nat)(h:Nat)(y:ND3):Prop:=
 okN (decide (h=0)) y∧(∀d∈y.D,tkG S k mu h (mu h) d)∧y.K=y.D.map (headK S h)
theorem okZ.X {S:DS}{k:Nat}{mu:Nat→Nat}{h:Nat}{y:ND3}(g:okZ S k mu h y)(h1:1≤szN (decide (h=0)) y):okX S k mu h y:=⟨g.1,h1,g.2.1,g.2.2⟩
theorem okX.Z {S:DS}{k:Nat}{mu:Nat→Nat}{h:Nat}{y:ND3}(g:okX S k mu h y):okZ S k mu h y:=⟨g.1,g.2.2.1,g.2.2.2⟩
theorem okZ_app {S:DS}{k:Nat}{mu:Nat→Nat}{h:Nat}{x y:ND3}(gx:okZ S k mu h x)(gy:okZ S k mu h y):okZ S k mu h (appN x y):=by
 refine⟨okN_app gx.1 gy.1,fun d hd=>?_, ?_⟩
 ·rcases List.mem_append.1 hd with q | q
  ·exact gx.2.1 d q
  ·exact gy.2.1 d q
 ·show x.K++y.K=(x.D++y.D).map _
  rw [gx.2.2,gy.2.2,List.map_append]
theorem most_lim (h n:Nat)(hn:mostN (decide (h=0))<n):limN h≤(n+1)/2∧limN h≤n-(n+1)/2:=by
 by_cases h0:h=0
 ·rw [dTt h0] at hn
  have hn:7<n:=hn
  rw [limN,if_pos h0];omega
 ·rw [dFf h0] at hn
  have hn:16<n:=hn
  rw [limN,if_neg h0];omega
theorem parts_spec {S:DS}{k:Nat}{mu:Nat→Nat}{h:Nat}{X:ND3}(hmu:mu (h+1)≤limN h)(g:okX S k mu h X)(hm:mu (h+1)≤szN (decide (h=0)) X)(hM:szN (decide (h=0)) X≤2*mostN (decide (h=0))):
  (∀z∈splitN (decide (h=0)) X,okX S k mu h z∧mu (h+1)≤szN (decide (h=0)) z∧szN (decide (h=0)) z≤mostN (decide (h=0)))∧entsX S h (splitN (decide (h=0)) X)=entX S h X∧pagsX S h (splitN (decide (h=0)) X)=pagX S h X∧
  1≤(splitN (decide (h=0)) X).length∧(splitN (decide (h=0)) X).length≤2∧(szN (decide (h=0)) X≤mostN (decide (h=0))→(splitN (decide (h=0)) X).length=1):=by
 have hsp:=spl_spec (szN (decide (h=0)) X+1) X g (Nat.le_succ _)
 have heq:splN (decide (h=0)) (szN (decide (h=0)) X+1) X=splitN (decide (h=0)) X:=rfl
 rw [heq] at hsp
 obtain⟨s1,s2,s3⟩:=hsp
 rcases split_two g.1 g.2.1 hM with ⟨c1,c2⟩ | ⟨c1,a,b,c2,c3,c4⟩
 ·refine⟨fun z hz=>⟨s1 z hz, ?_⟩,s2,s3,by rw [c2];exact Nat.le_refl 1,by rw [c2];exact Nat.le_succ 1,fun _=>by rw [c2];rfl⟩
  rw [c2] at hz
  rw [List.mem_singleton.1 hz]
  exact⟨hm,c1⟩
 ·have hl:=most_lim h _ c1
  have hmp:=most_pos (decide (h=0))
  refine⟨fun z hz=>⟨s1 z hz, ?_⟩,s2,s3,by rw [c2];exact Nat.le_succ 1,by rw [c2];exact Nat.le_refl 2,fun c=>by omega⟩
  rw [c2] at hz
  rcases List.mem_cons.1 hz with rfl | hz
  ·rw [c3];omega
  ·rw [List.mem_singleton.1 hz,c4];omega
theorem re_spec {k:Nat}{mu:Nat→Nat}{O U2 R:List Nat}{h:Nat}{V:VS}{X y:ND3}{A C:List Int}{fr ct:Nat}(hmu:mu (h+1)≤limN h)(hv:VG k U2 O V)
  (hU:U2.Perm (pagX V.S h X++(A.flatMap (pgN V.S (h+1))++(C.flatMap (pgN V.S (h+1))++R)))) (gX:okX V.S k mu h X) (hm:mu (h+1)≤szN (decide (h=0)) X) (hM:szN (decide (h=0)) X≤2*mostN (decide (h=0)))
  (hA: ∀z,(z∈A∨z∈C)→tkG V.S k mu (h+1) (mu (h+1)) z) (yE:y.E= []) (yA:y.D.take fr=A) (yC:y.D.drop (fr+ct)=C) (yKA:y.K.take fr=A.map (headK V.S (h+1))) (yKC:y.K.drop (fr+ct)=C.map (headK V.S (h+1)))
  (ho:ordE (A.flatMap (wkE V.S (h+1))++(entX V.S h X++C.flatMap (wkE V.S (h+1))))):
  (∃(v3:VS) (Z:ND3) (U3:List Nat),reN (decide (h=0)) V y fr ct (splitN (decide (h=0)) X)=(v3,Z,0)∧VG k U3 O v3∧U3.Perm (pagX v3.S (h+1) Z++R)∧same V.S v3.S (R++O)∧okX v3.S k mu (h+1) Z∧
   entX v3.S (h+1) Z=A.flatMap (wkE V.S (h+1))++(entX V.S h X++C.flatMap (wkE V.S (h+1)))∧Z.D.length=A.length+(splitN (decide (h=0)) X).length+C.length∧v3.S.W.length≤V.S.W.length+8∧ ∀n,Fre k U2 O (n+2)→Fre k U3 O n)
  ∨((reN (decide (h=0)) V y fr ct (splitN (decide (h=0)) X)).2.2=5∧ ¬Fre k U2 O 2):=by
 obtain⟨q1,q2,q3,q4,q5,_⟩:=parts_spec hmu gX hm hM
 obtain⟨xs,hxs⟩: ∃xs,xs=splitN (decide (h=0)) X:=⟨_,rfl⟩
 rw [←hxs] at q1 q2 q3 q4 q5 ⊢
 obtain⟨Rd,hRd⟩: ∃Rd,Rd=A.flatMap (pgN V.S (h+1))++(C.flatMap (pgN V.S (h+1))++R):=⟨_,rfl⟩
 rw [←hRd, ←q3] at hU
 have hov:ordE (entsX V.S h xs):=by
  rw [q2]
  exact ho.sub ((List.sublist_append_left _ _).trans (List.sublist_append_right _ _))
 rcases un_spec xs V U2 Rd hv hU q1 hov with ⟨v3,D',U3,e3,hv3,hU3,hsm3,hl3,hg3,he3,hk3,hW3,hfr3⟩ | ⟨h5,hn⟩
 ·have hun:unN (decide (h=0)) V xs=(v3,⟨[],xs.map (least3 (decide (h=0))),D'⟩,0):=by
   rw [unN,e3];simp only [if_true]
  have hin:reN (decide (h=0)) V y fr ct xs=(v3,⟨y.E,y.K.take fr++xs.map (least3 (decide (h=0)))++y.K.drop (fr+ct),y.D.take fr++D'++y.D.drop (fr+ct)⟩,0):=by
   rw [reN,hun,if_pos rfl]
  have hsR:same V.S v3.S (Rd++O):=hsm3.sub (fun b hb=>by
   rcases List.mem_append.1 hb with c | c
   ·exact mAl _ (hU.mem_iff.2 (mAr _ c))
   ·exact mAr _ c)
  have hts: ∀z,(z∈A∨z∈C)→tkG v3.S k mu (h+1) (mu (h+1)) z∧wkE v3.S (h+1) z=wkE V.S (h+1) z∧pgN v3.S (h+1) z=pgN V.S (h+1) z:=by
   intro z hz
   refine tk_same (h+1) (mu (h+1)) z (hA z hz) (hsR.sub (fun b hb=>?_))
   rw [hRd]
   rcases hz with hz | hz
   ·exact mAl _ (mAl _ (List.mem_flatMap.2 ⟨z,hz,hb⟩))
   ·exact mAl _ (mAr _ (mAl _ (List.mem_flatMap.2 ⟨z,hz,hb⟩)))
  have hf1:A.flatMap (wkE v3.S (h+1))=A.flatMap (wkE V.S (h+1)):=flat_congr (fun z hz=>(hts z (.inl hz)).2.1)
  have hf2:C.flatMap (wkE v3.S (h+1))=C.flatMap (wkE V.S (h+1)):=flat_congr (fun z hz=>(hts z (.inr hz)).2.1)
  have hp1:A.flatMap (pgN v3.S (h+1))=A.flatMap (pgN V.S (h+1)):=flat_congr (fun z hz=>(hts z (.inl hz)).2.2)
  have hp3:C.flatMap (pgN v3.S (h+1))=C.flatMap (pgN V.S (h+1)):=flat_congr (fun z hz=>(hts z (.inr hz)).2.2)
  have hh1:A.map (headK v3.S (h+1))=A.map (headK V.S (h+1)):=List.map_congr_left (fun z hz=>by rw [headK,headK,(hts z (.inl hz)).2.1])
  have hh2:C.map (headK v3.S (h+1))=C.map (headK V.S (h+1)):=List.map_congr_left (fun z hz=>by rw [headK,headK,(hts z (.inr hz)).2.1])
  rw [yE,yA,yC,yKA,yKC, ←hh1, ←hh2, ←hk3] at hin
  obtain⟨Z,hZ⟩: ∃Z:ND3,Z=⟨[],A.map (headK v3.S (h+1))++D'.map (headK v3.S (h+1))++C.map (headK v3.S (h+1)),A++D'++C⟩:=⟨_,rfl⟩
  rw [←hZ] at hin
  have hd1:decide (h+1=0)=false:=rfl
  have hZD:Z.D=A++D'++C:=by rw [hZ]
  have hZl:Z.D.length=A.length+xs.length+C.length:=by
   rw [hZD,lAp,lAp,hl3]
  have hgZ:okX v3.S k mu (h+1) Z:=by
   refine⟨?_, ?_, ?_, ?_⟩
   ·rw [hd1]
    refine⟨by rw [hZ], ?_⟩
    rw [hZ]
    simp only [lAp,List.length_map]
   ·rw [hd1,szN_false,hZl];omega
   ·intro z hz
    rw [hZD] at hz
    rcases List.mem_append.1 hz with hz | hz
    ·rcases List.mem_append.1 hz with hz | hz
     ·exact(hts z (.inl hz)).1
     ·exact hg3 z hz
    ·exact(hts z (.inr hz)).1
   ·rw [hZ]
    simp only [List.map_append]
  have hpZ:pagX v3.S (h+1) Z=A.flatMap (pgN V.S (h+1))++(D'.flatMap (pgN v3.S (h+1))++C.flatMap (pgN V.S (h+1))):=by
   rw [pagX,hZD,List.flatMap_append,List.flatMap_append,hp1,hp3,aAs]
  have heZ:entX v3.S (h+1) Z=A.flatMap (wkE V.S (h+1))++(entX V.S h X++C.flatMap (wkE V.S (h+1))):=by
   have hZE:Z.E= [] :=by rw [hZ]
   rw [entX,hZE,nAp,hZD,List.flatMap_append,List.flatMap_append,hf1,hf2,he3,q2,aAs]
  have hUZ:U3.Perm (pagX v3.S (h+1) Z++R):=by
   refine hU3.trans ?_
   rw [hpZ,hRd,aAs,aAs]
   exact perm3 _ _ _
  refine .inl ⟨v3,Z,U3,hin,hv3,hUZ,hsR.sub (fun b hb=>?_),hgZ,heZ,hZl,by omega,fun n hn=>hfr3 n (hn.le (by omega))⟩
  rcases List.mem_append.1 hb with c | c
  ·rw [hRd];exact mAl _ (mAr _ (mAr _ c))
  ·exact mAr _ c
 ·have hu5:(unN (decide (h=0)) V xs).2.2=5:=h5
  refine .inr ⟨?_,fun c=>hn (c.le q5)⟩
  rw [reN,if_neg (by rw [hu5];decide)]
  exact hu5
structure RmR (k:Nat)(mu:Nat→Nat)(O:List Nat)(h m:Nat)(S0:DS)(U R:List Nat)(E':List ENT)(r:VS×ND3×Nat):Prop where
 e:r.2.2=0
 vg: ∃U',VG k U' O r.1∧U'.Perm (pagX r.1.S h r.2.1++R)∧ ∀n,Fre k U O (n+2*h)→Fre k U' O n
 sm:same S0 r.1.S (R++O)
 ok:okZ r.1.S k mu h r.2.1
 lo:m≤szN (decide (h=0)) r.2.1+1
 hi:szN (decide (h=0)) r.2.1≤mostN (decide (h=0))
 ents:entX r.1.S h r.2.1=E'
 W:r.1.S.W.length≤S0.W.length+8*h
theorem few_not {mu:Nat→Nat}(hmu: ∀h,mu (h+1)≤limN h)(hmu3:mu 1≤3){h:Nat}{x:ND3}(hf:fewN (decide (h=0)) x=false):mu (h+1)≤szN (decide (h=0)) x:=by
 by_cases h0:h=0
 ·rw [dTt h0] at hf ⊢
  rw [fewN,if_pos rfl,decide_eq_false_iff_not] at hf
  subst h0
  show mu 1≤x.E.length
  omega
 ·have h1:=hmu h
  rw [limN,if_neg h0] at h1
  rw [dFf h0] at hf ⊢
  rw [fewN,if_neg (by decide),decide_eq_false_iff_not] at hf
  show mu (h+1)≤x.D.length
  omega
theorem few_small {leaf:Bool}{x:ND3}(hf:fewN leaf x=true):szN leaf x≤mostN leaf:=by
 cases leaf
 ·rw [fewN,if_neg (by decide),decide_eq_true_eq] at hf
  show x.D.length≤16;omega
 ·rw [fewN,if_pos rfl,decide_eq_true_eq] at hf
  show x.E.length≤7;omega
theorem rm_fin {k:Nat}{mu:Nat→Nat}{O U UJ R:List Nat}{h m:Nat}{S0:DS}{VJ:VS}{X y:ND3}{A C:List Int}{fr ct:Nat}{E':List ENT}(hmu:mu (h+1)≤limN h)(hv:VG k UJ O VJ)
  (hU:UJ.Perm (pagX VJ.S h X++(A.flatMap (pgN VJ.S (h+1))++(C.flatMap (pgN VJ.S (h+1))++R)))) (gX:okX VJ.S k mu h X) (hm:mu (h+1)≤szN (decide (h=0)) X) (hM:szN (decide (h=0)) X≤2*mostN (decide (h=0)))
  (hA: ∀z,(z∈A∨z∈C)→tkG VJ.S k mu (h+1) (mu (h+1)) z) (yE:y.E= []) (yA:y.D.take fr=A) (yC:y.D.drop (fr+ct)=C) (yKA:y.K.take fr=A.map (headK VJ.S (h+1))) (yKC:y.K.drop (fr+ct)=C.map (headK VJ.S (h+1)))
  (hE:A.flatMap (wkE VJ.S (h+1))++(entX VJ.S h X++C.flatMap (wkE VJ.S (h+1)))=E') (ho:ordE E') (hsm:same S0 VJ.S (R++O)) (hW:VJ.S.W.length≤S0.W.length+8*h) (hn:m≤A.length+C.length+2)
  (hn2:A.length+C.length+1≤16∧(A.length+C.length+2≤16∨szN (decide (h=0)) X≤mostN (decide (h=0)))) (hf: ∀n,Fre k U O (n+2*(h+1))→Fre k UJ O (n+2)):
  RmR k mu O (h+1) m S0 U R E' (reN (decide (h=0)) VJ y fr ct (splitN (decide (h=0)) X))∨((reN (decide (h=0)) VJ y fr ct (splitN (decide (h=0)) X)).2.2=5∧ ¬Fre k U O (2*(h+1))):=by
 obtain⟨_,_,_,p1,p2,p3⟩:=parts_spec hmu gX hm hM
 have hd1:decide (h+1=0)=false:=rfl
 rcases re_spec (R:=R) hmu hv hU gX hm hM hA yE yA yC yKA yKC (by rw [hE];exact ho) with ⟨v3,Z,U3,e,hv3,hU3,hs3,gZ,heZ,hZl,hW3,hf3⟩ | ⟨h5,hno⟩
 ·rw [e]
  refine .inl ⟨rfl,⟨U3,hv3,hU3,fun n q=>hf3 n (hf n q)⟩,hsm.trans hs3,gZ.Z, ?_, ?_, ?_, ?_⟩
  ·rw [hd1,szN_false]
   show m≤Z.D.length+1
   omega
  ·rw [hd1,szN_false]
   show Z.D.length≤16
   rcases hn2.2 with c | c
   ·omega
   ·have:=p3 c;omega
  ·show entX v3.S (h+1) Z=E'
   rw [heZ];exact hE
  ·show v3.S.W.length≤_
   omega
 ·exact .inr ⟨h5,fun c=>hno (hf 0 (c.le (by omega)))⟩
theorem rdG_of {k:Nat}{mu:Nat→Nat}{O U R:List Nat}{h m:Nat}{v:VS}{a:Int}(hv:VG k U O v)(g:tkG v.S k mu (h+1) m a)(hU:U.Perm (pgN v.S (h+1) a++R))(hW:v.S.W.length≤800000):rdG (decide (h=0)) v a:=by
 have hwg:=tk_wkG hv.k8.2 (h+1) m a g
 have hk:=hv.k8.2
 obtain⟨⟨p,hp,hp2⟩,g1,g2,g3,_⟩:=g
 have hU:U.Perm (p::(pagX v.S h (ndG (rdN v.S a (decide (h=0))))++R)):=by
  rw [pgN_succ,hp] at hU
  rw [hp];exact hU
 obtain⟨v',e1,_,_⟩:=(hv.perm hU).give
 rw [←hp] at e1
 exact⟨by omega,hW,g1,g2,g3,hwg.2.2.1,hwg.2.2.2.1,by rw [e1]⟩
theorem delE_mid {A B C:List ENT}{k:KEY}(hA: ∀y∈A,y.key≠k)(hC: ∀y∈C,y.key≠k):delE (A++(B++C)) k=A++(delE B k++C):=by
 have h: ∀l:List ENT,(∀y∈l,y.key≠k)→delE l k=l:=fun l hl=>delE_none (List.any_eq_false.2 (fun y hy c=>hl y hy (of_decide_eq_true c)))
 rw [delE_app,delE_app,h A hA,h C hC]
theorem ordE.del {E:List ENT}(k:KEY)(h:ordE E):ordE (delE E k):=h.sub List.filter_sublist
theorem lessK_irr (k:KEY):lessK k k=false:=by unfold lessK;simp
theorem child_else {S:DS}{k:Nat}{mu:Nat→Nat}{h:Nat}{D:List Int}{K:List KEY}{x:KEY}(hD: ∀d∈D,tkG S k mu h (mu h) d)(hK:K=D.map (headK S h))(h0:0<D.length)(ho:ordE (D.flatMap (wkE S h))):
  (∀y∈(D.take (childN K x)).flatMap (wkE S h),y.key≠x)∧(∀y∈(D.drop (childN K x+1)).flatMap (wkE S h),y.key≠x):=by
 have hKl:K.length=D.length:=by rw [hK,List.length_map]
 obtain⟨c1,c2,c3⟩:=child_spec (K:=K) x (by omega)
 obtain⟨d,_,_,_,_,hC⟩:=child_sides (x:=⟨x,0,0,0,0,0,0⟩) hD hK h0 ho
 have hC: ∀y∈(D.drop (childN K x+1)).flatMap (wkE S h),lessK x y.key=true:=hC
 obtain⟨q,hq⟩: ∃q,q=childN K x:=⟨_,rfl⟩
 rw [←hq] at c1 c2 c3 hC ⊢
 have hql:q<D.length:=by omega
 refine⟨fun y hy c=>?_,fun y hy c=>?_⟩
 ·rcases Nat.eq_zero_or_pos q with h00 | hpos
  ·rw [h00,List.take_zero] at hy;cases hy
  ·have hsplit:D=D.take q++D.getD q 0::D.drop (q+1):=by rw [getD_at hql,List.getElem_cons_drop,List.take_append_drop]
   have hne:=tk_ne h (mu h) (D.getD q 0) (hD _ (by rw [getD_at hql];exact List.getElem_mem hql))
   have hKq:K.getD q (0,0)=headK S h (D.getD q 0):=by
    rw [hK,getD_at (show q<(D.map (headK S h)).length by rw [List.length_map];exact hql),List.getElem_map,getD_at hql]
   have h2:=c2 q hpos (Nat.le_refl _)
   rw [hKq,headK] at h2
   have hp:=ho.1
   rw [hsplit,List.flatMap_append,List.flatMap_cons,List.pairwise_append] at hp
   cases hw:wkE S h (D.getD q 0) with
   | nil=>exact absurd hw hne
   | cons e l=>
    rw [hw] at h2 hp
    have h1:=after_less (hp.2.2 y hy e (mAl _ (List.mem_cons_self ..)))
    rw [c] at h1
    have h2:lessK x e.key=false:=h2
    rw [h1] at h2;cases h2
 ·have h1:=hC y hy
  rw [c,lessK_irr] at h1;cases h1
theorem rmN_leaf {v:VS}{a:Int}{k:KEY}:rmN 1 v a k=((giN v a).1,⟨delE (rdN v.S a true).E k,(rdN v.S a true).K,(rdN v.S a true).D⟩,0):=by rw [rmN,if_pos rfl]
theorem rmN_inner {v:VS}{a:Int}{k:KEY}{h:Nat}:rmN (h+2) v a k=rmS (decide (h=0)) (ndG (rdN v.S a false)) (childN (rdN v.S a false).K k) (rmN (h+1) (giN v a).1 ((rdN v.S a false).D.getD (childN (rdN v.S a false).K k) 0) k):=by
 rw [rmN,if_neg (Nat.succ_ne_zero h)]
 have hdd:decide (h+1=1)=decide (h=0):=decide_eq_decide.2 (by omega)
 rw [hdd];rfl
theorem jdN_few {leaf:Bool}{v:VS}{D:List Int}{i:Nat}{x:ND3}(hf:fewN leaf x=true)(h1:1<D.length):
  jdN leaf v D i x=((giN v (D.getD (nbO D.length i) 0)).1,if i+1=D.length then appN (ndG (rdN v.S (D.getD (nbO D.length i) 0) leaf)) x else appN x (ndG (rdN v.S (D.getD (nbO D.length i) 0) leaf)),nbF D.length i,2):=by
 rw [jdN,if_pos ⟨hf,h1⟩];rfl
theorem jdN_not {leaf:Bool}{v:VS}{D:List Int}{i:Nat}{x:ND3}(h:fewN leaf x=false):jdN leaf v D i x=(v,x,i,1):=by
 rw [jdN,if_neg (fun c=>by rw [h] at c;exact absurd c.1 (by decide))]
theorem split_at {D:List Int}{q:Nat}(h:q<D.length):D=D.take q++D.getD q 0::D.drop (q+1):=by rw [getD_at h,List.getElem_cons_drop,List.take_append_drop]
theorem ordE.ent {S:DS}{h:Nat}{y:ND3}(ho:ordE (entX S h y)): ∀e∈y.E,entR e:=fun e he=>(ho.2 e (by rw [entX];exact mAl _ he)).2
theorem take_one {D:List Int}{i:Nat}(h:i<D.length):D.take (i+1)=D.take i++ [D.getD i 0] :=by
 rw [List.take_add_one,gDe,gEe h];rfl
theorem permL (X A Z R:List Nat):(X++((A++Z)++R)).Perm (Z++(X++(A++R))):=by
 rw [List.perm_iff_count];intro a;simp only [List.count_append];omega
theorem permR (X A Z C R:List Nat):(X++(A++((Z++C)++R))).Perm (Z++(X++(A++(C++R)))):=by
 rw [List.perm_iff_count];intro a;simp only [List.count_append];omega
theorem after_ne {a b:ENT}(h:afterE a b=true):a.key≠b.key:=fun c=>by
 have h1:=after_less h
 rw [c,lessK_irr] at h1;cases h1
theorem del_once: ∀{E:List ENT} (_:E.Pairwise (fun a b=>afterE a b=true)) (k:KEY),E.length≤(delE E k).length+1
 | [],_,k=>Nat.zero_le _
 | e::E,h,k=>by
  rw [List.pairwise_cons] at h
  by_cases hk:e.key=k
  ·have hn:delE E k=E:=delE_none (List.any_eq_false.2 (fun y hy c=>after_ne (h.1 y hy) (by rw [hk,of_decide_eq_true c])))
   have:delE (e::E) k=delE E k:=by rw [delE,List.filter_cons,dTt hk];rfl
   rw [this,hn];exact Nat.le_refl _
  ·have:delE (e::E) k=e::delE E k:=by rw [delE,List.filter_cons,dFf hk];rfl
   rw [this,lCn,lCn]
   have:=del_once h.2 k
   omega
theorem rm_spec {k:Nat}{mu:Nat→Nat}{O:List Nat}{x:KEY}(hmu: ∀h,mu (h+1)≤limN h)(hmu2: ∀h,2≤mu (h+1))(hmu3:mu 1≤3): ∀(h m:Nat) (v:VS) (a:Int) (U R:List Nat),(h=0∨2≤m)→VG k U O v→tkG v.S k mu (h+1) m a→U.Perm (pgN v.S (h+1) a++R)→ordE (wkE v.S (h+1) a)→v.S.W.length+8*h≤600000→
  rmG (h+1) v a x∧(RmR k mu O h m v.S U R (delE (wkE v.S (h+1) a) x) (rmN (h+1) v a x)∨((rmN (h+1) v a x).2.2=5∧ ¬Fre k U O (2*h)))
 | 0,m,v,a,U,R,hml,hv,g,hU,ho,hW=>by
  have hrd:=rdG_of hv g hU (by omega)
  have gx:=(tkG_okX g).Z
  obtain⟨⟨p,hp,hp2⟩,g1,g2,g3,⟨g4,g5,g6⟩,g7,g8⟩:=g
  obtain⟨hK,hD⟩:=g3
  have hd1:decide ((0:Nat)=0)=true:=rfl
  rw [hd1] at g1 g4 g5 g6 hK hD
  have hK':(rdN v.S a true).K= [] :=hK
  have hD':(rdN v.S a true).D= [] :=hD
  have hEl:(rdN v.S a true).E.length≤7:=g6
  have hEm:m≤(rdN v.S a true).E.length:=g5
  have hpg:pgN v.S (0+1) a= [p] :=by
   show a.toNat::(rdN v.S a true).D.flatMap _= [p]
   rw [hD',hp];rfl
  have hwk:wkE v.S (0+1) a=(rdN v.S a true).E:=by
   show (rdN v.S a true).E++(rdN v.S a true).D.flatMap _=_
   rw [hD',List.flatMap_nil,List.append_nil]
  rw [hpg] at hU
  have hU:U.Perm (p::R):=hU
  obtain⟨v',e1,e2,hv'⟩:=(hv.perm hU).give
  rw [←hp] at e1
  refine⟨⟨hrd,fun c=>absurd rfl c⟩, .inl ?_⟩
  rw [rmN_leaf,e1,hK',hD',hwk]
  rw [hwk] at ho
  refine⟨rfl,⟨R,hv',List.Perm.refl _,fun n hn=>(hn.le (Nat.le_add_right _ _)).sub (fun i hi=>hU.mem_iff.2 (mCm _ hi))⟩, ?_,⟨⟨rfl,rfl⟩,(fun d hd=>by cases hd),rfl⟩, ?_, ?_, ?_, ?_⟩
  ·show same v.S v'.S _
   rw [e2];exact same.rfl
  ·show m≤(delE (rdN v.S a true).E x).length+1
   have hc:(rdN v.S a true).E.length≤(delE (rdN v.S a true).E x).length+1:=del_once ho.1 x
   omega
  ·show (delE (rdN v.S a true).E x).length≤7
   have:=delE_len (rdN v.S a true).E x
   omega
  ·show delE (rdN v.S a true).E x++ [] =_
   rw [List.append_nil]
  ·show v'.S.W.length≤_
   rw [e2];exact Nat.le_refl _
 | h+1,m,v,a,U,R,hml,hv,g,hU,ho,hW=>by
  have hrd:=rdG_of hv g hU (by omega)
  obtain⟨⟨p,hp,hp2⟩,g1,g2,g3,⟨g4,g5,g6⟩,g7,g8⟩:=g
  have hd1:decide (h+1=0)=false:=rfl
  have hdd:decide (h+1=1)=decide (h=0):=decide_eq_decide.2 (by omega)
  have hm2:2≤m:=hml.resolve_left (Nat.succ_ne_zero h)
  rw [hd1] at g1 g3 g4 g5 g6 g7 g8
  obtain⟨hE,hKD⟩:=g3
  have hE':(rdN v.S a false).E= [] :=hE
  have hrdi:rdG (decide (h+1=0)) v a:=hrd
  obtain⟨N,hN⟩: ∃N,N=rdN v.S a false:=⟨_,rfl⟩
  have hpg:pgN v.S (h+1+1) a=p::N.D.flatMap (pgN v.S (h+1)):=by
   show a.toNat::(rdN v.S a false).D.flatMap _=_
   rw [hN,hp];rfl
  have hwk:wkE v.S (h+1+1) a=N.D.flatMap (wkE v.S (h+1)):=by
   show (rdN v.S a false).E++(rdN v.S a false).D.flatMap _=_
   rw [hE',hN,nAp]
  rw [hpg] at hU
  have hU:U.Perm (p::(N.D.flatMap (pgN v.S (h+1))++R)):=hU
  obtain⟨v1,e1,e2,hv1⟩:=(hv.perm hU).give
  rw [←hp] at e1
  rw [rmG,rmN_inner,e1, ←hN,hdd]
  rw [←hN] at g4 g5 g6 g7 g8 hE hKD hE'
  rw [hwk] at ho ⊢
  have hDl:0<N.D.length:=g4
  have hDm:m≤N.D.length:=g5
  have hD16:N.D.length≤16:=g6
  obtain⟨hnA,hnC⟩:=child_else (x:=x) g7 g8 hDl ho
  have hKl:N.K.length=N.D.length:=by rw [g8,List.length_map]
  have hql:=(child_spec (K:=N.K) x (by omega)).1
  obtain⟨q,hq⟩: ∃q,q=childN N.K x:=⟨_,rfl⟩
  rw [←hq] at hql hnA hnC ⊢
  have hql:q<N.D.length:=by omega
  have hsp:=split_at hql
  obtain⟨d,hd⟩: ∃d,d=N.D.getD q 0:=⟨_,rfl⟩
  rw [←hd] at hsp ⊢
  obtain⟨D1,hD1⟩: ∃D1,D1=N.D.take q:=⟨_,rfl⟩
  obtain⟨D2,hD2⟩: ∃D2,D2=N.D.drop (q+1):=⟨_,rfl⟩
  have hD1l:D1.length=q:=by rw [hD1,lTk];omega
  have hD2l:D2.length=N.D.length-(q+1):=by rw [hD2,lDp]
  rw [←hD1, ←hD2] at hsp
  rw [←hD1] at hnA
  rw [←hD2] at hnC
  have hdm:d∈N.D:=by rw [hsp];exact mAr _ (List.mem_cons_self ..)
  have hm1: ∀z∈D1,z∈N.D:=fun z hz=>by rw [hsp];exact mAl _ hz
  have hm2': ∀z∈D2,z∈N.D:=fun z hz=>by rw [hsp];exact mAr _ (mCm _ hz)
  have hEs:N.D.flatMap (wkE v.S (h+1))=D1.flatMap (wkE v.S (h+1))++(wkE v.S (h+1) d++D2.flatMap (wkE v.S (h+1))):=by
   conv=>lhs;rw [hsp]
   rw [List.flatMap_append,List.flatMap_cons]
  have hPs:N.D.flatMap (pgN v.S (h+1))=D1.flatMap (pgN v.S (h+1))++(pgN v.S (h+1) d++D2.flatMap (pgN v.S (h+1))):=by
   conv=>lhs;rw [hsp]
   rw [List.flatMap_append,List.flatMap_cons]
  have hdel:delE (N.D.flatMap (wkE v.S (h+1))) x=D1.flatMap (wkE v.S (h+1))++(delE (wkE v.S (h+1) d) x++D2.flatMap (wkE v.S (h+1))):=by
   rw [hEs];exact delE_mid hnA hnC
  have hoE:=ho.del x
  rw [hdel] at hoE ⊢
  obtain⟨E',hE'eq⟩: ∃E',E'=D1.flatMap (wkE v.S (h+1))++(delE (wkE v.S (h+1) d) x++D2.flatMap (wkE v.S (h+1))):=⟨_,rfl⟩
  rw [←hE'eq] at hoE ⊢
  obtain⟨Rd,hRd⟩: ∃Rd,Rd=D1.flatMap (pgN v.S (h+1))++(D2.flatMap (pgN v.S (h+1))++R):=⟨_,rfl⟩
  have hU1:(N.D.flatMap (pgN v.S (h+1))++R).Perm (pgN v.S (h+1) d++Rd):=by
   rw [hPs,hRd,aAs,aAs]
   exact perm3 _ _ _
  have hfr1: ∀n,Fre k U O n→Fre k (N.D.flatMap (pgN v.S (h+1))++R) O n:=fun n hn=>hn.sub (fun i hi=>hU.mem_iff.2 (mCm _ hi))
  have hod:ordE (wkE v.S (h+1) d):=ho.sub (by rw [hEs];exact(List.sublist_append_left _ _).trans (List.sublist_append_right _ _))
  have ih:=rm_spec (x:=x) hmu hmu2 hmu3 h (mu (h+1)) v1 d _ Rd (.inr (hmu2 h)) hv1 (by rw [e2];exact g7 d hdm) (by rw [e2];exact hU1) (by rw [e2];exact hod) (by rw [e2];omega)
  rw [e2] at ih
  obtain⟨ihG,ih⟩:=ih
  obtain⟨V,hV⟩: ∃V,V=rmN (h+1) v1 d x:=⟨_,rfl⟩
  rw [←hV] at ih ⊢
  have hnE:decide (h+1=0)=false:=rfl
  rcases ih with ih | ⟨h5,hno⟩
  ·obtain⟨U2,hv2,hU2,hfr2⟩:=ih.vg
   have hsV:=ih.sm
   have hts: ∀z,(z∈D1∨z∈D2)→tkG V.1.S k mu (h+1) (mu (h+1)) z∧wkE V.1.S (h+1) z=wkE v.S (h+1) z∧pgN V.1.S (h+1) z=pgN v.S (h+1) z:=by
    intro z hz
    refine tk_same (h+1) (mu (h+1)) z (g7 z (hz.elim (hm1 z) (hm2' z))) (hsV.sub (fun b hb=>?_))
    rw [hRd]
    rcases hz with hz | hz
    ·exact mAl _ (mAl _ (List.mem_flatMap.2 ⟨z,hz,hb⟩))
    ·exact mAl _ (mAr _ (mAl _ (List.mem_flatMap.2 ⟨z,hz,hb⟩)))
   have hf1:D1.flatMap (wkE V.1.S (h+1))=D1.flatMap (wkE v.S (h+1)):=flat_congr (fun z hz=>(hts z (.inl hz)).2.1)
   have hf2:D2.flatMap (wkE V.1.S (h+1))=D2.flatMap (wkE v.S (h+1)):=flat_congr (fun z hz=>(hts z (.inr hz)).2.1)
   have hp1:D1.flatMap (pgN V.1.S (h+1))=D1.flatMap (pgN v.S (h+1)):=flat_congr (fun z hz=>(hts z (.inl hz)).2.2)
   have hp3:D2.flatMap (pgN V.1.S (h+1))=D2.flatMap (pgN v.S (h+1)):=flat_congr (fun z hz=>(hts z (.inr hz)).2.2)
   have hh1:D1.map (headK V.1.S (h+1))=D1.map (headK v.S (h+1)):=List.map_congr_left (fun z hz=>by rw [headK,headK,(hts z (.inl hz)).2.1])
   have hh2:D2.map (headK V.1.S (h+1))=D2.map (headK v.S (h+1)):=List.map_congr_left (fun z hz=>by rw [headK,headK,(hts z (.inr hz)).2.1])
   have hEq:D1.flatMap (wkE V.1.S (h+1))++(entX V.1.S h V.2.1++D2.flatMap (wkE V.1.S (h+1)))=E':=by rw [hf1,hf2,ih.ents,hE'eq]
   rw [hRd, ←hp1, ←hp3] at hU2
   have hKt:N.K.take q=D1.map (headK V.1.S (h+1)):=by rw [hh1,g8,hD1,List.map_take]
   have hKd:N.K.drop (q+1)=D2.map (headK V.1.S (h+1)):=by rw [hh2,g8,hD2,List.map_drop]
   have hsR:same v.S V.1.S (R++O):=hsV.sub (fun b hb=>by
    rcases List.mem_append.1 hb with c | c
    ·rw [hRd];exact mAl _ (mAr _ (mAr _ c))
    ·exact mAr _ c)
   have hlo:=ih.lo
   have hhi:=ih.hi
   have hmu2h:=hmu2 h
   have hx1:1≤szN (decide (h=0)) V.2.1:=by omega
   have hmp:mostN (decide (h=0))≤16:=by
    cases decide (h=0)<;>decide
   have hfrV: ∀n,Fre k U O (n+2*(h+1))→Fre k U2 O (n+2):=fun n hn=>hfr2 _ (hfr1 _ (hn.le (by omega)))
   have hWV:=ih.W
   have hgx:=ih.ok
   rw [rmS,if_pos ih.e]
   have h1D:1<N.D.length:=by omega
   obtain⟨yN,hyN⟩: ∃yN:ND3,yN=ndG N:=⟨_,rfl⟩
   have hyD:(ndG N).D=N.D:=rfl
   have hyK:(ndG N).K=N.K:=rfl
   cases hf:fewN (decide (h=0)) V.2.1 with
   | false=>
    have hj:=jdN_not (v:=V.1) (D:=N.D) (i:=q) hf
    rw [hyD,hj]
    have hfin:=rm_fin (O:=O) (U:=U) (R:=R) (m:=m) (S0:=v.S) (y:=ndG N) (fr:=q) (ct:=1) (hmu h) hv2 hU2 (hgx.X hx1) (few_not hmu hmu3 hf) (by omega) (fun z hz=>(hts z hz).1) hE' hD1.symm hD2.symm hKt hKd hEq hoE hsR hWV (by omega) ⟨by omega, .inr hhi⟩ hfrV
    refine⟨⟨hrdi,fun _=>⟨hql,ihG,fun _=>⟨hv2.ok,hgx.1,by omega,(fun c=>by rw [hf] at c;cases c), ?_, ?_, ?_, ?_⟩⟩⟩,hfin⟩
    ·rw [hj];exact hx1
    ·rw [hj];show szN _ V.2.1≤1000;omega
    ·rw [hj]
     exact ordE.ent (h:=h) (S:=V.1.S) (by rw [ih.ents];exact hod.del x)
    ·rw [hj];show V.1.S.W.length≤700000;omega
   | true=>
    have hj:=jdN_few (v:=V.1) (i:=q) hf h1D
    have hfs:=few_small hf
    have key: ∀(A C:List Int) (dn:Int) (X:ND3) (o fr:Nat),nbO N.D.length q=o→N.D.getD o 0=dn→(dn∈D1∨dn∈D2)→(∀z,(z∈A∨z∈C)→(z∈D1∨z∈D2))→
      jdN (decide (h=0)) V.1 N.D q V.2.1=((giN V.1 dn).1,X,fr,2)→okZ V.1.S k mu h X→szN (decide (h=0)) X=szN (decide (h=0)) (ndG (rdN V.1.S dn (decide (h=0))))+szN (decide (h=0)) V.2.1→
      U2.Perm (pgN V.1.S (h+1) dn++(pagX V.1.S h V.2.1++(A.flatMap (pgN V.1.S (h+1))++(C.flatMap (pgN V.1.S (h+1))++R))))→
      (pagX V.1.S h (ndG (rdN V.1.S dn (decide (h=0))))++pagX V.1.S h V.2.1).Perm (pagX V.1.S h X)→
      A.flatMap (wkE V.1.S (h+1))++(entX V.1.S h X++C.flatMap (wkE V.1.S (h+1)))=E'→N.D.take fr=A→N.D.drop (fr+2)=C→A.length+C.length+2=N.D.length→
      rmG (h+1+1) v a x∧(RmR k mu O (h+1) m v.S U R E' (reN (decide (h=0)) (jdN (decide (h=0)) V.1 N.D q V.2.1).1 (ndG N) (jdN (decide (h=0)) V.1 N.D q V.2.1).2.2.1 (jdN (decide (h=0)) V.1 N.D q V.2.1).2.2.2 (splitN (decide (h=0)) (jdN (decide (h=0)) V.1 N.D q V.2.1).2.1))
       ∨((reN (decide (h=0)) (jdN (decide (h=0)) V.1 N.D q V.2.1).1 (ndG N) (jdN (decide (h=0)) V.1 N.D q V.2.1).2.2.1 (jdN (decide (h=0)) V.1 N.D q V.2.1).2.2.2 (splitN (decide (h=0)) (jdN (decide (h=0)) V.1 N.D q V.2.1).2.1)).2.2=5∧ ¬Fre k U O (2*(h+1)))):=by
     intro A C dn X o fr k1 k2 k3 k4 k5 k6 k7 k8 k9 k10 k11 k12 k13
     have gd:=(hts dn k3).1
     have hzs:=gd.2.2.2.2.1
     have gd':=gd
     obtain⟨⟨p',hp',_⟩,_⟩:=gd'
     have hrdn:=rdG_of hv2 gd k8 (by omega)
     have hpgd:pgN V.1.S (h+1) dn=p'::pagX V.1.S h (ndG (rdN V.1.S dn (decide (h=0)))):=by rw [pgN_succ,hp'];rfl
     have hP:U2.Perm (p'::(pagX V.1.S h X++(A.flatMap (pgN V.1.S (h+1))++(C.flatMap (pgN V.1.S (h+1))++R)))):=by
      refine k8.trans ?_
      rw [hpgd,cAp, ←aAs]
      exact List.Perm.cons p' (List.Perm.append_right _ k9)
     obtain⟨VJ,eJ,eJS,hvJ⟩:=(hv2.perm hP).give
     rw [←hp'] at eJ
     rw [eJ] at k5
     have k5:jdN (decide (h=0)) V.1 N.D q V.2.1=(VJ,X,fr,2):=k5
     have hoX:ordE (entX VJ.S h X):=by
      rw [eJS]
      exact hoE.sub (by rw [←k10];exact(List.sublist_append_left _ _).trans (List.sublist_append_right _ _))
     have hX1:1≤szN (decide (h=0)) X:=by omega
     have hsplitK: ∀B:List Int,(∀z∈B,z∈D1∨z∈D2)→B.map (headK v.S (h+1))=B.map (headK V.1.S (h+1)):=fun B hB=>List.map_congr_left (fun z hz=>by rw [headK,headK,(hts z (hB z hz)).2.1])
     have hfin:=rm_fin (O:=O) (U:=U) (R:=R) (m:=m) (S0:=v.S) (X:=X) (y:=ndG N) (A:=A) (C:=C) (fr:=fr) (ct:=2) (E':=E') (hmu h) hvJ (by rw [eJS]) (by rw [eJS];exact k6.X hX1) (by omega) (by omega) (fun z hz=>by rw [eJS];exact(hts z (k4 z hz)).1) hE' k11 k12
      (by rw [eJS,hyK,g8, ←List.map_take,k11,hsplitK A (fun z hz=>k4 z (.inl hz))]) (by rw [eJS,hyK,g8, ←List.map_drop,k12,hsplitK C (fun z hz=>k4 z (.inr hz))]) (by rw [eJS];exact k10) hoE (by rw [eJS];exact hsR) (by rw [eJS];exact hWV) (by omega) ⟨by omega, .inl (by omega)⟩
      (fun n hn=>(hfrV n hn).sub (fun i hi=>hP.mem_iff.2 (mCm _ hi)))
     rw [k5]
     refine⟨⟨hrdi,fun _=>?_⟩,hfin⟩
     rw [hdd, ←hN,e1, ←hq, ←hd, ←hV]
     refine⟨hql,ihG,fun _=>⟨hv2.ok,hgx.1,by omega,(fun _ _=>by rw [k1,k2];exact hrdn), ?_, ?_, ?_, ?_⟩⟩
     ·rw [k5];exact hX1
     ·rw [k5];show szN _ X≤1000;omega
     ·rw [k5];exact ordE.ent hoX
     ·rw [k5];show VJ.S.W.length≤700000;rw [eJS];omega
    by_cases hlast:q+1=N.D.length
    ·have hq1:q-1<N.D.length:=by omega
     have hqq:q-1+1=q:=by omega
     obtain⟨dn,hdn⟩: ∃dn,dn=N.D.getD (q-1) 0:=⟨_,rfl⟩
     have hoO:nbO N.D.length q=q-1:=by rw [nbO,if_pos hlast]
     have hoF:nbF N.D.length q=q-1:=by rw [nbF,if_pos hlast]
     have hD1s:D1=N.D.take (q-1)++ [dn] :=by
      rw [hD1]
      conv=>lhs;rw [←hqq]
      rw [take_one hq1, ←hdn]
     have hD2n:D2= [] :=List.eq_nil_of_length_eq_zero (by omega)
     have hdnm:dn∈D1:=by rw [hD1s];exact mAr _ (List.mem_singleton.2 rfl)
     have gd:=(hts dn (.inl hdnm)).1
     have gz:=(tkG_okX gd).Z
     have hj2:=hj
     rw [hoO,hoF,if_pos hlast, ←hdn] at hj2
     have r:=key (N.D.take (q-1)) [] dn _ (q-1) (q-1) hoO hdn.symm (.inl hdnm) (fun z hz=> .inl (by
      rcases hz with hz | hz
      ·rw [hD1s];exact mAl _ hz
      ·cases hz)) hj2 (okZ_app gz hgx) (szN_app _ _) (by
      refine hU2.trans ?_
      rw [hD1s,hD2n,List.flatMap_append,List.flatMap_cons,List.flatMap_nil,List.append_nil,nAp]
      exact permL _ _ _ _) (by rw [pagX_app]) (by
      rw [←hEq,hD1s,hD2n,entX_app gz.1 hgx.1,List.flatMap_append,List.flatMap_cons,List.flatMap_nil,wkE_succ V.1.S h dn]
      simp only [aAs,List.append_nil,nAp]) rfl (List.drop_of_length_le (by omega)) (by rw [lTk];show _+0+2=_;omega)
     obtain⟨r1,r2⟩:=r
     rw [rmG,e1, ←hN,hdd, ←hq, ←hd, ←hV] at r1
     exact⟨r1,r2⟩
    ·have hq1:q+1<N.D.length:=by omega
     obtain⟨dn,hdn⟩: ∃dn,dn=N.D.getD (q+1) 0:=⟨_,rfl⟩
     have hoO:nbO N.D.length q=q+1:=by rw [nbO,if_neg hlast]
     have hoF:nbF N.D.length q=q:=by rw [nbF,if_neg hlast]
     have hD2s:D2=dn::N.D.drop (q+2):=by
      rw [hD2,hdn,getD_at hq1];exact List.drop_eq_getElem_cons hq1
     have hdnm:dn∈D2:=by rw [hD2s];exact List.mem_cons_self ..
     have gd:=(hts dn (.inr hdnm)).1
     have gz:=(tkG_okX gd).Z
     have hj2:=hj
     rw [hoO,hoF,if_neg hlast, ←hdn] at hj2
     have r:=key D1 (N.D.drop (q+2)) dn _ (q+1) q hoO hdn.symm (.inr hdnm) (fun z hz=>by
      rcases hz with hz | hz
      ·exact .inl hz
      ·exact .inr (by rw [hD2s];exact mCm _ hz)) hj2 (okZ_app hgx gz) (by rw [szN_app];exact Nat.add_comm _ _) (by
      refine hU2.trans ?_
      rw [hD2s,List.flatMap_cons]
      exact permR _ _ _ _ _) (by rw [pagX_app];exact List.perm_append_comm) (by
      rw [←hEq,hD2s,entX_app hgx.1 gz.1,List.flatMap_cons,wkE_succ V.1.S h dn]
      simp only [aAs]) hD1.symm rfl (by rw [lDp];omega)
     obtain⟨r1,r2⟩:=r
     rw [rmG,e1, ←hN,hdd, ←hq, ←hd, ←hV] at r1
     exact⟨r1,r2⟩
  ·have hrs:rmS (decide (h=0)) (ndG N) q V=(V.1,nd0,V.2.2):=by rw [rmS,if_neg (by rw [h5];decide)]
   refine⟨⟨hrdi,fun _=>⟨hql,ihG,(fun c=>by rw [h5] at c;cases c)⟩⟩, .inr ⟨?_,fun c=>hno (hfr1 _ (c.le (by omega)))⟩⟩
   rw [hrs];exact h5
theorem find_no {A:List ENT}{x:KEY}(h: ∀y∈A,y.key≠x):A.find? (fun y=>decide (y.key=x))=none:=by
 rw [List.find?_eq_none]
 intro y hy c
 exact h y hy (of_decide_eq_true c)
theorem fdE_mid {A B C:List ENT}{x:KEY}(hA: ∀y∈A,y.key≠x)(hC: ∀y∈C,y.key≠x):fdE (A++(B++C)) x=fdE B x:=by
 rw [fdE,fdE,List.find?_append,List.find?_append,find_no hA,find_no hC,Option.none_or,Option.or_none]
theorem fd_spec {S:DS}{k:Nat}{mu:Nat→Nat}{x:KEY}(hk:k≤512): ∀(h m:Nat) (a:Int),tkG S k mu (h+1) m a→ordE (wkE S (h+1) a)→fdG S (h+1) a x∧fdN S (h+1) a x=fdE (wkE S (h+1) a) x
 | 0,m,a,g,ho=>by
  have hwg:=tk_wkG hk (0+1) m a g
  obtain⟨⟨p,hp,hp2⟩,g1,g2,g3,⟨g4,g5,g6⟩,g7,g8⟩:=g
  have hD':(rdN S a true).D= [] :=g3.2
  have hK':(rdN S a true).K= [] :=g3.1
  have hwk:wkE S (0+1) a=(rdN S a true).E:=by
   show (rdN S a true).E++(rdN S a true).D.flatMap _=_
   rw [hD',List.flatMap_nil,List.append_nil]
  refine⟨⟨by omega,g1,hwg.2.2.1, ?_,fun c=>absurd rfl c⟩, ?_⟩
  ·show (rdN S a true).K.length≤1000
   rw [hK'];exact Nat.zero_le _
  ·rw [fdN,if_pos rfl,hwk]
 | h+1,m,a,g,ho=>by
  have hwg:=tk_wkG hk (h+1+1) m a g
  obtain⟨⟨p,hp,hp2⟩,g1,g2,g3,⟨g4,g5,g6⟩,g7,g8⟩:=g
  have hd1:decide (h+1=0)=false:=rfl
  have hD1000:=hwg.2.2.2.1
  have hE1000:=hwg.2.2.1
  have hgg1:=g1
  rw [hd1] at g3 g4 g7 g8 hD1000
  have hE':(rdN S a false).E= [] :=g3.1
  obtain⟨N,hN⟩: ∃N,N=rdN S a false:=⟨_,rfl⟩
  rw [←hN] at g4 g7 g8 hD1000 hE'
  have hwk:wkE S (h+1+1) a=N.D.flatMap (wkE S (h+1)):=by
   show (rdN S a false).E++(rdN S a false).D.flatMap _=_
   rw [←hN,hE',nAp]
  have hDl:0<N.D.length:=g4
  have hKl:N.K.length=N.D.length:=by rw [g8,List.length_map]
  rw [hwk] at ho ⊢
  obtain⟨hnA,hnC⟩:=child_else (x:=x) g7 g8 hDl ho
  have hql:=(child_spec (K:=N.K) x (by omega)).1
  have hql':childN N.K x<N.D.length:=by omega
  have hsp:=split_at hql'
  have hdm:N.D.getD (childN N.K x) 0∈N.D:=by rw [getD_at hql'];exact List.getElem_mem hql'
  have hEs:N.D.flatMap (wkE S (h+1))=(N.D.take (childN N.K x)).flatMap (wkE S (h+1))++(wkE S (h+1) (N.D.getD (childN N.K x) 0)++(N.D.drop (childN N.K x+1)).flatMap (wkE S (h+1))):=by
   conv=>lhs;rw [hsp]
   rw [List.flatMap_append,List.flatMap_cons]
  obtain⟨i1,i2⟩:=fd_spec (x:=x) hk h (mu (h+1)) (N.D.getD (childN N.K x) 0) (g7 _ hdm) (ho.sub (by
   conv=>rhs;rw [hEs]
   exact(List.sublist_append_left _ _).trans (List.sublist_append_right _ _)))
  refine⟨⟨by omega,hgg1,hE1000, ?_,fun _=>?_⟩, ?_⟩
  ·rw [hd1, ←hN];omega
  ·rw [←hN];exact⟨hql',i1⟩
  ·rw [fdN,if_neg (Nat.succ_ne_zero h), ←hN,i2]
   conv=>rhs;rw [hEs]
   rw [fdE_mid hnA hnC]
theorem fdE_mem {E:List ENT}(ho:E.Pairwise (fun a b=>afterE a b=true)){y:ENT}(hy:y∈E):fdE E y.key=(y,0):=by
 obtain⟨A,C,rfl⟩:=List.append_of_mem hy
 rw [List.pairwise_append] at ho
 have hA: ∀z∈A,z.key≠y.key:=fun z hz=>after_ne (ho.2.2 z hz y (List.mem_cons_self ..))
 have e:A++y::C=A++([y] ++C):=rfl
 rw [fdE,List.find?_append,find_no hA,Option.none_or,List.find?_cons,dTt rfl]
theorem lw_G {k:Nat}{mu:Nat→Nat}{O:List Nat}: ∀(h m:Nat) (v:VS) (a:Int) (U R:List Nat),VG k U O v→tkG v.S k mu h m a→U.Perm (pgN v.S h a++R)→lwG h v a
 | 0,_,_,_,_,_,_,g,_=>trivial
 | 1,_,_,_,_,_,_,g,_=>trivial
 | h+2,m,v,a,U,R,hv,g,hU=>by
  have hwg:=tk_wkG hv.k8.2 (h+2) m a g
  have hk:=hv.k8.2
  obtain⟨⟨p,hp,hp2⟩,g1,g2,g3,⟨g4,g5,g6⟩,g7,g8⟩:=g
  have hd1:decide (h+1=0)=false:=rfl
  have hD1000:=hwg.2.2.2.1
  rw [hd1] at g1 g3 g4 g7 hD1000
  obtain⟨N,hN⟩: ∃N,N=rdN v.S a false:=⟨_,rfl⟩
  have hpg:pgN v.S (h+1+1) a=p::N.D.flatMap (pgN v.S (h+1)):=by
   show a.toNat::(rdN v.S a false).D.flatMap _=_
   rw [hN,hp];rfl
  have hDl:0<N.D.length:=by rw [hN];exact g4
  have hU:U.Perm (p::(N.D.flatMap (pgN v.S (h+1))++R)):=by
   refine hU.trans ?_
   rw [hpg];exact List.Perm.refl _
  obtain⟨v1,e1,e2,hv1⟩:=(hv.perm hU).give
  rw [←hp] at e1
  have hsp:=split_at hDl
  rw [List.take_zero,nAp] at hsp
  have hdm:N.D.getD 0 0∈N.D:=by rw [getD_at hDl];exact List.getElem_mem hDl
  refine⟨by omega,g1,g4,hD1000,by rw [e1], ?_⟩
  rw [e1, ←hN]
  refine lw_G (h+1) (mu (h+1)) v1 (N.D.getD 0 0) _ ((N.D.drop 1).flatMap (pgN v.S (h+1))++R) hv1 (by rw [e2];exact g7 _ (by rw [←hN];exact hdm)) ?_
  rw [e2, ←aAs]
  refine List.Perm.append_right R ?_
  conv=>lhs;rw [hsp]
  rw [List.flatMap_cons]
theorem ti_fd {k:Nat}{mu:Nat→Nat}{O R:List Nat}{v:VS}{a:Int}{h:Nat}{E:List ENT}(x:KEY)(ti:TI k mu O R v a h E):fdG v.S h a x∧fdN v.S h a x=fdE E x:=by
 have hk:=ti.vg.k8.2
 cases h with
 | zero=>
  have hE:E= [] :=ti.ents.symm
  subst hE
  exact⟨trivial,rfl⟩
 | succ g=>
  have tg:=ti.g.resolve_left (Nat.succ_ne_zero g)
  have h:=fd_spec (x:=x) hk g (rmin (g+1)) a tg (by rw [ti.ents];exact ti.ord)
  rw [ti.ents] at h
  exact h
theorem jdN_ok {leaf:Bool}{v:VS}{D:List Int}{i:Nat}{x:ND3}(h:v.ok):(jdN leaf v D i x).1.ok:=by
 rw [jdN];split
 ·exact giN_ok h _
 ·exact h
theorem rmN_ok: ∀(h:Nat) {v:VS} (a:Int) (k:KEY),v.ok→(rmN h v a k).1.ok
 | 0,v,a,k,hv=>hv
 | h+1,v,a,k,hv=>by
  rw [rmN]
  split
  ·exact giN_ok hv a
  ·have ih:=rmN_ok h ((rdN v.S a false).D.getD (childN (rdN v.S a false).K k) 0) k (giN_ok hv a)
   rw [rmS];split
   ·rw [reN];split
    ·exact unGo_ok _ _ (jdN_ok ih)
    ·exact unGo_ok _ _ (jdN_ok ih)
   ·exact ih
theorem tk_le {S:DS}{k:Nat}{mu:Nat→Nat}{h m m':Nat}{a:Int}(hm:m'≤m)(g:tkG S k mu h m a):tkG S k mu h m' a:=by
 cases h with
 | zero=>exact g.elim
 | succ h=>
  obtain⟨a1,a2,a3,a4,⟨a5,a6,a7⟩,a8,a9⟩:=g
  exact⟨a1,a2,a3,a4,⟨a5,Nat.le_trans hm a6,a7⟩,a8,a9⟩
theorem lwN_tk {S:DS}{k:Nat}{mu:Nat→Nat}{v:VS}{h:Nat}{a:Int}(hmu2: ∀h,2≤mu (h+1))(g:tkG v.S k mu h (mu h) a):lwN h v a=(v,(a,h),0):=by
 cases h with
 | zero=>exact g.elim
 | succ h=>
  cases h with
  | zero=>rfl
  | succ h=>
   obtain⟨a1,a2,a3,a4,⟨a5,a6,a7⟩,a8,a9⟩:=g
   have hd1:decide (h+1=0)=false:=rfl
   rw [hd1] at a6
   have h2:=hmu2 (h+1)
   have a6:mu (h+1+1)≤(rdN v.S a false).D.length:=a6
   rw [lwN,if_pos (by omega)]
def DlR (k:Nat)(mu:Nat→Nat)(O R:List Nat)(v:VS)(a:Int)(h:Nat)(E:List ENT)(x:KEY):Prop:=
 (∃v' a' H,dlN v a h x=(v',((a':Int),H),0)∧TI k mu O R v' a' H (delE E x)∧(0≤a'∧a'≤511)∧v'.S.W.length≤v.S.W.length+60∧same v.S v'.S (R++O))∨((dlN v a h x).2.2=5∧ ¬Fre k (pgN v.S h a++R) O (2*h+3))
theorem dl_spec {k:Nat}{mu:Nat→Nat}{O R:List Nat}{v:VS}{a:Int}{h:Nat}{E:List ENT}{x:ENT}(hmu: ∀h,mu (h+1)≤limN h)(hmu2: ∀h,2≤mu (h+1))(hmu3:mu 1≤3)(ti:TI k mu O R v a h E)(hx:x∈E)(hW:v.S.W.length≤500000):
  dlG v a h x.key∧DlR k mu O R v a h E x.key:=by
 have hf:=ti_fd x.key ti
 rw [fdE_mem ti.ord.1 hx] at hf
 obtain⟨hfG,hfN⟩:=hf
 have h5:=ti.h5
 have hv:=ti.vg
 cases h with
 | zero=>
  have hE:E= [] :=ti.ents.symm
  rw [hE] at hx;cases hx
 | succ g=>
  have tg:=ti.g.resolve_left (Nat.succ_ne_zero g)
  have hdd:decide (g+1=1)=decide (g=0):=decide_eq_decide.2 (by omega)
  have hml:g=0∨2≤rmin (g+1):=by
   rcases Nat.eq_zero_or_pos g with q | q
   ·exact .inl q
   ·right;rw [rmin,if_neg (by omega)];exact Nat.le_refl _
  obtain⟨hrG,hr⟩:=rm_spec (x:=x.key) hmu hmu2 hmu3 g (rmin (g+1)) v a _ R hml hv tg (List.Perm.refl _) (by rw [ti.ents];exact ti.ord) (by omega)
  have hpk:=hv.k8
  unfold DlR
  rw [dlG,dlN,hfN,if_neg (fun c=>c rfl),hdd]
  rw [ti.ents] at hr
  obtain⟨V,hV⟩: ∃V,V=rmN (g+1) v a x.key:=⟨_,rfl⟩
  rw [←hV] at hr ⊢
  rcases hr with r | ⟨e5,hn⟩
  ·obtain⟨U',hv',hU',hfr⟩:=r.vg
   have hgz:=r.ok
   have hlo:=r.lo
   have hhi:=r.hi
   have hWr:=r.W
   have hsm:=r.sm
   have hod:=ti.ord.del x.key
   have hmp:mostN (decide (g=0))≤16:=by
    cases decide (g=0)<;>decide
   have hrd: ∀S:DS, ∀y∈V.2.1.E,entR y:=fun S=>ordE.ent (h:=g) (S:=V.1.S) (by rw [r.ents];exact hod)
   rw [if_pos r.e]
   suffices hs:roG 1 (decide (g=0)) V.1 (splitN (decide (g=0)) V.2.1) (g+1)∧((∃v' a' H,roN 1 (decide (g=0)) V.1 (splitN (decide (g=0)) V.2.1) (g+1)=(v',((a':Int),H),0)∧TI k mu O R v' a' H (delE E x.key)∧(0≤a'∧a'≤511)∧v'.S.W.length≤v.S.W.length+60∧same v.S v'.S (R++O))∨((roN 1 (decide (g=0)) V.1 (splitN (decide (g=0)) V.2.1) (g+1)).2.2=5∧ ¬Fre k (pgN v.S (g+1) a++R) O (2*(g+1)+3))) by
    exact⟨⟨h5,by omega,hfG,fun _=>⟨hrG,hv'.ok,fun _=>⟨hgz.1,by omega,hrd v.S,by omega,hs.1⟩⟩⟩,hs.2⟩
   rcases Nat.eq_zero_or_pos (szN (decide (g=0)) V.2.1) with hz | hz
   ·-- nothing is left
    have hg0:g=0:=by
     rcases hml with q | q
     ·exact q
     ·omega
    have hnil:=nil_of hgz.1 hz
    have hsp:splitN (decide (g=0)) V.2.1= [] :=by
     rw [splitN,hz,splN,if_pos hz]
    have hE':delE E x.key= [] :=by
     rw [←r.ents,hnil];rfl
    have hp:pagX V.1.S g V.2.1= [] :=by rw [hnil];rfl
    rw [hp,nAp] at hU'
    rw [hsp,hE']
    refine⟨⟨fun c=>absurd c (by decide),fun _ _=>⟨Nat.zero_le _,fun _ c=>by
     exact absurd c (by cases decide (g=0)<;>decide)⟩⟩, .inl ⟨V.1,0,0, ?_,⟨?_, .inl rfl,rfl,⟨List.Pairwise.nil,fun e he=>by cases he⟩,Nat.zero_le _⟩,⟨Int.le_refl _,by decide⟩,by omega,hsm⟩⟩
    ·rw [roN_fin (Nat.zero_le _),if_neg (by omega),sgN,if_pos (.inl rfl)]
    ·exact hv'.perm hU'
   ·have gX:=hgz.X hz
    have hsp:splitN (decide (g=0)) V.2.1= [V.2.1] :=spl_one _ hgz.1 hz hhi
    rw [hsp]
    by_cases h1:rmin (g+1)≤szN (decide (g=0)) V.2.1
    ·obtain⟨sG,hsg⟩:=sg_spec hv' hU' gX h1 hhi (by rw [r.ents];exact hod) h5
     rw [r.ents] at hsg
     refine⟨⟨fun c=>absurd c (by show ¬1<1;decide),fun _ _=>sG⟩, ?_⟩
     rw [roN_fin (by show 1≤1;decide),if_neg (by omega)]
     rcases hsg with ⟨v',t,e,ti',hW',hsm'⟩ | ⟨e5,hn⟩
     ·have ht:t≤511:=by
       obtain⟨p,hp,hp2,_⟩:=tk_page (ti'.g.resolve_left (Nat.succ_ne_zero g))
       omega
      exact .inl ⟨v',(t:Int),g+1,e,ti',⟨by omega,by omega⟩,by omega,hsm.trans hsm'⟩
     ·exact .inr ⟨e5,fun c=>hn (hfr 1 (c.le (by omega)))⟩
    ·-- the child is the root now
     obtain⟨j,rfl⟩: ∃j,g=j+1:=⟨g-1,by
      rcases Nat.eq_zero_or_pos g with q | q
      ·subst q;exact absurd hz h1
      ·omega⟩
     have hdj:decide (j+1=0)=false:=rfl
     rw [rmin,if_neg (by omega)] at h1
     rw [hdj] at hz h1 ⊢
     have h1: ¬2≤V.2.1.D.length:=h1
     have hz:0<V.2.1.D.length:=hz
     obtain⟨c,hc⟩: ∃c,V.2.1.D= [c] :=by
      cases hD:V.2.1.D with
      | nil=>rw [hD] at hz;exact absurd hz (by decide)
      | cons c l=>
       cases l with
       | nil=>exact⟨c,rfl⟩
       | cons c2 l=>rw [hD] at h1;exact absurd (by simp) h1
     have gc:=gX.2.2.1 c (by rw [hc];exact List.mem_singleton.2 rfl)
     have hE0:V.2.1.E= [] :=hgz.1.1
     have hpc:pagX V.1.S (j+1) V.2.1=pgN V.1.S (j+1) c:=by rw [pagX,hc];simp
     have hec:wkE V.1.S (j+1) c=delE E x.key:=by
      rw [←r.ents,entX,hE0,hc];simp
     rw [hpc] at hU'
     have hlw:=lwN_tk (S:=V.1.S) hmu2 gc
     have hlG:=lw_G (j+1) (mu (j+1)) V.1 c U' R hv' gc hU'
     obtain⟨p,hp,hp2,_⟩:=tk_page gc
     have hs1:szN false V.2.1=1:=by rw [szN_false,hc];rfl
     have hy0:([V.2.1] :List ND3).getD 0 nd0=V.2.1:=rfl
     have hmj:=hmu2 j
     refine⟨⟨fun c=>absurd c (by show ¬1<1;decide),fun _ _=>⟨Nat.le_refl _,fun _ _=>⟨by omega,by rw [hy0,hc];exact hlG⟩⟩⟩, .inl ⟨V.1,c,j+1, ?_,⟨hv'.perm hU', .inr (tk_le (by rw [rmin];split<;>omega) gc),hec,hod,by omega⟩,⟨by omega,by omega⟩,by omega,hsm⟩⟩
     rw [roN_fin (by show 1≤1;decide),if_neg (by omega),sgN,hy0,hs1,if_neg (fun c=>c.elim (fun q=>by cases q) (fun q=>by cases q)),if_pos ⟨rfl,rfl⟩,hc]
     exact hlw
  ·rw [if_neg (by rw [e5];decide)]
   exact⟨⟨h5,by omega,hfG,fun _=>⟨hrG,by rw [hV];exact rmN_ok _ _ _ hv.ok,fun c=>by rw [e5] at c;cases c⟩⟩, .inr ⟨e5,fun c=>hn (c.le (by omega))⟩⟩
theorem inv_unrun {k:Nat}{t:Nat}(h:8≤k∧k≤512): ∀(n:Nat) (m:BM) (R:List Nat),Inv k m (runL t n++R)→Inv k ⟨m.p,setFrom m.u false t n⟩ R
 | 0,m,R,i=>i
 | n+1,m,R,i=>by
  have e:runL t (n+1)=runL t n++ [t+n] :=by rw [runL,List.range'_concat];simp [runL]
  rw [e,aAs] at i
  have ih:=inv_unrun h n m ((t+n)::R) i
  exact(Inv.give (A:= []) ih h).2
theorem allUsed_of {m:BM}{t:Nat}(n:Nat)(h: ∀p,t≤p→p<t+n→useAt m.u p=true):allUsed m t n=true:=
 List.all_eq_true.2 (fun i hi=>h (t+i) (Nat.le_add_right _ _) (by have:=List.mem_range.1 hi;omega))
theorem give_run {k:Nat}{m:BM}{R:List Nat}{t n:Nat}(i:Inv k m (runL t n++R))(h:8≤k∧k≤512)(ht:2≤t∧t+n≤k):giveM m (t:Int) (n:Int)=(⟨m.p,setFrom m.u false t n⟩,0)∧Inv k ⟨m.p,setFrom m.u false t n⟩ R:=by
 have hp:=i.p
 refine⟨?_,inv_unrun h n m R i⟩
 have hu:allUsed m t n=true:=allUsed_of n (fun p h1 h2=>(i.use p).2 (.inr (mAl _ (runL_mem.2 ⟨h1,h2⟩))))
 rw [giveM,i.right h,dFf (show ¬(n:Int)<0 by omega),dFf (show ¬(t:Int)<2 by omega),dFf (show ¬m.p<(t:Int) by omega),dFf (show ¬m.p-(t:Int)<(n:Int) by omega)]
 show (if allUsed m t n then _ else _)=_
 rw [if_pos hu];rfl
theorem jdN_keep (leaf:Bool)(v:VS)(D:List Int)(i:Nat)(x:ND3):keepV v (jdN leaf v D i x).1:=by
 rw [jdN];split
 ·exact giN_keep v _
 ·exact keepV.rfl
theorem rmN_keep: ∀(h:Nat) (v:VS) (a:Int) (k:KEY),keepV v (rmN h v a k).1
 | 0,v,a,k=>keepV.rfl
 | h+1,v,a,k=>by
  rw [rmN]
  split
  ·exact giN_keep v a
  ·have ih:=(giN_keep v a).trans (rmN_keep h (giN v a).1 ((rdN v.S a false).D.getD (childN (rdN v.S a false).K k) 0) k)
   rw [rmS];split
   ·rw [reN];split
    ·exact(ih.trans (jdN_keep _ _ _ _ _)).trans (unN_keep _ _ _)
    ·exact(ih.trans (jdN_keep _ _ _ _ _)).trans (unN_keep _ _ _)
   ·exact ih
theorem dlN_keep (v:VS)(a:Int)(h:Nat)(k:KEY):keepV v (dlN v a h k).1:=by
 rw [dlN];split
 ·exact keepV.rfl
 ·split
  ·exact(rmN_keep h v a k).trans (roN_keep _ _ _ _ _)
  ·exact rmN_keep h v a k
theorem del_perm: ∀{E:List ENT} (_:E.Pairwise (fun a b=>afterE a b=true)) {y:ENT} (_:y∈E),E.Perm (y::delE E y.key)
 | [],_,y,hy=>by cases hy
 | e::E,h,y,hy=>by
  rw [List.pairwise_cons] at h
  by_cases he:e.key=y.key
  ·have hye:y=e:=by
    rcases List.mem_cons.1 hy with q | q
    ·exact q
    ·exact absurd he (after_ne (h.1 y q))
   subst hye
   have hn:delE E y.key=E:=delE_none (List.any_eq_false.2 (fun z hz c=>after_ne (h.1 z hz) (of_decide_eq_true c).symm))
   have:delE (y::E) y.key=delE E y.key:=by rw [delE,List.filter_cons,dTt rfl];rfl
   rw [this,hn]
  ·have hyE:y∈E:=by
    rcases List.mem_cons.1 hy with q | q
    ·exact absurd (by rw [q]) he
    ·exact q
   have:delE (e::E) y.key=e::delE E y.key:=by rw [delE,List.filter_cons,dFf he];rfl
   rw [this]
   exact(List.Perm.cons e (del_perm h.2 hyE)).trans (List.Perm.swap ..)
theorem txs_del {E:List ENT}(h:E.Pairwise (fun a b=>afterE a b=true)){y:ENT}(hy:y∈E):(txs E).Perm (txP y++txs (delE E y.key)):=List.Perm.flatMap_right _ (del_perm h hy)
def mapV (v:VS)(m:BM):VS:=⟨v.S,v.gen,m,v.old⟩
structure DropR (k:Nat)(mu:Nat→Nat)(S0:DS)(s:SP)(m:BM)(b h0:Nat)(E0:List ENT)(v:VS)(a:Int)(h:Nat)(E:List ENT)(y:ENT)(v1:VS)(a1:Int)(h1:Nat)(m3:BM):Prop where
 f:fdG v.S h a y.key∧fdN v.S h a y.key=(y,0)
 g:dlG v a h y.key
 d:dlN v a h y.key=(v1,(a1,h1),0)
 gv:giveM v1.m y.addr (pagesE y.len)=(m3,0)
 ok:v1.ok
 len:m3.u.length=512
 rm:rightM m3=true
 p:m3.p=v1.m.p
 xi:TXI k mu S0 s m b h0 E0 (mapV v1 m3) a1 h1 (delE E y.key)
 W:v1.S.W.length≤v.S.W.length+60
 txt: ∀z∈delE E y.key,txE v1.S z=txE v.S z
theorem drop_spec {k:Nat}{mu:Nat→Nat}{S0:DS}{s:SP}{m:BM}{b h0:Nat}{E0:List ENT}{v:VS}{a:Int}{h:Nat}{E:List ENT}{y:ENT}(hmu: ∀h,mu (h+1)≤limN h)(hmu2: ∀h,2≤mu (h+1))(hmu3:mu 1≤3)(X:TXI k mu S0 s m b h0 E0 v a h E)
  (hy:y∈E) (hW:v.S.W.length≤500000):
  (∃v1 a1 h1 m3,DropR k mu S0 s m b h0 E0 v a h E y v1 a1 h1 m3)∨(fdG v.S h a y.key∧fdN v.S h a y.key=(y,0)∧dlG v a h y.key∧(dlN v a h y.key).2.2=5∧ ¬Fre k (pgN v.S h a++(b::txs E)) (bsU S0 s b h0 E0) (2*h+3)):=by
 have ti:=X.ti
 have hord:=ti.ord
 have hfd:=ti_fd y.key ti
 rw [fdE_mem hord.1 hy] at hfd
 obtain⟨hG,hd⟩:=dl_spec hmu hmu2 hmu3 ti hy hW
 rcases hd with ⟨v1,a1,h1,e,ti1,ha1,hW1,hsm⟩ | ⟨e5,hn⟩
 ·refine .inl ⟨v1,a1,h1, ?_⟩
  have hv1:=ti1.vg
  have hk:=hv1.k8
  have hkp:=dlN_keep v a h y.key
  rw [e] at hkp
  obtain⟨kg,ko,kA⟩:=hkp
  have kg:v1.gen=v.gen:=kg
  have ko:v1.old=v.old:=ko
  have kA:v1.S.A=v.S.A:=kA
  have ht:=X.tx y hy
  have hb:=ht.bounds
  have hf:=ht.fit
  have hAk:v.S.A.length/256=k:=by rw [ti.vg.len,Nat.mul_div_cancel _ (by decide:0<256)]
  rw [hAk] at hf
  obtain⟨t,htt⟩: ∃t:Nat,y.addr=(t:Int):=⟨y.addr.toNat,by omega⟩
  have hpn:pagesE y.len=((nE y:Nat):Int):=by rw [nE,pagesE];omega
  have hyP:txP y=runL t (nE y):=by rw [txP,htt];rfl
  have hperm:(pgN v1.S h1 a1++(b::txs E)).Perm (runL t (nE y)++(pgN v1.S h1 a1++(b::txs (delE E y.key)))):=by
   have h2:=txs_del hord.1 hy
   rw [hyP] at h2
   refine(List.Perm.append_left _ (List.Perm.cons b h2)).trans ?_
   rw [List.perm_iff_count];intro z;simp only [List.count_append,List.count_cons];omega
  obtain⟨g1,g2⟩:=give_run (R:=pgN v1.S h1 a1++(b::txs (delE E y.key))) (inv_perm hv1.m hperm) hk ⟨by omega,by omega⟩
  refine⟨⟨v1.m.p,setFrom v1.m.u false t (nE y)⟩,hfd,hG,e,by rw [htt,hpn];exact g1,hv1.ok,g2.len,g2.right hk,rfl, ?_,hW1, ?_⟩
  ·have hsame: ∀z∈E,TxE v1.S z∧txE v1.S z=txE v.S z:=fun z hz=>(X.tx z hz).same (by rw [kA]) (fun p hp=>(hsm p (.inl (mAl _ (mCm _ (List.mem_flatMap.2 ⟨z,hz,hp⟩))))).1)
   refine⟨X.c,by show v1.gen=_;rw [kg,X.gen],by show v1.old=_;rw [ko,X.old],by show v1.S.A=_;rw [kA,X.A],X.sm.trans (hsm.sub (fun p hp=>mAr _ hp)), ?_,fun z hz=>(hsame z ((List.mem_filter.1 hz).1)).1⟩
   exact⟨⟨hk,hv1.on,hv1.len,hv1.gen,g2,hv1.o,hv1.w⟩,ti1.g,ti1.ents,ti1.ord,ti1.h5⟩
  ·intro z hz
   have hz':z∈E:=(List.mem_filter.1 hz).1
   exact((X.tx z hz').same (by rw [kA]) (fun p hp=>(hsm p (.inl (mAl _ (mCm _ (List.mem_flatMap.2 ⟨z,hz',hp⟩))))).1)).2
 ·exact .inr ⟨hfd.1,hfd.2,hG,e5,hn⟩
set_option maxRecDepth 4000 in
theorem txn_Drop (pt pb tv d pv:Nat)(v:VS)(a:Int)(h:Nat)(s:SP)(m:BM)(op:Bool)(k:KEY)(hv:v.ok)(hl:v.S.W.length≤1000000)(hm:m.u.length=512)(hh:h≤5)(y:ENT)(v1:VS)(a1:Int)(h1:Nat)(m3:BM)(hfG:fdG v.S h a k)(hfN:fdN v.S h a k=(y,0))(hG:dlG v a h k)(hD:dlN v a h k=(v1,(a1,h1),0))(hyl:0≤y.len∧y.len≤65535)(hgv:giveM v1.m y.addr (pagesE y.len)=(m3,0))(hv1:v1.ok)(hm3:m3.u.length=512)(hr3:rightM m3=true)(hp3:m3.p=v1.m.p):
  Gv.Spec Tryz.prog 41 #[.pointer (some ⟨pt,0,none⟩), .agg (keyL k).toArray] [blk pt 163 (txL pb tv a (h:Int) false),blk pb 161 (baseL d pv s m op false),blk tv 146 (viewL d v),DSK d v.S]
  (fun r H'=>r= .int .i64 0∧H'= [blk pt 163 (txL pb tv a1 (h1:Int) false),blk pb 161 (baseL d pv s m op false),blk tv 146 (viewL d (mapV v1 m3)),DSK d (mapV v1 m3).S]):=by
 have hdl:=view_Delete tv d v a h k hv hG
 rw [hD] at hdl
 dsimp only at hdl
 refine Gv.Spec.of (fun w h0 hw0=>?_)
 refine Calls.enter Tryz.func41 rfl rfl rfl hw0 ?_
 simp only [argSlots]
 refine Wap ?_
 have hfd:=tree_Find tv d v a h k hv (by omega) hh hfG
 rw [hfN] at hfd
 refine Ws ?_
 (refine Wbx ?_;intro b3)
 refine Ws ?_
 refine Zd (txn_may pt pb tv d pv a (h:Int) false s m op false hm) ?_
 refine Ws ?_
 refine Zz 13 false ?_
 refine Ws ?_
 refine Wm [blk pt 163 (txL pb tv a (h:Int) false),blk b3 38 (keyL k)] ?_
 refine Wq [0,1,2,3,4,5,6] ?_
 refine Zm 7 (h:=fun _ _ qK=>by exact Zlg (ys:=rootL a (h:Int)) qK (hl:=by rfl)) (k:=?_)
 refine Zm 8 (h:=fun _ _ qK=>by exact Zla (cs:=keyL k) qK (hl:=by rfl)) (k:=?_)
 refine ZA2 9 13 ?_ ?_
 refine Zd hfd ?_
 refine Zw ?_
 refine Wq [10,11,12] ?_
 refine ZA 13 ?_
 refine Zal fun b6=>?_
 refine Zw ?_
 refine ZA 14 ?_
 refine ZSa (ys:=entL y) ?_ (h1:=by exact entL_one5 y)
 refine Zw ?_
 refine Wq [15] ?_
 refine ZE ?_
 refine Ws ?_
 refine Zz 29 false ?_
 rotate_left
 refine Zal fun b6=>?_
 refine Zw ?_
 refine ZA 9 ?_
 refine Zd hfd ?_
 refine Zw ?_
 refine Wq [10,11,12] ?_
 refine ZA 14 ?_
 refine ZSa (ys:=entL y) ?_ (h1:=by exact entL_one5 y)
 refine Zw ?_
 refine Wq [15] ?_
 refine ZE ?_
 refine Ws ?_
 refine Zz 29 false ?_
 rotate_left
 all_goals
  refine Ws ?_
  refine Wm [blk pt 163 (txL pb tv a (h:Int) false),blk b3 38 (keyL k)] ?_
  refine Wq [0,1,2,3,4,5,6] ?_
  refine Zm 7 (h:=fun _ _ qK=>by exact Zlg (ys:=rootL a (h:Int)) qK (hl:=by rfl)) (k:=?_)
  refine Zm 8 (h:=fun _ _ qK=>by exact Zla (cs:=keyL k) qK (hl:=by rfl)) (k:=?_)
  refine ZA2 9 13 ?_ ?_
  refine Zd hdl ?_
  refine Zw ?_
  refine Wq [10,11,12] ?_
  refine ZA 13 ?_
  refine Zal fun b8=>?_
  refine Zw ?_
  refine ZA 14 ?_
  refine ZSa (ys:=rootL a1 (h1:Int)) ?_ (h1:=by exact two_int _ _)
  refine Zw ?_
  refine Wq [15] ?_
  refine ZE ?_
  refine Ws ?_
  refine Zz 47 false ?_
  rotate_left
  refine Zal fun b8=>?_
  refine Zw ?_
  refine ZA 9 ?_
  refine Zd hdl ?_
  refine Zw ?_
  refine Wq [10,11,12] ?_
  refine ZA 14 ?_
  refine ZSa (ys:=rootL a1 (h1:Int)) ?_ (h1:=by exact two_int _ _)
  refine Zw ?_
  refine Wq [15] ?_
  refine ZE ?_
  refine Ws ?_
  refine Zz 47 false ?_
  rotate_left
  all_goals
   refine Ws ?_
   have hgm:=bm_Give v1.m y.addr (pagesE y.len) hv1.m
   rw [hgv] at hgm
   refine Wm [blk pt 163 (txL pb tv a (h:Int) false),blk b6 40 (entL y)] ?_
   refine Wq [0,1,2,3,5,6] ?_
   refine Zm 7 (h:=fun _ _ qK=>by exact Zla (cs:=entL y) qK (hl:=by rfl)) (k:=?_)
   refine ZA2 4 13 ?_ ?_
   refine Zd (view_Map tv d v1 hv1) ?_
   refine Zw ?_
   refine Zm 8 (h:=fun _ _ qK=>by exact Zcv (node_PagesE y hyl) qK) (k:=?_)
   refine Zm 9 (h:=fun _ _ qK=>by exact Zcv hgm qK) (k:=?_)
   refine Wq [10,11,12] ?_
   refine ZA 13 ?_
   refine Zal fun b9=>?_
   refine Zw ?_
   refine ZA 14 ?_
   refine ZSa (ys:=bmL m3) ?_ (hl:=by exact bmL_len hm3) (hc:=by exact z513g) (h1:=by exact bmL_one _)
   refine Zw ?_
   refine Wq [15] ?_
   refine ZE ?_
   refine Ws ?_
   refine Zz 65 false ?_
   rotate_left
   refine Zal fun b9=>?_
   refine Zw ?_
   refine ZA 4 ?_
   refine Zd (view_Map tv d v1 hv1) ?_
   refine Zw ?_
   refine Zm 8 (h:=fun _ _ qK=>by exact Zcv (node_PagesE y hyl) qK) (k:=?_)
   refine Zm 9 (h:=fun _ _ qK=>by exact Zcv hgm qK) (k:=?_)
   refine Wq [10,11,12] ?_
   refine ZA 14 ?_
   refine ZSa (ys:=bmL m3) ?_ (hl:=by exact bmL_len hm3) (hc:=by exact z513g) (h1:=by exact bmL_one _)
   refine Zw ?_
   refine Wq [15] ?_
   refine ZE ?_
   refine Ws ?_
   refine Zz 65 false ?_
   rotate_left
   all_goals
    refine Ws ?_
    refine Wm [blk pt 163 (txL pb tv a (h:Int) false),blk b9 60 (bmL m3)] ?_
    refine Wq [0,1,2,3] ?_
    refine Zm 4 (h:=fun _ _ qK=>by exact Zla (cs:=bmL m3) qK (hl:=by exact bmL_len hm3)) (k:=?_)
    refine ZA 5 ?_
    refine Zd (view_SetMap tv d v1 m3 hv1 hm3 hr3 hp3) ?_
    refine Zw ?_
    refine ZE ?_
    refine Ws ?_
    refine Zla (cs:=rootL a1 (h1:Int)) ?_ (hl:=by rfl)
    refine Ws ?_
    refine ZSg (ys:=rootL a1 (h1:Int)) ?_ (h1:=by exact two_int _ _) (hi:=by exact(by decide:2+2≤5))
    refine Zat (blk pt _ _) (blk pt 163 (txL pb tv a1 (h1:Int) false)) ?_
    refine Zat (blk tv _ _) (blk tv 146 (viewL d (mapV v1 m3))) ?_
    refine Zat (DSK d _) (DSK d (mapV v1 m3).S) ?_
    refine Ws ?_
    exact Zfn [blk pt 163 (txL pb tv a1 (h1:Int) false),blk pb 161 (baseL d pv s m op false),blk tv 146 (viewL d (mapV v1 m3)),DSK d (mapV v1 m3).S] (hq:=by exact⟨rfl,rfl⟩)
theorem tk_moved {S S':DS}{k:Nat}{mu:Nat→Nat}: ∀(h m:Nat) (a:Int),tkG S k mu h m a→(∀p∈pgN S h a, ∀lf,rdN S' (p:Int) lf=rdN S (p:Int) lf)→tkG S' k mu h m a∧wkE S' h a=wkE S h a∧pgN S' h a=pgN S h a
 | 0,_,_,g,_=>g.elim
 | h+1,m,a,g,sm=>by
  obtain⟨⟨p,hp,hp2⟩,g1,g2,g3,g4,g5,g6⟩:=g
  have hr:rdN S' a (decide (h=0))=rdN S a (decide (h=0)):=by
   have:=sm p (by rw [pgN,hp];exact List.mem_cons_self ..) (decide (h=0))
   rw [hp];exact this
  have ih:=fun d (hd:d∈(rdN S a (decide (h=0))).D)=>tk_moved h (mu h) d (g5 d hd) (fun q hq=>sm q (by
   rw [pgN]
   exact mCm _ (List.mem_flatMap.2 ⟨d,hd,hq⟩)))
  refine⟨⟨⟨p,hp,hp2⟩,by rw [hr];exact g1,by rw [hr];exact g2,by rw [hr];exact g3,by rw [hr];exact g4,fun d hd=>by rw [hr] at hd;exact(ih d hd).1, ?_⟩, ?_, ?_⟩
  ·rw [hr,g6]
   exact List.map_congr_left (fun d hd=>by rw [headK,headK,(ih d hd).2.1])
  ·rw [wkE,wkE,hr,flat_congr (fun d hd=>(ih d hd).2.1)]
  ·rw [pgN,pgN,hr,flat_congr (fun d hd=>(ih d hd).2.2)]
theorem CM.perm {k:Nat}{S:DS}{s:SP}{m:BM}{U U':List Nat}(c:CM k S s m U)(p:U.Perm U'):CM k S s m U':=
 ⟨c.k8,c.on,c.len,⟨c.W.1,fun x hx=>⟨(c.W.2 x hx).1,fun q=>(c.W.2 x hx).2 (p.mem_iff.2 q)⟩⟩,c.sok,c.pages,c.gen,c.sup,c.old,inv_perm c.mok p,by
  obtain⟨b,h1,h2,h3⟩:=c.bit
  exact⟨b,h1,p.mem_iff.1 h2,h3⟩⟩
theorem cm_more {S:DS}{k:Nat}{s:SP}{m:BM}{U:List Nat}{b:Nat}(h8:8≤k∧k≤512)(hon:S.on)(hA:S.A.length=k*256)(ok:okS s=true)(hb:s.bitmap=(b:Int))(hi:Inv k m U)(hbU:b∈U):
  (wrPg S (mpP s.bitmap s.gen m)).1.fl.1.on∧(wrPg S (mpP s.bitmap s.gen m)).1.fl.1.W.length=0∧(wrS (wrPg S (mpP s.bitmap s.gen m)).1.fl.1 s).1.on∧(wrS (wrPg S (mpP s.bitmap s.gen m)).1.fl.1 s).1.W.length≤100:=by
 have hr:=hi.rng b hbU
 have hok:=mpP_ok (g:=s.gen) (a:=b) hi h8 (by omega)
 obtain⟨a1,a2,a3,a4,a5⟩:=wrPg_on hon (q:=mpP s.bitmap s.gen m) (a:=b) (by rw [hb];exact hok) hb (by rw [hA];exact fitk hr.2)
 obtain⟨b1,b2,b3,b4,b5⟩:=fl_on a2
 have h2A:(wrPg S (mpP s.bitmap s.gen m)).1.fl.1.A.length=k*256:=by rw [b4,DS.V_length a2.1,a4,hA]
 obtain⟨d1,d2,d3,d4,d5⟩:=wrS_on b2 (by omega) ok
 have h0:(wrPg S (mpP s.bitmap s.gen m)).1.fl.1.W.length=0:=by rw [b5];rfl
 exact⟨b2,h0,d2,by omega⟩
theorem spN_ok {k:Nat}{s:SP}{a:Int}{h t:Nat}(h8:8≤k∧k≤512)(hp:s.pages=(k:Int))(ht:2≤t∧t<k)(h5:h≤5)(ha:h≠0→ ∃p:Nat,a=(p:Int)∧(2≤p∧p<k)∧p≠t):okS (spN s a h t)=true:=by
 show (decide (s.gen+1≠0) && (decide ((8:Int)≤s.pages) && (decide (s.pages≤512) && ((decide ((2:Int)≤(t:Int)) && decide ((t:Int)<s.pages)) &&
  (if(h:Int)=0 then decide ((if h=0 then(0:Int) else a)=0) else decide ((0:Int)<(h:Int)) && (decide ((h:Int)≤5) && ((decide ((2:Int)≤(if h=0 then(0:Int) else a)) && decide ((if h=0 then(0:Int) else a)<s.pages)) && decide ((if h=0 then(0:Int) else a)≠(t:Int)))))))))=true
 rw [hp,dTt (show s.gen+1≠0 by omega),dTt (show (8:Int)≤(k:Int) by omega),dTt (show (k:Int)≤512 by omega),dTt (show (2:Int)≤(t:Int) by omega),dTt (show (t:Int)<(k:Int) by omega)]
 by_cases h0:h=0
 ·rw [if_pos (by omega),if_pos h0];rfl
 ·obtain⟨p,hp1,hp2,hp3⟩:=ha h0
  rw [if_neg (by omega),if_neg h0,hp1,dTt (show (0:Int)<(h:Int) by omega),dTt (show (h:Int)≤5 by omega),dTt (show (2:Int)≤(p:Int) by omega),dTt (show (p:Int)<(k:Int) by omega),dTt (show (p:Int)≠(t:Int) by omega)]
  rfl
theorem commit_spec {k:Nat}{mu:Nat→Nat}{S0:DS}{s:SP}{m:BM}{b h0:Nat}{E0:List ENT}{v:VS}{a:Int}{h:Nat}{E:List ENT}(X:TXI k mu S0 s m b h0 E0 v a h E)(hW:v.S.W.length≤600000)(hg:s.gen+1<1000000000):
  (∃t m1 m2,CmG v s m m1 m2 a h t∧CMT k mu (cmS v.S (spN s a h t) m2) (spN s a h t) m2 t h E∧t∉bsU S0 s b h0 E0∧ ∀x∈E,txE (cmS v.S (spN s a h t) m2) x=txE v.S x)
  ∨(∃m1,giveM v.m s.bitmap 1=(m1,0)∧m1.u.length=512∧(takeM m1 m 1).2.2=5∧ ¬Fre k (pgN v.S h a++txs E) (bsU S0 s b h0 E0) 1):=by
 have hv:=X.ti.vg
 have hk:=hv.k8
 obtain⟨m1,e1,i1⟩:=give_inv (inv_perm hv.m List.perm_middle) hk
 have hom:Inv k m (bsU S0 s b h0 E0):=by rw [←X.old];exact hv.o
 have egv:giveM v.m s.bitmap 1=(m1,0):=by rw [X.c.bb];exact e1
 rcases take_inv i1 hom hk with ⟨t,m2,e2,ht,htU,htO,i2⟩ | ⟨e5,hF⟩
 ·refine .inl ⟨t,m1,m2, ?_⟩
  have hpage:h≠0→ ∃p:Nat,a=(p:Int)∧(2≤p∧p<k)∧p≠t:=fun hne=>by
   obtain⟨p,p1,p2,l,p3⟩:=tk_page (X.ti.g.resolve_left hne)
   refine⟨p,p1,p2,fun c=>htU (mAl _ ?_)⟩
   rw [p3,c];exact List.mem_cons_self ..
  obtain⟨s',hs'⟩: ∃s',s'=spN s a h t:=⟨_,rfl⟩
  have ok:okS s'=true:=by rw [hs'];exact spN_ok hk X.c.cm.pages ht X.ti.h5 hpage
  have hb':s'.bitmap=(t:Int):=by rw [hs'];rfl
  have hg':s'.gen=s.gen+1:=by rw [hs'];rfl
  have hp':s'.pages=(k:Int):=by rw [hs'];exact X.c.cm.pages
  have hh':s'.height=(h:Int):=by rw [hs'];rfl
  have ha':s'.addr=if h=0 then 0 else a:=by rw [hs'];rfl
  obtain⟨q1,q2,q3,q4,qc,qp⟩:=cm_step X.c.cm hv.on X.A (fun p hp=>(X.sm p (.inr hp)).1) ok hg' (by omega) hp' hb' i2 (List.mem_cons_self ..)
  obtain⟨r1,r2,r3,r4⟩:=cm_more hk hv.on hv.len ok hb' i2 (List.mem_cons_self ..)
  obtain⟨S',hS'⟩: ∃S',S'=cmS v.S s' m2:=⟨_,rfl⟩
  have hSdef:cmS v.S s' m2=(wrS (wrPg v.S (mpP s'.bitmap s'.gen m2)).1.fl.1 s').1.fl.1:=rfl
  rw [hb',hg'] at q1 q2 q3 q4 r1 r2 r3 r4
  have hpm:m2.p=(((cmS v.S s' m2).A.length/256:Nat):Int):=by rw [qc.div];exact i2.p
  have hvok:(⟨cmS v.S s' m2,s.gen+1,m2,m2⟩:VS).ok:=(qc.view (s.gen+1) (by omega)).ok
  have htx: ∀x∈E,TxE (cmS v.S s' m2) x∧txE (cmS v.S s' m2) x=txE v.S x:=fun x hx=>by
   refine(X.tx x hx).same (by rw [qc.len,hv.len]) (fun p hp=>?_)
   have hmem:p∈txs E:=List.mem_flatMap.2 ⟨x,hx,hp⟩
   have hr:=i2.rng p (mCm _ (mAr _ hmem))
   exact qp p hr.1 hr.2 (fun c=>htU (mAr _ (c▸hmem)))
  refine⟨?_, ?_,htO,fun x hx=>by rw [←hs'];exact(htx x hx).2⟩
  ·rw [hs'] at q3 q4 r3 r4 hpm hvok
   exact⟨hv.ok,by omega,hom.len,i1.len,i2.len,by omega,egv,e2,q1,q2,r1.1,by omega,q3,r3.1,by omega,q4,hvok,i2.right hk,hpm⟩
  ·rw [←hs', ←hS']
   rw [←hS'] at qc qp
   have hrd: ∀p∈pgN v.S h a, ∀lf,rdN S' (p:Int) lf=rdN v.S (p:Int) lf:=fun p hp lf=>by
    have hr:=i2.rng p (mCm _ (mAl _ hp))
    refine rdN_pg hv.on qc.on (by rw [qc.len,hv.len]) (by rw [hv.len];exact fitk hr.2) (qp p hr.1 hr.2 (fun c=>htU (mAl _ (c▸hp)))) lf
   have htree:(h=0∨tkG S' k mu h (rmin h) s'.addr)∧wkE S' h s'.addr=E∧pgN S' h s'.addr=pgN v.S h a:=by
    rcases Nat.eq_zero_or_pos h with hz | hz
    ·subst hz
     exact⟨.inl rfl,X.ti.ents,rfl⟩
    ·have hne:h≠0:=by omega
     rw [ha',if_neg hne]
     obtain⟨g1,g2,g3⟩:=tk_moved h (rmin h) a (X.ti.g.resolve_left hne) hrd
     exact⟨.inr g1,by rw [g2];exact X.ti.ents,g3⟩
   refine⟨qc.perm ?_,hb',hh',htree.1,htree.2.1,X.ti.ord,X.ti.h5,fun x hx=>by rw [hS'];exact(htx x hx).1⟩
   rw [bsU,htree.2.2]
   exact List.perm_middle.symm
 ·exact .inr ⟨m1,egv,i1.len,e5,hF⟩
def mkU:List Nat→List Bool
 | [] =>List.replicate 512 false
 | p::l=>(mkU l).set p true
theorem mkU_len: ∀l,(mkU l).length=512
 | [] =>List.length_replicate
 | p::l=>by rw [mkU,List.length_set];exact mkU_len l
theorem mkU_use: ∀(l:List Nat) (j:Nat),(∀p∈l,p<512)→(useAt (mkU l) j=true↔j∈l)
 | [],j,_=>by
  have:useAt (mkU []) j=false:=by
   show (List.replicate 512 false).getD j false=false
   rw [gDe,List.getElem?_replicate]
   split<;>rfl
  rw [this];simp
 | p::l,j,h=>by
  rw [mkU,useAt_set _ _ _ _ (by rw [mkU_len];exact h p (List.mem_cons_self ..))]
  by_cases e:j=p
  ·rw [if_pos e,e];simp
  ·rw [if_neg e,mkU_use l j (fun q hq=>h q (mCm _ hq))]
   simp [e]
def mkT (W:List Nat)(j:Nat):List Bool:=mkU (W.take j).reverse
theorem mkT_len (W:List Nat)(j:Nat):(mkT W j).length=512:=mkU_len _
theorem mkT_succ {W:List Nat}{j p:Nat}(h:W[j]? =some p):(mkT W j).set p true=mkT W (j+1):=by
 rw [mkT,mkT,List.take_add_one,h]
 simp [mkU]
theorem mkT_no {W:List Nat}{j p:Nat}(hn:W.Nodup)(h5: ∀p∈W,p<512)(h:W[j]? =some p):useAt (mkT W j) p=false:=by
 cases hu:useAt (mkT W j) p with
 | false=>rfl
 | true=>
  have hm:=(mkU_use _ p (fun q hq=>h5 q (List.mem_of_mem_take (List.mem_reverse.1 hq)))).1 hu
  rw [List.mem_reverse] at hm
  obtain⟨i,hi,hp⟩:=List.getElem_of_mem hm
  rw [lTk] at hi
  have hj:=(List.getElem?_eq_some_iff.1 h)
  obtain⟨hj1,hj2⟩:=hj
  rw [List.getElem_take] at hp
  exact(List.pairwise_iff_getElem.1 hn i j (by omega) hj1 (by omega) (hp.trans hj2.symm)).elim
theorem mkT_get {W:List Nat}{j p:Nat}(hp:p<512):(mkT W j)[p]? =some (useAt (mkT W j) p):=by
 rw [useAt,gDe,gEe (by rw [mkT_len];exact hp)];rfl
def sndW (b:Nat)(zs:List Nat)(E:List ENT):List Nat:=0::1::b::(zs++txs E)
theorem CMT.snd {k:Nat}{mu:Nat→Nat}{S:DS}{s:SP}{m:BM}{b h:Nat}{E:List ENT}(c:CMT k mu S s m b h E){zs:List Nat}(hz:zs.Perm (pgN S h s.addr)):
  (sndW b zs E).Nodup∧(∀p∈sndW b zs E,p<512)∧mkT (sndW b zs E) (sndW b zs E).length=m.u∧freeM m+(sndW b zs E).length=k:=by
 have hi:=c.cm.mok
 have hk:=c.cm.k8
 have hp:(b::(zs++txs E)).Perm (bsU S s b h E):=by
  rw [bsU]
  exact(List.Perm.cons b (List.Perm.append_right _ hz)).trans List.perm_middle.symm
 have hmem: ∀p,p∈sndW b zs E↔(p<2∨p∈bsU S s b h E):=fun p=>by
  show p∈0::1::(b::(zs++txs E))↔_
  rw [List.mem_cons,List.mem_cons,hp.mem_iff]
  constructor
  ·rintro (h | h | h)
   ·exact .inl (by omega)
   ·exact .inl (by omega)
   ·exact .inr h
  ·rintro (h | h)
   ·rcases(show p=0∨p=1 by omega) with q | q
    ·exact .inl q
    ·exact .inr (.inl q)
   ·exact .inr (.inr h)
 have hlt: ∀p∈sndW b zs E,p<512:=fun p hp2=>by
  rcases(hmem p).1 hp2 with q | q
  ·omega
  ·have:=(hi.rng p q).2;omega
 have hnd:(sndW b zs E).Nodup:=by
  have h1:=hp.nodup_iff.2 hi.nodup
  have hno: ∀q,q<2→q∉b::(zs++txs E):=fun q hq c2=>by
   have:=(hi.rng q (hp.mem_iff.1 c2)).1;omega
  refine List.nodup_cons.2 ⟨fun c2=>?_,List.nodup_cons.2 ⟨hno 1 (by omega),h1⟩⟩
  rcases List.mem_cons.1 c2 with q | q
  ·cases q
  ·exact hno 0 (by omega) q
 refine⟨hnd,hlt, ?_, ?_⟩
 ·apply List.ext_getElem?
  intro j
  by_cases hj:j<512
  ·rw [mkT_get hj]
   have e:m.u[j]? =some (useAt m.u j):=by
    rw [useAt,gDe,gEe (by rw [hi.len];exact hj)];rfl
   rw [e]
   congr 1
   have h1:=mkU_use ((sndW b zs E).take (sndW b zs E).length).reverse j (fun q hq=>hlt q (List.mem_of_mem_take (List.mem_reverse.1 hq)))
   rw [List.mem_reverse,List.take_length,hmem j, ←hi.use j] at h1
   rw [mkT,List.take_length]
   exact Bool.eq_iff_iff.2 h1
  ·rw [List.getElem?_eq_none (by rw [mkT_len];omega),List.getElem?_eq_none (by rw [hi.len];omega)]
 ·have hl:(sndW b zs E).length=2+(bsU S s b h E).length:=by
   show (b::(zs++txs E)).length+1+1=_
   rw [hp.length_eq];omega
  have:=hi.free
  omega
theorem sndW_z {b:Nat}{zs:List Nat}{E:List ENT}{i:Nat}{p:Nat}(h:zs[i]? =some p):(sndW b zs E)[3+i]? =some p:=by
 rw [show 3+i=i+1+1+1 by omega]
 show (zs++txs E)[i]? =some p
 rw [List.getElem?_append_left (List.getElem?_eq_some_iff.1 h).1,h]
theorem txs_at {E:List ENT}{j x:Nat}(hj:j<E.length)(hx:x<nE (E.getD j ent0)):(txs E)[(txs (E.take j)).length+x]? =some ((E.getD j ent0).addr.toNat+x):=by
 have e:E=E.take j++E.getD j ent0::E.drop (j+1):=by
  conv=>lhs;rw [←List.take_append_drop j E,List.drop_eq_getElem_cons hj]
  rw [gDe,gEe hj];rfl
 have e2:txs E=txs (E.take j)++(txP (E.getD j ent0)++txs (E.drop (j+1))):=by
  conv=>lhs;rw [e]
  rw [txs,List.flatMap_append,List.flatMap_cons];rfl
 rw [e2,List.getElem?_append_right (by omega),Nat.add_sub_cancel_left,List.getElem?_append_left (by rw [txP,runL,List.length_range'];exact hx),txP,runL,List.getElem?_range' hx]
 simp
theorem sndW_t {b:Nat}{zs:List Nat}{E:List ENT}{j x:Nat}(hj:j<E.length)(hx:x<nE (E.getD j ent0)):(sndW b zs E)[3+zs.length+(txs (E.take j)).length+x]? =some ((E.getD j ent0).addr.toNat+x):=by
 rw [show 3+zs.length+(txs (E.take j)).length+x=(zs.length+((txs (E.take j)).length+x))+1+1+1 by omega]
 show (zs++txs E)[zs.length+((txs (E.take j)).length+x)]? =_
 rw [List.getElem?_append_right (by omega),Nat.add_sub_cancel_left]
 exact txs_at hj hx
theorem txs_take_len {E:List ENT}{j:Nat}(hj:j<E.length):(txs (E.take (j+1))).length=(txs (E.take j)).length+nE (E.getD j ent0):=by
 rw [List.take_add_one,gEe hj]
 have e:E.getD j ent0=E[j] :=by rw [gDe,gEe hj];rfl
 rw [e,txs,txs,List.flatMap_append,lAp]
 simp [txP,runL]
theorem sndW_len (b:Nat)(zs:List Nat)(E:List ENT):(sndW b zs E).length=3+zs.length+(txs E).length:=by
 show (zs++txs E).length+1+1+1=_
 rw [lAp];omega
theorem perm_nat {ys:List Int}{P:List Nat}(h:ys.Perm (P.map (fun p:Nat=>(p:Int)))): ∃zs:List Nat,ys=zs.map (fun p:Nat=>(p:Int))∧zs.Perm P:=by
 refine⟨ys.map Int.toNat, ?_, ?_⟩
 ·rw [List.map_map]
  have: ∀y∈ys,((fun p:Nat=>(p:Int))∘Int.toNat) y=y:=fun y hy=>by
   obtain⟨p,_,rfl⟩:=List.mem_map.1 (h.mem_iff.1 hy)
   show (((p:Int).toNat:Nat):Int)=p
   omega
  conv=>lhs;rw [←List.map_id' ys]
  exact(List.map_congr_left (fun y hy=>(this y hy))).symm
 ·have:=h.map Int.toNat
  rw [List.map_map] at this
  have e:P.map (Int.toNat∘fun p:Nat=>(p:Int))=P:=by
   conv=>rhs;rw [←List.map_id' P]
   exact List.map_congr_left (fun p _=>by show ((p:Int)).toNat=p;omega)
  rwa [e] at this
theorem bytes_Equal (u v:Value)(a b:List UInt8):SpecR Tryz.prog 135 #[u,v] (fun w=>RdW w u a.length (B8 a)∧RdW w v b.length (B8 b)) (fun r H'=>r= .bool (decide (a=b))∧H'= []):=by
 refine SpecR.of (fun w hh=>?_)
 refine Calls.enter Tryz.func135 rfl rfl rfl (St.rebase w) ?_
 simp only [argSlots]
 refine Ws ?_
 refine Zbs (l:=a) ?_ (he:=by exact Tryz.underlying5) (hr:=by exact rdw_ex Wp hh.1)
 refine Ws ?_
 refine Zbs (l:=b) ?_ (he:=by exact Tryz.underlying5) (hr:=by exact rdw_ex Wp hh.2)
 refine Ws ?_
 exact Zfr (hq:=by simp only [tupled];(rw [bytes_eq]))
theorem bm_Get (v:Value)(l:List UInt8):SpecR Tryz.prog 89 #[v] (fun w=>RdW w v l.length (B8 l)) (fun r H'=>r= .tuple #[bmV (getM l).1, .int .i64 ((getM l).2:Int)] ∧H'= []):=by
 refine SpecR.of (fun w hr=>?_)
 have hlen:=hr.le
 refine Calls.enter Tryz.func89 rfl rfl rfl (St.rebase w) ?_
 simp only [argSlots]
 refine Ws ?_
 refine Zal fun br=>?_
 refine Ws ?_
 refine Zlr2 (hr:=hr) ?_
 refine Ws ?_
 (refine Wcd ?_ ?_<;>intro h1)
 ·refine Ws ?_
  refine ZSa ?_ (hl:=by exact z513) (hc:=by exact z513) (h1:=by exact z_one)
  refine Ws ?_
  exact Zfr (h:=ResL.cons (Zra z513) (ResL.cons (Res1.tmp rfl) (ResL.nil))) (hq:=by simp only [tupled];(rw [getM,if_pos (by omega),bmV_zero];rfl))
 ·have hl2:2≤l.length:=by omega
  refine Ws ?_
  refine Wm [Ex (hp w)] ?_
  refine Wq [0] ?_
  refine Zm 1 (h:=fun _ _ qK=>by exact Zir (hr:=hr) (j:=0) qK (hj:=by rfl) (hlt:=by omega) (hl:=by rw [B8_length];omega)) (k:=?_)
  refine Zm 2 (h:=fun _ _ qK=>by exact Zlr (hr:=hr) (v:= .int .u8 ((l.getD 0 0).toNat:Int)) qK (hv:=by rw [B8_get l _ (by omega),gDe,gEe (by omega)];rfl)) (k:=?_)
  refine Wq [3,4,5] ?_
  refine Zm 6 (h:=fun _ _ qK=>by exact Zir (hr:=hr) (j:=1) qK (hj:=by rfl) (hlt:=by omega) (hl:=by rw [B8_length];omega)) (k:=?_)
  refine Zm 7 (h:=fun _ _ qK=>by exact Zlr (hr:=hr) (v:= .int .u8 ((l.getD 1 0).toNat:Int)) qK (hv:=by rw [B8_get l _ (by omega),gDe,gEe (by omega)];rfl)) (k:=?_)
  refine Wq [8,9] ?_
  refine Zm 10 (h:=fun _ _ qK=>by exact Zbu qK (hf:=by exact fill_map _)) (k:=?_)
  refine ZA 11 ?_
  refine Zal fun bm=>?_
  refine Zw ?_
  refine ZA 12 ?_
  refine ZSa ?_ (hl:=by exact bmL_length _ List.length_replicate) (hc:=by exact z513) (h1:=by exact bmL_one _)
  refine Zw ?_
  refine ZE ?_
  have hw8: ∀x:UInt8,IntKind.i64.wrap (x.toNat:Int)=(x.toNat:Int):=fun x=>IntWalk.i64_in _ (by have:=x.toNat_lt;omega)
  have hg0:gotTo l 0=List.replicate 512 false:=by simp only [gotTo,List.range_zero,List.map_nil,nAp,Nat.sub_zero]
  refine Zat (blk bm _ _) (blk bm 60 (bmL ⟨pagesOf l,gotTo l 0⟩)) ?_ (e:=by rw [hg0,hw8,hw8,or_pages];rfl)
  refine Ws ?_
  (refine Wl (α:={ i:Nat//i≤512 }) (fun x=>512-x.1) (fun x=> [(0,v),(2, .pointer (some ⟨br,0,none⟩)),(4, .pointer (some ⟨bm,0,none⟩)),(22, .int .i64 (x.1:Int))]) (fun x=> [blk bm 60 (bmL ⟨pagesOf l,gotTo l x.1⟩),blk br 60 ([.int .i64 0] ++List.replicate 512 (.bool false)),Ex (hp w)]) ⟨0,Nat.zero_le _⟩ ?_;rintro ⟨i,hi⟩ mx hmx;(try dsimp only at hmx ⊢))
  have hgl:=gotTo_length l i hi
  refine Ws ?_
  (refine Wcd ?_ ?_<;>intro h2)
  ·have hi':i<512:=by omega
   refine Ws ?_
   (refine ZcB 32 ?_ ?_<;>intro h3)
   ·have h3':(i:Int)<(pagesOf l:Int):=of_decide_eq_true h3
    refine Ws ?_
    refine Zlr2 (hr:=hr) ?_
    refine Ws ?_
    (refine Wcd ?_ ?_<;>intro h4)
    ·have hb:2+i/8<l.length:=by omega
     have hga:gotAt l i=bit8 (l.getD (2+i/8) 0) (i%8):=by
      rw [gotAt,dTt (show i<pagesOf l by omega),dTt hb];rfl
     refine Ws ?_
     refine Zir (hr:=hr) (j:=2+i/8) ?_ (hj:=by omega) (hlt:=by exact hb) (hl:=by rw [B8_length];omega)
     refine Ws ?_
     refine Zlr (hr:=hr) (v:= .int .u8 ((l.getD (2+i/8) 0).toNat:Int)) ?_ (hv:=by rw [Nat.mul_one,B8_get l _ hb,gDe,gEe hb];rfl)
     refine Ws ?_
     refine Zz 47 (gotAt l i) ?_ (hi:=by rw [hga];rfl)
     refine ZS ?_ (hi:=by rw [bmL_length _ hgl];omega)
     refine Zat (blk bm _ _) (blk bm 60 (bmL ⟨pagesOf l,gotTo l (i+1)⟩)) ?_ (e:=by rw [off_set];simp only [gotTo_set l i hi'])
     refine Ws ?_
     exact Zag ⟨i+1,by omega⟩
    ·have hga:gotAt l i=false:=by
      rw [gotAt,dFf (show ¬2+i/8<l.length by omega),Bool.and_false,if_neg (by simp)]
     refine Ws ?_
     refine Zat (blk bm _ _) (blk bm 60 (bmL ⟨pagesOf l,gotTo l (i+1)⟩)) ?_ (e:=by rw [gotTo_skip l i hi' hga])
     exact Zag ⟨i+1,by omega⟩
   ·have h3': ¬(i:Int)<(pagesOf l:Int):=of_decide_eq_false h3
    have hga:gotAt l i=false:=by
     rw [gotAt,dFf (show ¬i<pagesOf l by omega),Bool.false_and,if_neg (by simp)]
    refine Ws ?_
    refine Zat (blk bm _ _) (blk bm 60 (bmL ⟨pagesOf l,gotTo l (i+1)⟩)) ?_ (e:=by rw [gotTo_skip l i hi' hga])
    exact Zag ⟨i+1,by omega⟩
  ·have e:i=512:=by omega
   subst e
   refine Zat (blk bm _ _) (blk bm 60 (bmL (gotM l))) ?_
   have hgm:(gotM l).u.length=512:=hgl
   refine Ws ?_
   refine Zla ?_ (hl:=by exact bmL_length _ hgm)
   refine Ws ?_
   refine Zcv (bm_Right (gotM l) hgm) ?_
   refine Ws ?_
   (refine ZcB 54 ?_ ?_<;>intro h5)
   ·refine Ws ?_
    refine ZSa ?_ (hl:=by exact z513) (hc:=by exact z513) (h1:=by exact z_one)
    refine Ws ?_
    exact Zfr (h:=ResL.cons (Zra z513) (ResL.cons (Res1.tmp rfl) (ResL.nil))) (hq:=by simp only [tupled];(rw [getM,if_neg (by omega),if_neg (by intro hh;rw [hh.1] at h5;cases h5),bmV_zero];rfl))
   ·have hri:rightM (gotM l)=true:=by cases hq:rightM (gotM l)<;>simp [hq] at h5 ⊢
    refine Ws ?_
    refine Zla ?_ (hl:=by exact bmL_length _ hgm)
    refine Ws ?_
    refine Zcr (bm_Put (gotM l) hgm) ?_
    rintro vp Hp rfl
    refine Ws ?_
    refine Zcv (bytes_Equal vp v (putM (gotM l)) l) ?_ (hpre:=by exact fun w' hw'=>⟨rdw_own Wp w' hw',rdw_ex Wp hr w' hw'⟩)
    refine Ws ?_
    (refine Wcb ?_ ?_<;>intro h6)
    ·have hne: ¬putM (gotM l)=l:=by intro e;simp [e] at h6
     refine Ws ?_
     refine ZSa ?_ (hl:=by exact z513) (hc:=by exact z513) (h1:=by exact z_one)
     refine Ws ?_
     exact Zfr (h:=ResL.cons (Zra z513) (ResL.cons (Res1.tmp rfl) (ResL.nil))) (hq:=by simp only [tupled];(rw [getM,if_neg (by omega),if_neg (fun hh=>hne hh.2),bmV_zero];rfl))
    ·have heq:putM (gotM l)=l:=by
      by_cases e:putM (gotM l)=l
      ·exact e
      ·simp [e] at h6
     refine Ws ?_
     refine Zla ?_ (hl:=by exact bmL_length _ hgm)
     refine Ws ?_
     refine ZSa ?_ (hl:=by exact bmL_length _ hgm) (hc:=by exact z513) (h1:=by exact bmL_one _)
     refine Ws ?_
     exact Zfr (h:=ResL.cons (Zra (bmL_length _ hgm)) (ResL.cons (Res1.tmp rfl) (ResL.nil))) (hq:=by simp only [tupled];(rw [getM,if_neg (by omega),if_pos ⟨hri,heq⟩];rfl))
theorem z513f:(Value.int .i64 0::List.replicate 512 (Value.bool false)).length=513:=by rw [lCn,List.length_replicate]
theorem txn_Mount {k:Nat}{S:DS}{s:SP}{m:BM}{U:List Nat}(d:Nat)(c:CM k S s m U):
  Gv.Spec Tryz.prog 37 #[.pointer (some ⟨d,0,none⟩)] [DSK d S]
  (fun r H'=> ∃pb pv,r= .tuple #[.pointer (some ⟨pb,0,none⟩), .int .i64 0] ∧H'= [blk pb 161 (baseL d pv s m false false),blk pv 146 (viewL d ⟨S,s.gen,m,m⟩),DSK d S]):=by
 refine Gv.Spec.of (fun w h0 hw=>?_)
 refine Calls.enter Tryz.func37 rfl rfl rfl hw ?_
 simp only [argSlots]
 refine Wap ?_
 have hgen:=c.gen
 have hok:S.ok:=c.on.1
 have hWl:S.W.length≤5000:=c.W.1
 have hnw:=super_Newest d S hok (by omega)
 rw [c.newest] at hnw
 have hbs:=okS_spec c.sok
 have hrd:=page_Read d S s.bitmap 66 hok (by omega) (by omega)
 rw [c.map] at hrd
 have hbl:(mpP s.bitmap s.gen m).b=putM m:=rfl
 dsimp only at hrd hnw
 rw [hbl] at hrd
 have hrm:=c.mok.right c.k8
 have hml:=c.mok.len
 have hvk:(⟨S,s.gen,m,m⟩:VS).ok:=(c.view s.gen (by omega)).ok
 have hpp:m.p=((S.A.length/256:Nat):Int):=by rw [c.div];exact c.mok.p
 have hba:=txn_based d S s m hvk hrm hpp
 refine Ws ?_
 refine Zz 10 false ?_
 refine Ws ?_
 refine Zcv crc_New ?_
 refine Ws ?_
 refine Zal fun b4=>?_
 refine Ws ?_
 refine ZSa (ys:=tabL) ?_ (hl:=by exact tabL_length) (hc:=by exact List.length_replicate) (h1:=by exact tabL_one)
 refine Ws ?_
 refine Zla (cs:=tabL) ?_ (hl:=by exact tabL_length)
 refine Ws ?_
 refine Zd hnw ?_
 refine Ws ?_
 refine Zal fun b5=>?_
 refine Ws ?_
 refine ZSa (ys:=spL s) ?_ (h1:=by exact spL_one s)
 refine Ws ?_
 refine Zz 19 false ?_
 refine Ws ?_
 refine Zla (cs:=tabL) ?_ (hl:=by exact tabL_length)
 refine Ws ?_
 refine Zcs hrd ?_
 rintro r2 H2 ⟨A,cc,rfl,rfl⟩
 refine Wap ?_
 refine Ws ?_
 refine Zal fun b7=>?_
 refine Ws ?_
 refine ZSa (ys:=pgL (mpP s.bitmap s.gen m) (.slice A (putM m).length cc)) ?_ (h1:=by exact pgL_one _ A _ cc)
 refine Ws ?_
 refine Zz 30 false ?_
 refine Ws ?_
 have hgt:=bm_Get (.slice A (putM m).length cc) (putM m)
 rw [got_back hml hrm] at hgt
 dsimp only at hgt
 refine Zcv hgt ?_ (hpre:=by exact rdw_own (v:= .slice A (putM m).length cc) Wp)
 refine Ws ?_
 refine Zal fun b8=>?_
 refine Ws ?_
 refine ZSa (ys:=bmL m) ?_ (hl:=by exact bmL_len hml) (hc:=by exact z513f) (h1:=by exact bmL_one _)
 refine Ws ?_
 refine Zz 39 false ?_
 refine Ws ?_
 refine Zla (cs:=tabL) ?_ (hl:=by exact tabL_length)
 refine Ws ?_
 refine Zla (cs:=spL s) ?_ (hl:=by rfl)
 refine Ws ?_
 refine Zla (cs:=bmL m) ?_ (hl:=by exact bmL_len hml)
 refine Ws ?_
 refine Zcs hba ?_
 rintro r3 H3 ⟨pb,pv,rfl,rfl⟩
 refine Wap ?_
 refine Ws ?_
 exact Zfn [blk pb 161 (baseL d pv s m false false),blk pv 146 (viewL d ⟨S,s.gen,m,m⟩),DSK d S] (hq:=by exact⟨pb,pv,rfl,rfl⟩)
theorem z256_B8:B8 z256=List.replicate 256 (.int .u8 0):=by rw [B8,z256,List.map_replicate];rfl
set_option maxRecDepth 4000 in
theorem txn_Format (d k:Nat)(h:8≤k∧k≤512):
  Gv.Spec Tryz.prog 29 #[.pointer (some ⟨d,0,none⟩)] [DSK d (DS.new k)]
  (fun r H'=> ∃pb pv,r= .tuple #[.pointer (some ⟨pb,0,none⟩), .int .i64 0] ∧H'= [blk pb 161 (baseL d pv (spF k) (fm1 k) false false),blk pv 146 (viewL d ⟨fmS k,1,fm1 k,fm1 k⟩),DSK d (fmS k)]):=by
 obtain⟨tk,len,rm,e1,o1,l1,e2,o2,l2,e3,o3,l3,e4,o4,l4,e5,cm⟩:=fm_spec h
 refine Gv.Spec.of (fun w h0 hw=>?_)
 refine Calls.enter Tryz.func29 rfl rfl rfl hw ?_
 simp only [argSlots]
 refine Wap ?_
 have hnk:=DS.new_ok k h.2
 have hPg:=disk_PagesD d (DS.new k) hnk
 have hdv:(DS.new k).A.length/256=k:=by rw [DS.new_len,Nat.mul_div_cancel _ (by decide:0<256)]
 rw [hdv] at hPg
 have hbk:=bm_Take (newM (k:Int)) (newM (k:Int)) 1 (newM_length _) (newM_length _)
 rw [tk] at hbk
 have hpl:(putM (fm1 k)).length≤1000000:=by
  have hr:=rightM_spec rm
  rw [putM,if_pos rm,putTo_length];omega
 have hwm:=txn_writeMap d (DS.new k) 2 1 (fm1 k) len (by decide) hnk (Nat.zero_le _) hpl
 have eA:wrPg (DS.new k) (mpP 2 1 (fm1 k))=fmA k:=rfl
 rw [eA] at hwm
 have hf1:=disk_FlushD d (fmA k).1 o1 (by omega)
 have eB:(fmA k).1.fl=fmB k:=rfl
 rw [eB] at hf1
 have hsw:=super_Write d (fmB k).1 (spF k) (by show 1<18446744073709551616;decide) o2 (by omega)
 have eC:wrS (fmB k).1 (spF k)=fmC k:=rfl
 rw [eC] at hsw
 have hf2:=disk_FlushD d (fmD k).1 o4 (by omega)
 have eS:(fmD k).1.fl.1=fmS k:=rfl
 rw [eS] at hf2
 have hba:=txn_based d (fmS k) (spF k) (fm1 k) (cm.view 1 (by decide)).ok rm (by rw [cm.div];exact cm.mok.p)
 have hk1:(1:Int)=((1:Nat):Int):=rfl
 refine Ws ?_
 refine Zz 15 false ?_
 refine Ws ?_
 refine Zcv crc_New ?_
 refine Ws ?_
 refine Zal fun b4=>?_
 refine Ws ?_
 refine ZSa (ys:=tabL) ?_ (hl:=by exact tabL_length) (hc:=by exact List.length_replicate) (h1:=by exact tabL_one)
 refine Ws ?_
 refine Zd hPg ?_
 refine Ws ?_
 refine Zcv (bm_New (k:Int)) ?_
 refine Ws ?_
 refine Zd hPg ?_
 refine Ws ?_
 refine Zcv (bm_New (k:Int)) ?_
 refine Ws ?_
 refine Zcv hbk ?_
 refine Ws ?_
 refine Zal fun b5=>?_
 refine Ws ?_
 refine ZSa (ys:=bmL (fm1 k)) ?_ (hl:=by exact bmL_len len) (hc:=by exact z513f) (h1:=by exact bmL_one _)
 refine Ws ?_
 refine Zz 29 false ?_
 refine Ws ?_
 refine Zd hPg ?_
 refine Ws ?_
 refine Zbu (ys:=spL (spF k)) ?_
 refine Ws ?_
 refine Zal fun b8=>?_
 refine Ws ?_
 refine ZSa (ys:=spL (spF k)) ?_ (h1:=by exact spL_one _)
 refine Ws ?_
 refine Zla (cs:=tabL) ?_ (hl:=by exact tabL_length)
 refine Ws ?_
 refine Zla (cs:=bmL (fm1 k)) ?_ (hl:=by exact bmL_len len)
 refine Ws ?_
 refine Zi 39 ((1:Nat):Int) ?_ (hi:=by rfl)
 refine Zd hwm ?_
 refine Ws ?_
 refine Zz 43 false ?_ (hi:=by rw [e1];rfl)
 refine Ws ?_
 refine Zd hf1 ?_
 refine Ws ?_
 refine Zz 48 false ?_ (hi:=by rw [e2];rfl)
 refine Ws ?_
 refine Zla (cs:=tabL) ?_ (hl:=by exact tabL_length)
 refine Ws ?_
 refine Zla (cs:=spL (spF k)) ?_ (hl:=by rfl)
 refine Ws ?_
 refine Zd hsw ?_
 refine Ws ?_
 refine Zz 55 false ?_ (hi:=by rw [e3];rfl)
 refine Ws ?_
 refine Zomake1 (m:=256) ?_ (hi:=by rfl) (hj:=by rfl)
 intro bz
 refine Tri.open (A:=blk bz 5 (List.replicate 256 (.int .u8 0))) Wp (fun h2 hb2=>?_)
 have hrd:Rd h2 (.slice (some ⟨bz,0,none⟩) 256 256) z256.length (B8 z256):=by
  rw [z256_B8,z256_len]
  exact blk_Rd hb2 ⟨Nat.le_refl _,by decide⟩ (by rw [List.length_replicate,List.take_of_length_le (by rw [List.length_replicate];exact Nat.le_refl _)])
 have hwr:=page_WriteRaw d (fmC k).1 0 (.slice (some ⟨bz,0,none⟩) 256 256) z256 h2 hrd o3 (by rw [z256_len];decide) (by rw [z256_len];omega) (by decide)
 have eD:(fmC k).1.wrs (0*4) (secs (padB z256) ((padB z256).length/64))=fmD k:=rfl
 rw [eD] at hwr
 refine Ws ?_
 refine Zd hwr ?_
 refine Ws ?_
 refine Zz 61 false ?_ (hi:=by rw [e4];rfl)
 refine Ws ?_
 refine Zd hf2 ?_
 refine Ws ?_
 refine Zz 66 false ?_ (hi:=by rw [e5];rfl)
 refine Ws ?_
 refine Zla (cs:=tabL) ?_ (hl:=by exact tabL_length)
 refine Ws ?_
 refine Zla (cs:=spL (spF k)) ?_ (hl:=by rfl)
 refine Ws ?_
 refine Zla (cs:=bmL (fm1 k)) ?_ (hl:=by exact bmL_len len)
 refine Ws ?_
 refine Zcs hba ?_
 rintro r9 H9 ⟨pb,pv,rfl,rfl⟩
 refine Wap ?_
 refine Ws ?_
 exact Zfn [blk pb 161 (baseL d pv (spF k) (fm1 k) false false),blk pv 146 (viewL d ⟨fmS k,1,fm1 k,fm1 k⟩),DSK d (fmS k)] (hq:=by exact⟨pb,pv,rfl,rfl⟩)
end Go.Proofs.YtcglabmlhljkmaaGreat
