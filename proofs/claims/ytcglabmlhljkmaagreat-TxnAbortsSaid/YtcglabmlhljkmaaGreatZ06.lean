/- Texts of this claim, put together: SpWalk, TxPlain4, TvWalk6, BmWalk5, SpWalk2, SpWalk3, SpWalk4, TxWalk, TxWalk2, TvWalk, WkWalk, WkWalk2, WkWalk3, TvWalk7, TvWalk2, TvWalk3, TvWalk4, TvWalk11, TvWalk12, SlWalk5. -/
import Derived.Test.YtcglabmlhljkmaaGreatZ02
import Derived.Test.YtcglabmlhljkmaaGreatZ05
import Derived.Test.YtcglabmlhljkmaaGreatZ04
import Derived.Test.YtcglabmlhljkmaaGreatZ01
import Derived.Test.YtcglabmlhljkmaaGreatZ00
set_option maxHeartbeats 64000000
set_option linter.unusedVariables false
set_option linter.unusedSimpArgs false
namespace Go.Proofs.YtcglabmlhljkmaaGreat
open Go Go.RowKit Go.Gv
theorem notT {b:Bool}(h:(!b)=true):b=false:=by cases b<;>simp_all
theorem notF {b:Bool}(h:(!b)=false):b=true:=by cases b<;>simp_all
def spL (s:SP):List Value:= [.int .u64 (s.gen:Int), .int .i64 s.addr, .int .i64 s.height, .int .i64 s.bitmap, .int .i64 s.pages]
def spV (s:SP):Value:= .agg (spL s).toArray
theorem spL_one (s:SP): ∀v∈spL s,v.oneCell'=true:=by
 intro v hv
 simp only [spL,List.mem_cons,List.not_mem_nil,or_false] at hv
 rcases hv with rfl | rfl | rfl | rfl | rfl<;>rfl
theorem spL_len (s:SP):(spL s).length=5:=rfl
theorem super_big (v:Value)(l:List UInt8)(n size:Nat)(hs:size≤8)(hl:l.length≤1000000):Gv.Spec Tryz.prog 167 #[v, .int .u64 (n:Int), .int .i64 (size:Int)] [own 5 1 v l.length (B8 l)]
  (fun r H'=>H'= [own 5 1 r (l++bigB n size).length (B8 (l++bigB n size))]):=by
 refine Gv.Spec.of (fun w h0 hw=>?_)
 refine Calls.enter Tryz.func167 rfl rfl rfl hw ?_
 simp only [argSlots]
 refine Wap ?_
 refine Ws ?_
 (refine Wl (α:=Σ' (k:Nat) (c:List UInt8) (u:Value),k≤size∧c++bigB n k=l++bigB n size) (fun x=>x.1) (fun x=> [(0,x.2.2.1),(1, .int .u64 (n:Int)),(7, .int .i64 ((x.1:Int)-1))]) (fun x=> [own 5 1 x.2.2.1 x.2.1.length (B8 x.2.1),Ex h0]) ⟨size,l,v,Nat.le_refl _,rfl⟩ ?_;rintro ⟨k,c,u,hk,hc⟩ mx hmx;(try dsimp only at hmx ⊢))
 have hcl:c.length+k=l.length+size:=by
  have:=congrArg List.length hc
  simpa [bigB_length] using this
 refine Ws ?_
 (refine Wcd ?_ ?_<;>intro h)
 ·obtain⟨j,rfl⟩: ∃j,k=j+1:=⟨k-1,by omega⟩
  refine Ws ?_
  refine Zi 19 ((UInt8.ofNat (n/2 ^ (8*j))).toNat:Int) ?_ (hi:=by rw [show ((j+1:Nat):Int)-1=(j:Int) by omega];exact byte_shr n j (by omega))
  (refine Zli (ys:= [.int .u8 ((UInt8.ofNat (n/2 ^ (8*j))).toNat:Int)]) ?_;intro vl)
  refine Ws ?_
  refine Zap ?_ (hr:=by exact rdw_own Wp) (hl:=by rfl) (h1:=by intro y hy;simp at hy;subst hy;rfl)
  intro u'
  refine Ws ?_
  refine Zat (own 5 1 u' _ _) (own 5 1 u' (c++ [UInt8.ofNat (n/2 ^ (8*j))]).length (B8 (c++ [UInt8.ofNat (n/2 ^ (8*j))]))) ?_ (e:=by rw [B8_append,lAp];rfl)
  refine Zi 7 ((j:Int)-1) ?_ (hi:=by omega)
  exact Zag ⟨j,c++ [UInt8.ofNat (n/2 ^ (8*j))],u',by omega,by rw [←hc,bigB];simp⟩
 ·obtain rfl:k=0:=by omega
  have hce:c=l++bigB n size:=by rw [←hc];simp [bigB]
  refine Ws ?_
  refine Zat (own 5 1 u _ _) (own 5 1 u (l++bigB n size).length (B8 (l++bigB n size))) ?_ (e:=by rw [hce])
  refine Zfn [own 5 1 u (l++bigB n size).length (B8 (l++bigB n size))] (hq:=?_)
  rfl
theorem super_number (v:Value)(l:List UInt8)(hl:l.length≤8):SpecR Tryz.prog 198 #[v] (fun w=>RdW w v l.length (B8 l)) (fun r H'=>r= .int .u64 (numB l:Int)∧H'= []):=by
 refine SpecR.of (fun w hr=>?_)
 refine Calls.enter Tryz.func198 rfl rfl rfl (St.rebase w) ?_
 simp only [argSlots]
 refine Ws ?_
 refine Zlr2 (hr:=hr) ?_
 refine Ws ?_
 (refine Wl (α:={ k:Nat//k≤l.length }) (fun x=>l.length-x.1) (fun x=> [(3, .int .u64 (numB (l.take x.1):Int)),(6,v),(7, .int .i64 (l.length:Int)),(8, .int .i64 (x.1:Int))]) (fun x=> [Ex (hp w)]) ⟨0,Nat.zero_le _⟩ ?_;rintro ⟨k,hk⟩ mx hmx;(try dsimp only at hmx ⊢))
 refine Ws ?_
 (refine Wcd ?_ ?_<;>intro h)
 ·have hk':k<l.length:=by omega
  have hb:=numB_lt (l.take k)
  have hb2:numB (l.take k)<256 ^ 7:=Nat.lt_of_lt_of_le hb (Nat.pow_le_pow_right (by omega) (by rw [lTk];omega))
  refine Ws ?_
  refine Zir (hr:=hr) (j:=k) ?_ (hj:=by rfl) (hlt:=by exact hk') (hl:=by rw [B8_length];omega)
  refine Ws ?_
  refine Zlr (hr:=hr) ?_ (hv:=by exact(by rw [Nat.mul_one];exact B8_get l k hk'))
  refine Ws ?_
  have hy:(((l[k]'hk').toNat:Nat):Int)%18446744073709551616=((l[k]'hk').toNat:Int):=by have:=(l[k]'hk').toNat_lt;omega
  have hor:=or8_64 (numB (l.take k)) (l[k]'hk') (by omega)
  refine Zi 3 (numB (l.take (k+1)):Int) ?_ (hi:=by rw [numB_take l k hk',hy];exact hor)
  exact Zag ⟨k+1,by omega⟩
 ·have hke:k=l.length:=by omega
  refine Ws ?_
  exact Zfr (hq:=by simp only [tupled];(rw [hke,List.take_length]))
theorem super_within (a p:Int):SpecR Tryz.prog 197 #[.int .i64 a, .int .i64 p] (fun _=>True) (fun r H'=>r= .bool (decide (2≤a) && decide (a<p))∧H'= []):=by
 refine SpecR.of (fun w _=>?_)
 refine Calls.enter Tryz.func197 rfl rfl rfl (St.rebase w) ?_
 simp only [argSlots]
 refine Ws ?_
 (refine ZcB 7 ?_ ?_<;>intro h1)
 ·refine Ws ?_
  exact Zfr (hq:=by simp only [tupled];(rw [h1];rfl))
 ·refine Ws ?_
  exact Zfr (hq:=by simp only [tupled];(rw [h1];rfl))
theorem super_place (g:Nat)(hg:g<18446744073709551616):SpecR Tryz.prog 127 #[.int .u64 (g:Int)] (fun _=>True) (fun r H'=>r= .int .i64 ((g%2:Nat):Int)∧H'= []):=by
 refine SpecR.of (fun w _=>?_)
 refine Calls.enter Tryz.func127 rfl rfl rfl (St.rebase w) ?_
 simp only [argSlots]
 refine Ws ?_
 refine Zi 2 ((g%2:Nat):Int) ?_ (hi:=by omega)
 exact Zfr (hq:=by simp only [tupled];done)
theorem super_right (s:SP):SpecR Tryz.prog 166 #[spV s] (fun _=>True) (fun r H'=>r= .bool (okS s)∧H'= []):=by
 refine SpecR.of (fun w _=>?_)
 refine Calls.enter Tryz.func166 rfl rfl rfl (St.rebase w) ?_
 simp only [argSlots]
 refine Ws ?_
 (refine Wbx ?_;intro b1)
 refine Ws ?_
 (refine ZcB 6 ?_ ?_<;>intro h1)
 ·have g1:=of_decide_eq_true h1
  refine Ws ?_
  exact Zfr (hq:=by simp only [tupled];(congr 1;rw [okS,dFf (show ¬s.gen≠0 by omega)];rfl))
 ·have g1:=of_decide_eq_false h1
  refine Ws ?_
  (refine ZcB 11 ?_ ?_<;>intro h2)
  ·have g2:=of_decide_eq_true h2
   refine Ws ?_
   exact Zfr (hq:=by simp only [tupled];(congr 1;rw [okS,dTt (show s.gen≠0 by omega),dFf (show ¬8≤s.pages by omega)];rfl))
  ·have g2:=of_decide_eq_false h2
   refine Ws ?_
   (refine ZcB 16 ?_ ?_<;>intro h3)
   ·have g3:=of_decide_eq_true h3
    refine Ws ?_
    exact Zfr (hq:=by simp only [tupled];(congr 1;rw [okS,dTt (show s.gen≠0 by omega),dTt (show 8≤s.pages by omega),dFf (show ¬s.pages≤512 by omega)];rfl))
   ·have g3:=of_decide_eq_false h3
    have hpre:okS s=((decide (2≤s.bitmap) && decide (s.bitmap<s.pages)) && (if s.height=0 then decide (s.addr=0) else decide (0<s.height) && (decide (s.height≤5) && ((decide (2≤s.addr) && decide (s.addr<s.pages)) && decide (s.addr≠s.bitmap))))):=by
     rw [okS,dTt (show s.gen≠0 by omega),dTt (show 8≤s.pages by omega),dTt (show s.pages≤512 by omega)];rfl
    refine Ws ?_
    refine Zcv (super_within s.bitmap s.pages) ?_
    refine Ws ?_
    (refine Wcb ?_ ?_<;>intro h4)
    ·refine Ws ?_
     exact Zfr (hq:=by simp only [tupled];(congr 1;rw [hpre,notT h4];rfl))
    ·have g4:(decide (2≤s.bitmap) && decide (s.bitmap<s.pages))=true:=notF h4
     rw [g4,Bool.true_and] at hpre
     refine Ws ?_
     (refine Wcd ?_ ?_<;>intro h5)
     ·rw [if_pos h5] at hpre
      refine Ws ?_
      exact Zfr (hq:=by simp only [tupled];(rw [hpre]))
     ·rw [if_neg h5] at hpre
      refine Ws ?_
      (refine ZcB 36 ?_ ?_<;>intro h6)
      ·rw [h6,Bool.true_and] at hpre
       refine Ws ?_
       (refine ZcB 42 ?_ ?_<;>intro h7)
       ·rw [h7,Bool.true_and] at hpre
        refine Ws ?_
        refine Zcv (super_within s.addr s.pages) ?_
        refine Ws ?_
        (refine ZcB 50 ?_ ?_<;>intro h8)
        ·rw [h8,Bool.true_and] at hpre
         refine Ws ?_
         exact Zfr (hq:=by simp only [tupled];(rw [hpre]))
        ·rw [h8,Bool.false_and] at hpre
         refine Ws ?_
         exact Zfr (hq:=by simp only [tupled];(rw [hpre]))
       ·rw [h7,Bool.false_and] at hpre
        refine Ws ?_
        exact Zfr (hq:=by simp only [tupled];(rw [hpre]))
      ·rw [h6,Bool.false_and] at hpre
       refine Ws ?_
       exact Zfr (hq:=by simp only [tupled];(rw [hpre]))
def baseT (pv:Nat)(op en:Bool):List Value:= [.pointer (some ⟨pv,0,none⟩), .bool op, .bool en]
def baseL (d pv:Nat)(s:SP)(m:BM)(op en:Bool):List Value:=tabL++(.pointer (some ⟨d,0,none⟩)::(spL s++(bmL m++baseT pv op en)))
def txL (pb tv:Nat)(a:Int)(h:Int)(ov:Bool):List Value:= [.pointer (some ⟨pb,0,none⟩), .pointer (some ⟨tv,0,none⟩), .int .i64 a, .int .i64 h, .bool ov]
theorem baseL_len {d pv:Nat}{s:SP}{m:BM}{op en:Bool}(h:m.u.length=512):(baseL d pv s m op en).length=778:=by
 simp only [baseL,lAp,lCn,tabL_length,bmL_len h,spL_len,baseT,List.length_nil]
theorem baseL_tab (d pv:Nat)(s:SP)(m:BM)(op en:Bool):((baseL d pv s m op en).drop (0+0)).take 256=tabL:=by
 rw [List.drop_zero,baseL,List.take_left' tabL_length]
theorem baseL_at {d pv:Nat}{s:SP}{m:BM}{op en:Bool}(i:Nat):(baseL d pv s m op en)[256+i]? =(Value.pointer (some ⟨d,0,none⟩)::(spL s++(bmL m++baseT pv op en)))[i]? :=by
 rw [baseL,List.getElem?_append_right (by rw [tabL_length];omega),tabL_length,Nat.add_sub_cancel_left]
theorem baseL_drop {d pv:Nat}{s:SP}{m:BM}{op en:Bool}(i:Nat):(baseL d pv s m op en).drop (256+i)=(Value.pointer (some ⟨d,0,none⟩)::(spL s++(bmL m++baseT pv op en))).drop i:=by
 rw [baseL,List.drop_append,List.drop_eq_nil_of_le (by rw [tabL_length];omega),tabL_length,Nat.add_sub_cancel_left,nAp]
theorem baseL_d {d pv:Nat}{s:SP}{m:BM}{op en:Bool}:(baseL d pv s m op en)[0+256]? =some (.pointer (some ⟨d,0,none⟩)):=baseL_at 0
theorem baseL_gen {d pv:Nat}{s:SP}{m:BM}{op en:Bool}:(baseL d pv s m op en)[0+257]? =some (.int .u64 (s.gen:Int)):=baseL_at 1
theorem baseL_bit {d pv:Nat}{s:SP}{m:BM}{op en:Bool}:(baseL d pv s m op en)[0+260]? =some (.int .i64 s.bitmap):=baseL_at 4
theorem baseL_pages {d pv:Nat}{s:SP}{m:BM}{op en:Bool}:(baseL d pv s m op en)[0+261]? =some (.int .i64 s.pages):=baseL_at 5
theorem baseL_s {d pv:Nat}{s:SP}{m:BM}{op en:Bool}:((baseL d pv s m op en).drop (0+257)).take 5=spL s:=by
 rw [show 0+257=256+1 by omega,baseL_drop]
 show (spL s++(bmL m++baseT pv op en)).take 5=_
 rw [List.take_left' (spL_len s)]
theorem baseL_root {d pv:Nat}{s:SP}{m:BM}{op en:Bool}:((baseL d pv s m op en).drop (0+258)).take 2= [.int .i64 s.addr, .int .i64 s.height] :=by
 rw [show 0+258=256+2 by omega,baseL_drop];rfl
theorem baseL_tail {d pv:Nat}{s:SP}{m:BM}{op en:Bool}(i:Nat):(baseL d pv s m op en).drop (262+i)=(bmL m++baseT pv op en).drop i:=by
 rw [show 262+i=256+(6+i) by omega,baseL_drop]
 have e:(Value.pointer (some ⟨d,0,none⟩)::(spL s++(bmL m++baseT pv op en)))=(Value.pointer (some ⟨d,0,none⟩)::spL s)++(bmL m++baseT pv op en):=rfl
 have hl:(Value.pointer (some ⟨d,0,none⟩)::spL s).length=6:=rfl
 rw [e,List.drop_append,List.drop_eq_nil_of_le (by rw [hl];omega),hl,Nat.add_sub_cancel_left,nAp]
theorem baseL_m {d pv:Nat}{s:SP}{m:BM}{op en:Bool}(h:m.u.length=512):((baseL d pv s m op en).drop (0+262)).take 513=bmL m:=by
 rw [show 0+262=262+0 by omega,baseL_tail,List.drop_zero,List.take_left' (bmL_len h)]
theorem baseL_end {d pv:Nat}{s:SP}{m:BM}{op en:Bool}(h:m.u.length=512)(i:Nat):(baseL d pv s m op en)[775+i]? =(baseT pv op en)[i]? :=by
 have e:(baseL d pv s m op en)[775+i]? =((baseL d pv s m op en).drop (262+513))[i]? :=by rw [List.getElem?_drop]
 rw [e,baseL_tail,List.drop_append,List.drop_eq_nil_of_le (by rw [bmL_len h];omega),bmL_len h,Nat.sub_self,List.drop_zero,nAp]
theorem baseL_v {d pv:Nat}{s:SP}{m:BM}{op en:Bool}(h:m.u.length=512):(baseL d pv s m op en)[0+775]? =some (.pointer (some ⟨pv,0,none⟩)):=baseL_end h 0
theorem baseL_open {d pv:Nat}{s:SP}{m:BM}{op en:Bool}(h:m.u.length=512):(baseL d pv s m op en)[0+776]? =some (.bool op):=baseL_end h 1
theorem baseL_ended {d pv:Nat}{s:SP}{m:BM}{op en:Bool}(h:m.u.length=512):(baseL d pv s m op en)[0+777]? =some (.bool en):=baseL_end h 2
theorem baseL_pre (d pv:Nat)(s:SP)(m:BM)(op en:Bool):baseL d pv s m op en=(tabL++(.pointer (some ⟨d,0,none⟩)::(spL s++bmL m)))++baseT pv op en:=by
 simp only [baseL,aAs,cAp]
theorem baseL_set (d pv:Nat)(s:SP){m:BM}(op en op':Bool)(h:m.u.length=512):(baseL d pv s m op en).set (0+776) (.bool op')=baseL d pv s m op' en:=by
 have hl:(tabL++(.pointer (some ⟨d,0,none⟩)::(spL s++bmL m))).length=775:=by
  simp only [lAp,lCn,tabL_length,bmL_len h,spL_len]
 rw [baseL_pre,baseL_pre,List.set_append,if_neg (by rw [hl];decide),hl]
 rfl
def sideBy (place:Nat→Option (Nat×Nat)):Nat→List (Nat×Value×List Value)→Prop
 | _, [] =>True
 | off,x::l=>place x.1=some (off,x.2.2.length)∧x.2.1.cells.toList=x.2.2∧sideBy place (off+x.2.2.length) l
theorem fill_seq (place:Nat→Option (Nat×Nat)): ∀(l:List (Nat×Value×List Value)) (pre mid:List Value),sideBy place pre.length l→mid.length=(l.flatMap (·.2.2)).length→
  fillL place (pre++mid) (l.map fun x=>(x.1,x.2.1))=some (pre++l.flatMap (·.2.2))
 | [],pre,mid,_,h=>by
  have:mid= [] :=List.eq_nil_of_length_eq_zero (by simpa using h)
  rw [this];rfl
 | x::l,pre,mid,hs,h=>by
  obtain⟨h1,h2,h3⟩:=hs
  rw [List.flatMap_cons,lAp] at h
  rw [List.map_cons,fillL,h1]
  have e1:Nat.beq x.2.1.cells.toList.length x.2.2.length=true:=by rw [h2];exact Nat.beq_refl _
  have e2:Nat.ble (pre.length+x.2.2.length) (pre++mid).length=true:=Nat.ble_eq_true_of_le (by rw [lAp];omega)
  simp only [e1,e2,Bool.and_self,cond_true]
  rw [h2,List.take_left,List.drop_append,List.drop_eq_nil_of_le (by omega),Nat.add_sub_cancel_left,nAp]
  have ih:=fill_seq place l (pre++x.2.2) (mid.drop x.2.2.length) (by rw [lAp];exact h3) (by rw [lDp];omega)
  rw [ih,List.flatMap_cons,aAs]
theorem view_fill (d:Nat)(v:VS)(hv:v.ok):
  fillL (fun i=>([(0,256),(256,1),(257,1),(258,513),(771,513)] :List (Nat×Nat))[i]?) (List.replicate 256 (.int .u32 0)++([.pointer none, .int .u64 0, .int .i64 0] ++(List.replicate 512 (.bool false)++([.int .i64 0] ++(List.replicate 512 (.bool false))))))
   [(0,tabV),(1, .pointer (some ⟨d,0,none⟩)),(2, .int .u64 (v.gen:Int)),(3,bmV v.m),(4,bmV v.old)] =some (viewL d v):=by
 have h:=fill_seq (fun i=>([(0,256),(256,1),(257,1),(258,513),(771,513)] :List (Nat×Nat))[i]?)
  [(0,tabV,tabL),(1, .pointer (some ⟨d,0,none⟩), [.pointer (some ⟨d,0,none⟩)]),(2, .int .u64 (v.gen:Int), [.int .u64 (v.gen:Int)]),(3,bmV v.m,bmL v.m),(4,bmV v.old,bmL v.old)] []
  (List.replicate 256 (.int .u32 0)++([.pointer none, .int .u64 0, .int .i64 0] ++(List.replicate 512 (.bool false)++([.int .i64 0] ++(List.replicate 512 (.bool false)))))) ?_ ?_
 ·rw [nAp] at h
  refine h.trans ?_
  simp only [List.flatMap_cons,List.flatMap_nil,List.append_nil,nAp,cAp,viewL]
 ·simp only [sideBy,tabL_length,bmL_len hv.m,bmL_len hv.o,lCn,List.length_nil]
  refine⟨rfl, ?_,rfl,rfl,rfl,rfl,rfl, ?_,rfl, ?_,trivial⟩<;>rfl
 ·simp only [List.flatMap_cons,List.flatMap_nil,List.append_nil,lAp,List.length_replicate,lCn,List.length_nil,tabL_length,bmL_len hv.m,bmL_len hv.o]
theorem tree_Open (d:Nat)(v:VS)(hv:v.ok)(hm:rightM v.m=true)(ho:rightM v.old=true)(hp:v.m.p=((v.S.A.length/256:Nat):Int))(hp2:v.old.p=((v.S.A.length/256:Nat):Int)):
  Gv.Spec Tryz.prog 26 #[tabV, .pointer (some ⟨d,0,none⟩), .int .u64 (v.gen:Int),bmV v.m,bmV v.old] [DSK d v.S]
  (fun r H'=> ∃pv,r= .tuple #[.pointer (some ⟨pv,0,none⟩), .int .i64 0] ∧H'= [blk pv 146 (viewL d v),DSK d v.S]):=by
 refine Gv.Spec.of (fun w h0 hw=>?_)
 refine Calls.enter Tryz.func26 rfl rfl rfl hw ?_
 simp only [argSlots]
 refine Wap ?_
 refine Ws ?_
 (refine Wbx ?_;intro b5)
 refine Ws ?_
 (refine Wbx ?_;intro b8)
 refine Ws ?_
 (refine Wbx ?_;intro b9)
 refine Ws ?_
 refine Wm [blk b8 60 (bmL v.m),blk b9 60 (bmL v.old)] ?_
 refine Wq [0,1,2] ?_
 refine ZMb 14 false ?_
 refine Zm 3 (h:=fun _ _ qK=>by exact Zla (cs:=bmL v.m) qK (hl:=by exact bmL_len hv.m)) (k:=?_)
 refine Zm 4 (h:=fun _ _ qK=>by exact Zcv (bm_Right v.m hv.m) qK) (k:=?_)
 refine Wq [5,6,7] ?_
 refine ZMb 19 false ?_ (hi:=by rw [hm];rfl)
 refine Zm 8 (h:=fun _ _ qK=>by exact Zla (cs:=bmL v.old) qK (hl:=by exact bmL_len hv.o)) (k:=?_)
 refine Zm 9 (h:=fun _ _ qK=>by exact Zcv (bm_Right v.old hv.o) qK) (k:=?_)
 refine Wq [10,11,12] ?_
 refine ZMb 24 false ?_ (hi:=by rw [ho];rfl)
 refine Wq [13,14,15] ?_
 refine ZAy 16 ?_
 refine Zd (disk_PagesD d v.S hv.S) ?_
 refine Zw ?_
 refine Wq [17,18,19] ?_
 refine ZMb 31 false ?_ (hi:=by exact dFf (fun q=>q hp))
 refine Wq [20,21,22] ?_
 refine ZAy 23 ?_
 refine Zd (disk_PagesD d v.S hv.S) ?_
 refine Zw ?_
 refine Wq [24,25] ?_
 refine ZMb 37 false ?_ (hi:=by exact dFf (fun q=>q hp2))
 refine ZE ?_
 refine Ws ?_
 refine Zla (cs:=tabL) ?_ (hl:=by exact tabL_length)
 refine Ws ?_
 refine Zla (cs:=bmL v.m) ?_ (hl:=by exact bmL_len hv.m)
 refine Ws ?_
 refine Zla (cs:=bmL v.old) ?_ (hl:=by exact bmL_len hv.o)
 refine Ws ?_
 refine Zbu (ys:=viewL d v) ?_ (hf:=by exact view_fill d v hv)
 refine Ws ?_
 (refine Wbx ?_;intro pv)
 refine Ws ?_
 exact Zfn [blk pv 146 (viewL d v),DSK d v.S] (hq:=by exact⟨pv,rfl,rfl⟩)
theorem shl8' (j:Nat)(hj:j<8)(k:Int)(hk:k=(j:Int)):IntKind.u8.wrap (1*2 ^ min k.toNat IntKind.u8.bits)=(((1:UInt8)<<<UInt8.ofNat j).toNat:Int):=by
 subst hk
 have: ∀j<8,IntKind.u8.wrap (1*2 ^ min (Int.toNat ((j:Nat):Int)) IntKind.u8.bits)=(((1:UInt8)<<<UInt8.ofNat j).toNat:Int):=by decide
 exact this j hj
theorem b8_set (l:List UInt8)(i:Nat)(c:UInt8):(B8 l).set i (.int .u8 (c.toNat:Int))=B8 (l.set i c):=by simp [B8,List.map_set]
theorem head_cells (p:Nat):((List.replicate (2+(p+7)/8) (Value.int .u8 0)).set (0+0*1) (.int .u8 ((UInt8.ofNat (p/256)).toNat:Int))).set (0+1*1) (.int .u8 ((UInt8.ofNat p).toNat:Int))=B8 (headB p):=by
 rw [show 2+(p+7)/8=((p+7)/8+1)+1 by omega,List.replicate_succ,List.replicate_succ,headB,B8_append]
 have e:B8 (List.replicate ((p+7)/8) 0)=List.replicate ((p+7)/8) (Value.int .u8 0):=by rw [B8,List.map_replicate];rfl
 rw [e];rfl
theorem bm_Put (m:BM)(hm:m.u.length=512):SpecR Tryz.prog 123 #[bmV m] (fun _=>True) (fun r H'=>H'= [own 5 1 r (putM m).length (B8 (putM m))]):=by
 refine SpecR.of (fun w _=>?_)
 refine Calls.enter Tryz.func123 rfl rfl rfl (St.rebase w) ?_
 simp only [argSlots]
 refine Ws ?_
 (refine Wbx ?_;intro bt)
 refine Ws ?_
 refine Zla ?_ (hl:=by exact bmL_length m hm)
 refine Ws ?_
 refine Zcv (bm_Right m hm) ?_
 refine Ws ?_
 (refine Wcb ?_ ?_<;>intro h1)
 ·refine Ws ?_
  have hp0:putM m= [] :=by rw [putM,if_neg (by cases hq:rightM m<;>simp [hq] at h1 ⊢)]
  (with_reducible apply Tri.ownNil 5 1)
  (first | with_reducible apply Tri.fin | with_reducible apply Tri.finN)
  case hr=>rfl
  case h=>exact ResL.cons (Res1.tmp rfl) ResL.nil
  apply fin_R (Hn:= [own 5 1 (.slice none 0 0) 0 []])
  case p=>exact Wps
  simp only [tupled]
  rw [hp0]
  rfl
 ·have hri:rightM m=true:=by cases hq:rightM m<;>simp [hq] at h1 ⊢
  have hr:=rightM_spec hri
  obtain⟨p,hpp⟩: ∃p:Nat,(p:Int)=m.p:=⟨m.p.toNat,by omega⟩
  have hpt:m.p.toNat=p:=by omega
  refine Ws ?_
  refine Zi 14 ((2+(p+7)/8:Nat):Int) ?_ (hi:=by omega)
  refine Zomake1 ?_ (hi:=by rfl) (hj:=by rfl)
  intro bb
  refine Ws ?_
  have hx:m.p/2 ^ min (Int.toNat 8) IntKind.i64.bits%256=((UInt8.ofNat (p/256)).toNat:Int):=by
   rw [show (2:Int) ^ min (Int.toNat 8) IntKind.i64.bits=256 from rfl, ←hpp]
   simp
  have hy:m.p%256=((UInt8.ofNat p).toNat:Int):=by
   rw [←hpp];simp
  refine Wm [blk bt 60 (bmL m)] ?_
  refine Wq [0,1,2,3,4,5,6,7,8] ?_
  refine Zm 9 (h:=fun _ _ qK=>by exact Zis (j:=0) qK (hj:=by rfl) (hlt:=by omega)) (k:=?_)
  refine ZA 10 ?_
  refine ZS ?_ (hi:=by rw [List.length_replicate];omega)
  refine Zw ?_
  refine Zm 11 (h:=fun _ _ qK=>by exact Zis (j:=1) qK (hj:=by rfl) (hlt:=by omega)) (k:=?_)
  refine ZA 12 ?_
  refine ZS ?_ (hi:=by rw [List.length_set,List.length_replicate];omega)
  refine Zw ?_
  refine ZE ?_
  refine Zat (blk bb _ _) (blk bb 5 (B8 (putTo m 0))) ?_ (e:=by rw [hx,hy,putTo,hpt];exact congrArg _ (head_cells p))
  refine Ws ?_
  refine Zlg ?_ (hv:=by exact bmL_drop m hm) (hl:=by rw [List.length_map];exact hm)
  refine Ws ?_
  (refine Wl (α:={ i:Nat//i≤512 }) (fun x=>512-x.1) (fun x=> [(1, .pointer (some ⟨bt,0,none⟩)),(3, .slice (some ⟨bb,0,none⟩) (2+(p+7)/8) (2+(p+7)/8)),(28, .agg (m.u.map Value.bool).toArray),(29, .int .i64 (x.1:Int))]) (fun x=> [blk bb 5 (B8 (putTo m x.1)),blk bt 60 (bmL m),Ex (hp w)]) ⟨0,Nat.zero_le _⟩ ?_;rintro ⟨i,hi⟩ mx hmx;(try dsimp only at hmx ⊢))
  refine Ws ?_
  have htl:=putTo_length m i
  rw [hpt] at htl
  (refine Wcd ?_ ?_<;>intro h)
  ·have hi':i<512:=by omega
   refine Ws ?_
   refine Zoindex ?_ (hv:=by exact useAt_get m.u i (by omega))
   refine Ws ?_
   (refine Wcb ?_ ?_<;>intro hu)
   ·have hlt:=used_lt hri hi' hu
    have hq:2+i/8<2+(p+7)/8:=by omega
    have hg:(B8 (putTo m i))[0+(2+i/8)*1]? =some (.int .u8 (((putTo m i).getD (2+i/8) 0).toNat:Int)):=by
     rw [Nat.zero_add,Nat.mul_one,B8_get _ _ (by rw [htl];exact hq),gDe,gEe (by rw [htl];exact hq)]
     rfl
    refine Ws ?_
    ((with_reducible apply Tri.quietTail 11);(case hB=>kernel_rfl);(dsimp only [List.take,List.drop]))
    refine Wqs ?_
    refine Zqo (h:=fun _ qK=>by exact Zl qK (hv:=by exact hg)) (k:=?_)
    refine Wqs ?_
    have hz:Go.bits .or .u8 (((putTo m i).getD (2+i/8) 0).toNat:Int) (IntKind.u8.wrap (1*2 ^ min ((i:Int)%8).toNat IntKind.u8.bits))=(((putTo m i).getD (2+i/8) 0 ||| (1<<<UInt8.ofNat (i%8))).toNat:Int):=by
     rw [shl8' (i%8) (by omega) _ (by omega),or8]
    refine Zi 43 (((putTo m i).getD (2+i/8) 0 ||| (1<<<UInt8.ofNat (i%8))).toNat:Int) ?_ (hi:=by exact hz)
    refine ZTriop ?_
    refine ZS ?_ (hi:=by rw [Nat.zero_add,Nat.mul_one,B8_length,htl];exact hq)
    refine Zat (blk bb _ _) (blk bb 5 (B8 (putTo m (i+1)))) ?_ (e:=by rw [Nat.zero_add,Nat.mul_one,b8_set,putTo,hu,if_pos rfl];rfl)
    refine Ws ?_
    exact Zag ⟨i+1,by omega⟩
   ·refine Ws ?_
    refine Zat (blk bb _ _) (blk bb 5 (B8 (putTo m (i+1)))) ?_ (e:=by rw [putTo,hu,if_neg (by simp)])
    exact Zag ⟨i+1,by omega⟩
  ·have e:i=512:=by omega
   subst e
   refine Ws ?_
   have hpm:putM m=putTo m 512:=by rw [putM,if_pos hri]
   have hl:(putM m).length=2+(p+7)/8:=by rw [hpm];exact htl
   ((with_reducible apply Tri.imp (A:=blk bb 5 (B8 (putTo m 512))) (B:=own 5 1 (.slice (some ⟨bb,0,none⟩) (2+(p+7)/8) (2+(p+7)/8)) (2+(p+7)/8) (B8 (putM m))));(case p=>exact Wp);(case hAB=>exact fun h hh=>own_of_blk (by rw [B8_length,hl,Nat.mul_one]) (by omega) h (by rw [hpm];exact hh)))
   (first | with_reducible apply Tri.fin | with_reducible apply Tri.finN)
   case hr=>rfl
   case h=>exact ResL.cons (Res1.tmp rfl) ResL.nil
   apply fin_R (Hn:= [own 5 1 (.slice (some ⟨bb,0,none⟩) (2+(p+7)/8) (2+(p+7)/8)) (2+(p+7)/8) (B8 (putM m))])
   case p=>exact Wps
   simp only [tupled]
   rw [hl]
theorem super_Put_no (s:SP)(h:okS s=false):SpecR Tryz.prog 126 #[spV s] (fun _=>True) (fun r H'=>r= .tuple #[.slice none 0 0, .int .i64 1] ∧H'= []):=by
 refine SpecR.of (fun w _=>?_)
 refine Calls.enter Tryz.func126 rfl rfl rfl (St.rebase w) ?_
 simp only [argSlots]
 refine Ws ?_
 (refine Wbx ?_;intro b1)
 refine Ws ?_
 refine Zla (cs:=spL s) ?_ (hl:=by rfl)
 refine Ws ?_
 refine Zcv (super_right s) ?_
 rw [h]
 refine Ws ?_
 refine Zz 7 true ?_
 refine Ws ?_
 exact Zfr (hq:=by simp only [tupled];done)
theorem super_Put (s:SP)(h:okS s=true)(hg:s.gen<18446744073709551616):SpecR Tryz.prog 126 #[spV s] (fun _=>True) (fun r H'=> ∃u,r= .tuple #[u, .int .i64 0] ∧H'= [own 5 1 u 15 (B8 (putS s))]):=by
 refine SpecR.of (fun w _=>?_)
 obtain⟨g1,g2,g3,g4,g5,g6,g7,g8,g9⟩:=okS_spec h
 refine Calls.enter Tryz.func126 rfl rfl rfl (St.rebase w) ?_
 simp only [argSlots]
 refine Ws ?_
 (refine Wbx ?_;intro b1)
 refine Ws ?_
 refine Zla (cs:=spL s) ?_ (hl:=by rfl)
 refine Ws ?_
 refine Zcv (super_right s) ?_
 rw [h]
 refine Ws ?_
 refine Zz 7 false ?_
 refine Ws ?_
 (with_reducible apply Tri.ownNil 5 1)
 refine Zat (own 5 1 (.slice none 0 0) 0 []) (own 5 1 (.slice none 0 0) ([] :List UInt8).length (B8 [])) ?_
 refine Wm [blk b1 83 (spL s)] ?_
 refine Wq [0,1,3,4,5] ?_
 refine Wq [6] ?_
 refine ZMi 14 ((s.addr.toNat:Nat):Int) ?_ (hi:=by omega)
 refine ZA 2 ?_
 refine Zcs (super_big (.slice none 0 0) [] s.gen 8 (by omega) (by simp)) ?_
 rintro r2 H2 rfl
 refine Wap ?_
 refine Zw ?_
 refine ZA 7 ?_
 refine Zcs (super_big r2 (bigB s.gen 8) s.addr.toNat 2 (by omega) (by rw [bigB_length];omega)) ?_
 rintro r7 H7 rfl
 refine Wap ?_
 refine Zw ?_
 refine Wq [8] ?_
 refine ZE ?_
 refine Ws ?_
 refine Zi 20 ((UInt8.ofNat s.height.toNat).toNat:Int) ?_ (hi:=by rw [UInt8.toNat_ofNat'];omega)
 (refine Zli (ys:= [.int .u8 ((UInt8.ofNat s.height.toNat).toNat:Int)]) ?_;intro v1)
 refine Ws ?_
 refine Zap ?_ (hr:=by exact rdw_own (v:=v1) Wp) (hl:=by rfl) (h1:=by intro y hy;simp at hy;subst hy;rfl) (hb:=by rw [lAp,bigB_length,bigB_length];omega)
 intro u4
 refine Ws ?_
 refine Zat (own 5 1 u4 _ _) (own 5 1 u4 (bigB s.gen 8++bigB s.addr.toNat 2++ [UInt8.ofNat s.height.toNat]).length (B8 (bigB s.gen 8++bigB s.addr.toNat 2++ [UInt8.ofNat s.height.toNat]))) ?_ (e:=by rw [B8_append (bigB s.gen 8++bigB s.addr.toNat 2) [_],List.length_append (bs:= [_])];rfl)
 refine Wm [blk b1 83 (spL s)] ?_
 refine Wq [0,1,2,3] ?_
 refine ZMi 26 ((s.bitmap.toNat:Nat):Int) ?_ (hi:=by omega)
 refine Wq [5,6,7] ?_
 refine ZMi 30 ((s.pages.toNat:Nat):Int) ?_ (hi:=by omega)
 refine ZA 4 ?_
 refine Zcs (super_big u4 (bigB s.gen 8++bigB s.addr.toNat 2++ [UInt8.ofNat s.height.toNat]) s.bitmap.toNat 2 (by omega) (by simp [bigB_length])) ?_
 rintro r5 H5 rfl
 refine Wap ?_
 refine Zw ?_
 refine ZA 8 ?_
 refine Zcs (super_big r5 (bigB s.gen 8++bigB s.addr.toNat 2++ [UInt8.ofNat s.height.toNat] ++bigB s.bitmap.toNat 2) s.pages.toNat 2 (by omega) (by simp [bigB_length])) ?_
 rintro r6 H6 rfl
 refine Wap ?_
 refine Zw ?_
 refine Wq [9,10] ?_
 refine ZE ?_
 refine Ws ?_
 refine Zat (own 5 1 r6 _ _) (own 5 1 r6 15 (B8 (putS s))) ?_ (e:=by rw [show bigB s.gen 8++bigB s.addr.toNat 2++ [UInt8.ofNat s.height.toNat] ++bigB s.bitmap.toNat 2++bigB s.pages.toNat 2=putS s from rfl,putS_length])
 refine Zfn [own 5 1 r6 15 (B8 (putS s))] (hq:=?_)
 exact⟨r6,rfl,rfl⟩
theorem cutB {h:PH}{v:Value}{l:List UInt8}{n:Nat}(hr:Rd h v n (B8 l))(lo hi:Nat)(h1:lo≤hi)(h2:hi≤n)(hn:l.length=n):Rd h (subv v 1 lo hi) ((l.drop lo).take (hi-lo)).length (B8 ((l.drop lo).take (hi-lo))):=by
 have q:=hr.subv (size:=1) h1 h2
 have e:((l.drop lo).take (hi-lo)).length=hi-lo:=by rw [lTk,lDp];omega
 have e2:B8 ((l.drop lo).take (hi-lo))=((B8 l).drop (lo*1)).take ((hi-lo)*1):=by simp [B8,List.map_take,List.map_drop]
 rw [e,e2];exact q
theorem super_Get (v:Value)(l:List UInt8):SpecR Tryz.prog 170 #[v] (fun w=>RdW w v l.length (B8 l)) (fun r H'=>r= .tuple #[spV (getS l).1, .int .i64 ((getS l).2:Int)] ∧H'= []):=by
 refine SpecR.of (fun w hr=>?_)
 refine Calls.enter Tryz.func170 rfl rfl rfl (St.rebase w) ?_
 simp only [argSlots]
 refine Ws ?_
 refine Zal fun b2=>?_
 refine Ws ?_
 refine Zlr2 (hr:=hr) ?_
 refine Ws ?_
 (refine Wcd ?_ ?_<;>intro h)
 ·have hg:getS l=(zeroS,3):=by rw [getS,if_pos (by omega)]
  refine Ws ?_
  refine ZSa (ys:=spL zeroS) ?_ (h1:=by exact spL_one zeroS)
  refine Ws ?_
  exact Zfr (h:=ResL.cons (Zra (spL_len zeroS)) (ResL.cons (Res1.tmp rfl) (ResL.nil))) (hq:=by simp only [tupled];(rw [hg];rfl))
 ·have hl:l.length=15:=by omega
  have hr15:RdW w v 15 (B8 l):=by rw [←hl];exact hr
  have q1:=cutB hr15 0 8 (by omega) (by omega) hl
  have e1:(l.drop 0).take (8-0)=l.take 8:=rfl
  rw [e1] at q1
  have n1:=numB_lt (l.take 8)
  rw [show (l.take 8).length=8 by rw [lTk];omega] at n1
  have q2:=cutB hr15 8 15 (by omega) (by omega) hl
  have e2:(l.drop 8).take (15-8)=l.drop 8:=List.take_of_length_le (by rw [lDp];omega)
  have hl2:(l.drop 8).length=7:=by rw [lDp];omega
  rw [e2,hl2] at q2
  obtain⟨v2,hv2⟩: ∃v2,v2=subv v 1 8 15:=⟨_,rfl⟩
  rw [←hv2] at q2
  have q3:=cutB q2 0 2 (by omega) (by omega) hl2
  have e3:((l.drop 8).drop 0).take (2-0)=(l.drop 8).take 2:=rfl
  rw [e3] at q3
  have n3:=numB_lt ((l.drop 8).take 2)
  rw [show ((l.drop 8).take 2).length=2 by rw [lTk];omega] at n3
  have q4:=cutB q2 3 7 (by omega) (by omega) hl2
  have e4:((l.drop 8).drop 3).take (7-3)=l.drop 11:=by rw [List.drop_drop];exact List.take_of_length_le (by rw [lDp];omega)
  have hl4:(l.drop 11).length=4:=by rw [lDp];omega
  rw [e4,hl4] at q4
  obtain⟨v4,hv4⟩: ∃v4,v4=subv v2 1 3 7:=⟨_,rfl⟩
  rw [←hv4] at q4
  have q5:=cutB q4 0 2 (by omega) (by omega) hl4
  have e5:((l.drop 11).drop 0).take (2-0)=(l.drop 11).take 2:=rfl
  rw [e5] at q5
  have n5:=numB_lt ((l.drop 11).take 2)
  rw [show ((l.drop 11).take 2).length=2 by rw [lTk];omega] at n5
  have q6:=cutB q4 2 4 (by omega) (by omega) hl4
  have e6:((l.drop 11).drop 2).take (4-2)=(l.drop 13).take 2:=by rw [List.drop_drop]
  rw [e6] at q6
  have n6:=numB_lt ((l.drop 13).take 2)
  rw [show ((l.drop 13).take 2).length=2 by rw [lTk,lDp];omega] at n6
  have hg10:(B8 (l.drop 8))[2*1]? =some (.int .u8 ((l.getD 10 0).toNat:Int)):=by
   rw [Nat.mul_one,B8,List.getElem?_map,List.getElem?_drop,gDe,gEe (by omega)];rfl
  have hb10:=(l.getD 10 0).toNat_lt
  refine Ws ?_
  refine Zsl (lo:=0) (hi:=8) ?_ (hr:=by exact rdw_ex Wp hr15)
  refine Ws ?_
  refine Zcv (super_number (subv v 1 0 8) (l.take 8) (by rw [lTk];omega)) ?_ (hpre:=by exact rdw_ex Wp q1)
  refine Ws ?_
  refine Zbu (ys:= [.int .u64 (numB (l.take 8):Int), .int .i64 0, .int .i64 0, .int .i64 0, .int .i64 0]) ?_
  refine Ws ?_
  refine Zal fun b4=>?_
  refine Ws ?_
  refine ZSa (ys:= [.int .u64 (numB (l.take 8):Int), .int .i64 0, .int .i64 0, .int .i64 0, .int .i64 0]) ?_ (h1:=by intro y hy;simp at hy;rcases hy with rfl | rfl<;>rfl)
  refine Ws ?_
  refine Zsl (lo:=8) (hi:=15) ?_ (hr:=by exact rdw_ex Wp hr15)
  rw [←hv2]
  refine Ws ?_
  refine Wm [Ex (hp w)] ?_
  refine Wq [0] ?_
  refine Zm 1 (h:=fun _ _ qK=>by exact Zsl (lo:=0) (hi:=2) qK (hr:=by exact rdw_ex Wp q2)) (k:=?_)
  refine Zm 2 (h:=fun _ _ qK=>by exact Zcv (super_number (subv v2 1 0 2) ((l.drop 8).take 2) (by rw [lTk];omega)) qK (hpre:=by exact rdw_ex Wp q3)) (k:=?_)
  refine Wq [3] ?_
  refine ZMi 18 ((numB ((l.drop 8).take 2):Nat):Int) ?_ (hi:=by first | rfl | omega)
  refine Wq [4] ?_
  refine Zm 5 (h:=fun _ _ qK=>by exact Zir (hr:=q2) (j:=2) qK (hj:=by rfl) (hlt:=by omega) (hl:=by rw [B8_length];omega)) (k:=?_)
  refine Zm 6 (h:=fun _ _ qK=>by exact Zlr (hr:=q2) qK (hv:=by exact hg10)) (k:=?_)
  refine Wq [7] ?_
  refine ZMi 22 (((l.getD 10 0).toNat:Nat):Int) ?_ (hi:=by first | rfl | omega)
  refine Zm 8 (h:=fun _ _ qK=>by exact Zbu (ys:= [.int .i64 (numB ((l.drop 8).take 2):Int), .int .i64 ((l.getD 10 0).toNat:Int)]) qK) (k:=?_)
  refine Wq [9] ?_
  refine ZA 10 ?_
  refine ZSg (ys:= [.int .i64 (numB ((l.drop 8).take 2):Int), .int .i64 ((l.getD 10 0).toNat:Int)]) ?_ (h1:=by intro y hy;simp at hy;rcases hy with rfl | rfl<;>rfl) (hi:=by show 0+1+2≤5;omega)
  refine Zw ?_
  refine ZE ?_
  refine Ws ?_
  refine Zsl (lo:=3) (hi:=7) ?_ (hr:=by exact rdw_ex Wp q2)
  rw [←hv4]
  refine Ws ?_
  refine Wm [Ex (hp w)] ?_
  refine Wq [0] ?_
  refine Zm 1 (h:=fun _ _ qK=>by exact Zsl (lo:=0) (hi:=2) qK (hr:=by exact rdw_ex Wp q4)) (k:=?_)
  refine Zm 2 (h:=fun _ _ qK=>by exact Zcv (super_number (subv v4 1 0 2) ((l.drop 11).take 2) (by rw [lTk];omega)) qK (hpre:=by exact rdw_ex Wp q5)) (k:=?_)
  refine Wq [3] ?_
  refine ZMi 30 ((numB ((l.drop 11).take 2):Nat):Int) ?_ (hi:=by first | rfl | omega)
  refine Wq [4] ?_
  refine Zm 5 (h:=fun _ _ qK=>by exact Zsl (lo:=2) (hi:=4) qK (hr:=by exact rdw_ex Wp q4)) (k:=?_)
  refine Zm 6 (h:=fun _ _ qK=>by exact Zcv (super_number (subv v4 1 2 4) ((l.drop 13).take 2) (by rw [lTk];omega)) qK (hpre:=by exact rdw_ex Wp q6)) (k:=?_)
  refine Wq [7] ?_
  refine ZMi 34 ((numB ((l.drop 13).take 2):Nat):Int) ?_ (hi:=by first | rfl | omega)
  refine Wq [8] ?_
  refine ZA 9 ?_
  refine ZS ?_ (hi:=by show 0+3<5;omega)
  refine Zw ?_
  refine Wq [10] ?_
  refine ZA 11 ?_
  refine ZS ?_ (hi:=by show 0+4<5;omega)
  refine Zw ?_
  refine ZE ?_
  refine Ws ?_
  refine Zat (blk b4 _ _) (blk b4 83 (spL (gotS l))) ?_
  refine Zla (cs:=spL (gotS l)) ?_ (hl:=by rfl)
  refine Ws ?_
  refine Zcv (super_right (gotS l)) ?_
  by_cases hok:okS (gotS l)=true
  ·have hg:getS l=(gotS l,0):=by rw [getS,if_neg (by omega),if_pos hok]
   rw [hok]
   refine Ws ?_
   refine Zz 39 false ?_
   refine Ws ?_
   refine Zla (cs:=spL (gotS l)) ?_ (hl:=by rfl)
   refine Ws ?_
   refine ZSa (ys:=spL (gotS l)) ?_ (h1:=by exact spL_one (gotS l))
   refine Ws ?_
   exact Zfr (h:=ResL.cons (Zra (spL_len (gotS l))) (ResL.cons (Res1.tmp rfl) (ResL.nil))) (hq:=by simp only [tupled];(rw [hg];rfl))
  ·have hno:okS (gotS l)=false:=by simpa using hok
   have hg:getS l=(zeroS,3):=by rw [getS,if_neg (by omega),if_neg hok]
   rw [hno]
   refine Ws ?_
   refine Zz 39 true ?_
   refine Ws ?_
   refine ZSa (ys:=spL zeroS) ?_ (h1:=by exact spL_one zeroS)
   refine Ws ?_
   exact Zfr (h:=ResL.cons (Zra (spL_len zeroS)) (ResL.cons (Res1.tmp rfl) (ResL.nil))) (hq:=by simp only [tupled];(rw [hg];rfl))
theorem super_Write (p:Nat)(S:DS)(s:SP)(hg:s.gen<18446744073709551616)(hS:S.ok)(hl:S.W.length≤800000):
  Gv.Spec Tryz.prog 78 #[tabV, .pointer (some ⟨p,0,none⟩),spV s] [DSK p S]
  (fun r H'=>r= .int .i64 ((wrS S s).2:Int)∧H'= [DSK p (wrS S s).1]):=by
 refine Gv.Spec.of (fun w h0 hw=>?_)
 refine Calls.enter Tryz.func78 rfl rfl rfl hw ?_
 simp only [argSlots]
 refine Wap ?_
 refine Ws ?_
 (refine Wbx ?_;intro b3)
 refine Ws ?_
 (refine Wbx ?_;intro b5)
 refine Ws ?_
 refine Zla (cs:=spL s) ?_ (hl:=by rfl)
 refine Ws ?_
 by_cases hok:okS s=true
 ·refine Zcr (super_Put s hok hg) ?_
  rintro r H' ⟨u,rfl,rfl⟩
  refine Wap ?_
  refine Ws ?_
  refine Zz 15 false ?_
  refine Ws ?_
  refine Tri.shut (e:=5) (size:=1) (v:=u) Wp (fun h2 ho=>?_)
  have hr2:Rd h2 u (pgS s).b.length (B8 (pgS s).b):=by
   show Rd h2 u (putS s).length (B8 (putS s))
   rw [putS_length];exact own_Rd ho
  have hgp:(pgS s).g<18446744073709551616:=hg
  obtain⟨Au,cu,hu,_⟩:=(own_Rd ho).slice
  subst hu
  refine Wm [blk b3 70 tabL,blk b5 83 (spL s)] ?_
  refine Zm 0 (h:=fun _ _ qK=>by exact Zla qK (hl:=by exact tabL_length)) (k:=?_)
  refine Wq [1,2,3] ?_
  refine Zm 4 (h:=fun _ _ qK=>by exact Zcv (super_place s.gen hg) qK) (k:=?_)
  refine Wq [5,6,7] ?_
  refine Zm 8 (h:=fun _ _ qK=>by exact Zbu (ys:= [.int .u8 83, .int .i64 ((s.gen%2:Nat):Int), .int .u64 (s.gen:Int), .slice Au 15 cu]) qK) (k:=?_)
  refine ZMv 25 (pgV (pgS s) (.slice Au 15 cu)) ?_ (hv:=by rfl)
  refine ZA 9 ?_
  refine Zd (page_Write p S (pgS s) (.slice Au 15 cu) h2 hr2 hgp hS hl) ?_
  refine Zw ?_
  refine Wq [10] ?_
  refine ZE ?_
  refine Ws ?_
  have hw2:wrS S s=wrPg S (pgS s):=by rw [wrS,if_pos hok]
  rw [←hw2]
  exact Zfn [DSK p (wrS S s).1] (hq:=by exact⟨rfl,rfl⟩)
 ·have hno:okS s=false:=by simpa using hok
  refine Zcv (super_Put_no s hno) ?_
  refine Ws ?_
  refine Zz 15 true ?_
  refine Ws ?_
  have hw2:wrS S s=(S,1):=by rw [wrS,if_neg hok]
  rw [hw2]
  exact Zfn [DSK p S] (hq:=by exact⟨rfl,rfl⟩)
theorem super_read (p:Nat)(S:DS)(a:Nat)(ha:a<2)(hS:S.ok)(hl:S.W.length≤1000000):
  Gv.Spec Tryz.prog 132 #[tabV, .pointer (some ⟨p,0,none⟩), .int .i64 (a:Int)] [DSK p S]
  (fun r H'=>r= .tuple #[spV (rdS S a).1, .bool (rdS S a).2.1, .int .i64 ((rdS S a).2.2:Int)] ∧H'= [DSK p S]):=by
 refine Gv.Spec.of (fun w h0 hw=>?_)
 refine Calls.enter Tryz.func132 rfl rfl rfl hw ?_
 simp only [argSlots]
 refine Wap ?_
 refine Ws ?_
 (refine Wbx ?_;intro b3)
 refine Ws ?_
 refine Zal fun b6=>?_
 refine Ws ?_
 refine Zla ?_ (hl:=by exact tabL_length)
 refine Ws ?_
 refine Zcs (page_Read p S (a:Int) 83 hS hl (by omega)) ?_
 rintro r1 H1 ⟨A,c,rfl,rfl⟩
 refine Wap ?_
 have hrd0:rdS S a=if(rdPg S (a:Int) 83).2=3 then(zeroS,false,0)
  else if(rdPg S (a:Int) 83).2≠0 then(zeroS,false,(rdPg S (a:Int) 83).2)
  else((getS (rdPg S (a:Int) 83).1.b).1,decide ((getS (rdPg S (a:Int) 83).1.b).2=0) && (decide ((getS (rdPg S (a:Int) 83).1.b).1.gen=(rdPg S (a:Int) 83).1.g) && (decide ((getS (rdPg S (a:Int) 83).1.b).1.gen%2=a) && decide ((getS (rdPg S (a:Int) 83).1.b).1.pages=((S.A.length/256:Nat):Int)))),0):=rfl
 obtain⟨R,hR⟩: ∃R,R=rdPg S (a:Int) 83:=⟨_,rfl⟩
 rw [←hR] at hrd0 ⊢
 obtain⟨q,e⟩:=R
 dsimp only at hrd0 ⊢
 refine Ws ?_
 refine Zal fun b9=>?_
 refine Ws ?_
 refine ZSa (ys:=pgL q (.slice A q.b.length c)) ?_ (h1:=by exact pgL_one q A _ c)
 refine Ws ?_
 by_cases h3:e=3
 ·subst h3
  have hrd:rdS S a=(zeroS,false,0):=by rw [hrd0,if_pos rfl]
  refine Zz 22 true ?_
  refine Ws ?_
  refine ZSa (ys:=spL zeroS) ?_ (h1:=by exact spL_one zeroS)
  refine Ws ?_
  exact Zfn [DSK p S] (h:=ResL.cons (Zra (spL_len zeroS)) (ResL.cons (Res1.tmp rfl) (ResL.cons (Res1.tmp rfl) (ResL.nil)))) (hq:=by rw [hrd];exact⟨rfl,rfl⟩)
 ·refine Zz 22 false ?_ (hi:=by rw [dFf];omega)
  refine Ws ?_
  by_cases h0':e=0
  ·subst h0'
   rw [if_neg (by omega),if_neg (by omega)] at hrd0
   refine Zz 26 false ?_
   refine Ws ?_
   refine Zcv (super_Get (.slice A q.b.length c) q.b) ?_ (hpre:=by exact rdw_own Wp)
   by_cases hg2:(getS q.b).2=0
   ·obtain⟨k1,k2,k3⟩:=getS_ok hg2
    obtain⟨G,hG⟩: ∃G,G=getS q.b:=⟨_,rfl⟩
    rw [←hG] at hrd0 hg2 k1 k2 k3 ⊢
    obtain⟨s,e2⟩:=G
    dsimp only at hrd0 hg2 k1 k2 k3 ⊢
    subst hg2
    refine Ws ?_
    refine Zal fun b11=>?_
    refine Ws ?_
    refine ZSa (ys:=spL s) ?_ (h1:=by exact spL_one s)
    refine Ws ?_
    refine Zla (cs:=spL s) ?_ (hl:=by rfl)
    refine Ws ?_
    refine Zcr (super_Put s k1 k3) ?_
    rintro r7 H7 ⟨u7,rfl,rfl⟩
    refine Wap ?_
    refine Ws ?_
    refine Wm [DSK p S,blk b9 172 (pgL q (.slice A q.b.length c)),blk b11 83 (spL s),own 5 1 u7 15 (B8 (putS s)),own 5 1 (.slice A q.b.length c) q.b.length (B8 q.b)] ?_
    refine Wq [0,1] ?_
    refine ZMb 43 true ?_
    refine Wq [2,3,4,5,6,7,8] ?_
    refine Wq [9] ?_
    have e1:decide (s.gen=q.g)=decide ((s.gen:Int)=(q.g:Int)):=decide_eq_decide.2 (by omega)
    have e2:decide (s.gen%2=a)=decide (((s.gen%2:Nat):Int)=(a:Int)):=decide_eq_decide.2 (by omega)
    rw [e1,e2] at hrd0
    ((with_reducible apply TriM.casesB 51);(case h=>rfl);(all_goals intro hg1))
    ·rw [hg1] at hrd0
     refine Wq [10,11] ?_
     refine Zm 12 (h:=fun _ _ qK=>by exact Zcv (super_place s.gen k3) qK) (k:=?_)
     refine Wq [13,14,15,16] ?_
     ((with_reducible apply TriM.casesB 58);(case h=>rfl);(all_goals intro hg2))
     ·rw [hg2] at hrd0
      refine Wq [17,18,19] ?_
      refine Zm 20 (h:=fun _ _ qK=>by exact Zd (disk_PagesD p S hS) qK) (k:=?_)
      refine Wq [21,22,23] ?_
      ((with_reducible apply TriM.casesB 65);(case h=>rfl);(all_goals intro hg3))
      ·rw [hg3] at hrd0
       refine Wq [24,25,26] ?_
       refine Zm 27 (h:=fun _ _ qK=>by exact Zcv (bytes_Equal' u7 (.slice A q.b.length c) (putS s) q.b) qK (hpre:=by exact fun w' hw'=>⟨by rw [putS_length];exact rdw_own (v:=u7) Wp w' hw',rdw_own (v:= .slice A q.b.length c) Wp w' hw'⟩)) (k:=?_)
       refine Wq [28,29] ?_
       refine ZE ?_
       refine Ws ?_
       refine Zz 14 true ?_ (hi:=by rw [dTt];exact k2)
       refine Zla (cs:=spL s) ?_ (hl:=by rfl)
       refine Ws ?_
       refine ZSa (ys:=spL s) ?_ (h1:=by exact spL_one s)
       refine Ws ?_
       exact Zfn [DSK p S] (h:=ResL.cons (Zra (spL_len s)) (ResL.cons (Res1.tmp rfl) (ResL.cons (Res1.tmp rfl) (ResL.nil)))) (hq:=by rw [hrd0];exact⟨rfl,rfl⟩)
      ·rw [hg3] at hrd0
       refine Wq [24,25,26,27,28,29] ?_
       refine ZE ?_
       refine Ws ?_
       refine Zla (cs:=spL s) ?_ (hl:=by rfl)
       refine Ws ?_
       refine ZSa (ys:=spL s) ?_ (h1:=by exact spL_one s)
       refine Ws ?_
       exact Zfn [DSK p S] (h:=ResL.cons (Zra (spL_len s)) (ResL.cons (Res1.tmp rfl) (ResL.cons (Res1.tmp rfl) (ResL.nil)))) (hq:=by rw [hrd0];exact⟨rfl,rfl⟩)
     ·rw [hg2] at hrd0
      refine Wq [17,18,19,20,21,22,23,24,25,26,27,28,29] ?_
      refine ZE ?_
      refine Ws ?_
      refine Zla (cs:=spL s) ?_ (hl:=by rfl)
      refine Ws ?_
      refine ZSa (ys:=spL s) ?_ (h1:=by exact spL_one s)
      refine Ws ?_
      exact Zfn [DSK p S] (h:=ResL.cons (Zra (spL_len s)) (ResL.cons (Res1.tmp rfl) (ResL.cons (Res1.tmp rfl) (ResL.nil)))) (hq:=by rw [hrd0];exact⟨rfl,rfl⟩)
    ·rw [hg1] at hrd0
     refine Wq [10,11,12,13,14,15,16,17,18,19,20,21,22,23,24,25,26,27,28,29] ?_
     refine ZE ?_
     refine Ws ?_
     refine Zla (cs:=spL s) ?_ (hl:=by rfl)
     refine Ws ?_
     refine ZSa (ys:=spL s) ?_ (h1:=by exact spL_one s)
     refine Ws ?_
     exact Zfn [DSK p S] (h:=ResL.cons (Zra (spL_len s)) (ResL.cons (Res1.tmp rfl) (ResL.cons (Res1.tmp rfl) (ResL.nil)))) (hq:=by rw [hrd0];exact⟨rfl,rfl⟩)
   ·have hgb:=getS_bad hg2
    rw [hgb] at hrd0 ⊢
    have hz:okS zeroS=false:=by decide
    dsimp only at hrd0
    refine Ws ?_
    refine Zal fun b11=>?_
    refine Ws ?_
    refine ZSa (ys:=spL zeroS) ?_ (h1:=by exact spL_one zeroS)
    refine Ws ?_
    refine Zla (cs:=spL zeroS) ?_ (hl:=by rfl)
    refine Ws ?_
    refine Zcv (super_Put_no zeroS hz) ?_
    refine Ws ?_
    refine Wm [DSK p S,blk b9 172 (pgL q (.slice A q.b.length c)),blk b11 83 (spL zeroS)] ?_
    refine Wq [0,1] ?_
    refine ZMb 43 false ?_
    refine Wq [2,3,4,5,6,7,8,9,10,11,12,13,14,15,16,17,18,19,20,21,22,23,24,25,26,27,28,29] ?_
    refine ZE ?_
    refine Ws ?_
    refine Zla (cs:=spL zeroS) ?_ (hl:=by rfl)
    refine Ws ?_
    refine ZSa (ys:=spL zeroS) ?_ (h1:=by exact spL_one zeroS)
    refine Ws ?_
    exact Zfn [DSK p S] (h:=ResL.cons (Zra (spL_len zeroS)) (ResL.cons (Res1.tmp rfl) (ResL.cons (Res1.tmp rfl) (ResL.nil)))) (hq:=by rw [hrd0];exact⟨rfl,rfl⟩)
  ·have hrd:rdS S a=(zeroS,false,e):=by rw [hrd0,if_neg h3,if_pos h0']
   refine Zz 26 true ?_ (hi:=by rw [dTt];omega)
   refine Ws ?_
   refine ZSa (ys:=spL zeroS) ?_ (h1:=by exact spL_one zeroS)
   refine Ws ?_
   exact Zfn [DSK p S] (h:=ResL.cons (Zra (spL_len zeroS)) (ResL.cons (Res1.tmp rfl) (ResL.cons (Res1.tmp rfl) (ResL.nil)))) (hq:=by rw [hrd];exact⟨rfl,rfl⟩)
theorem nwTo_succ (S:DS)(k:Nat):nwTo S (k+1)=if(nwTo S k).2≠0 then nwTo S k else if(rdS S k).2.2≠0 then(zeroS,(rdS S k).2.2) else if(rdS S k).2.1=true∧(nwTo S k).1.gen<(rdS S k).1.gen then((rdS S k).1,0) else nwTo S k:=rfl
theorem nwTo_err {S:DS}{j:Nat}(hj:j≤2)(h:(nwTo S j).2≠0):nwTo S 2=nwTo S j:=by
 match j,hj with
 | 0,_=>exact absurd rfl h
 | 1,_=>rw [nwTo_succ,if_pos h]
 | 2,_=>rfl
theorem super_Newest (p:Nat)(S:DS)(hS:S.ok)(hl:S.W.length≤1000000):
  Gv.Spec Tryz.prog 87 #[tabV, .pointer (some ⟨p,0,none⟩)] [DSK p S]
  (fun r H'=>r= .tuple #[spV (nwS S).1, .int .i64 ((nwS S).2:Int)] ∧H'= [DSK p S]):=by
 refine Gv.Spec.of (fun w h0 hw=>?_)
 refine Calls.enter Tryz.func87 rfl rfl rfl hw ?_
 simp only [argSlots]
 refine Wap ?_
 refine Ws ?_
 (refine Wbx ?_;intro b2)
 refine Ws ?_
 refine Zal fun b4=>?_
 refine Ws ?_
 refine Zal fun b6=>?_
 refine Ws ?_
 (refine Wl (α:={ k:Nat//k≤2∧(nwTo S k).2=0 }) (fun x=>2-x.1) (fun x=> [(1, .pointer (some ⟨p,0,none⟩)),(2, .pointer (some ⟨b2,0,none⟩)),(4, .pointer (some ⟨b4,0,none⟩)),(6, .pointer (some ⟨b6,0,none⟩)),(11, .int .i64 (x.1:Int))]) (fun x=> [blk b6 83 (spL (nwTo S x.1).1),blk b4 83 (spL zeroS),DSK p S,blk b2 70 tabL,Ex h0]) ⟨0,Nat.zero_le _,rfl⟩ ?_;rintro ⟨k,hk,hz⟩ mx hmx;(try dsimp only at hmx ⊢))
 refine Ws ?_
 (refine Wcd ?_ ?_<;>intro h)
 ·have hn:=nwTo_succ S k
  rw [if_neg (by rw [hz];simp)] at hn
  refine Ws ?_
  refine Zla ?_ (hl:=by exact tabL_length)
  refine Ws ?_
  refine Zd (super_read p S k (by omega) hS hl) ?_
  obtain⟨R,hR⟩: ∃R,R=rdS S k:=⟨_,rfl⟩
  rw [←hR] at hn ⊢
  obtain⟨s,b,e⟩:=R
  dsimp only at hn ⊢
  refine Ws ?_
  refine Zal fun b8=>?_
  refine Ws ?_
  refine ZSa (ys:=spL s) ?_ (h1:=by exact spL_one s)
  refine Ws ?_
  by_cases he:e=0
  ·subst he
   rw [if_neg (by simp)] at hn
   refine Zz 23 false ?_
   refine Ws ?_
   (refine ZcB 27 ?_ ?_<;>intro hb)
   ·subst hb
    refine Ws ?_
    (refine Wcd ?_ ?_<;>intro h2)
    ·have h2':(nwTo S k).1.gen<s.gen:=by omega
     rw [if_pos ⟨rfl,h2'⟩] at hn
     refine Ws ?_
     refine Zla (cs:=spL s) ?_ (hl:=by rfl)
     refine Ws ?_
     refine ZSa (ys:=spL s) ?_ (h1:=by exact spL_one s)
     refine Ws ?_
     refine Zat (blk b6 _ _) (blk b6 83 (spL (nwTo S (k+1)).1)) ?_ (e:=by rw [hn])
     exact Zag ⟨k+1,by omega,by rw [hn]⟩
    ·rw [if_neg (fun q=>h2 (by omega))] at hn
     refine Ws ?_
     refine Zat (blk b6 _ _) (blk b6 83 (spL (nwTo S (k+1)).1)) ?_ (e:=by rw [hn])
     exact Zag ⟨k+1,by omega,by rw [hn];exact hz⟩
   ·subst hb
    rw [if_neg (fun q=>by cases q.1)] at hn
    refine Ws ?_
    refine Zat (blk b6 _ _) (blk b6 83 (spL (nwTo S (k+1)).1)) ?_ (e:=by rw [hn])
    exact Zag ⟨k+1,by omega,by rw [hn];exact hz⟩
  ·rw [if_pos he] at hn
   have hnn:nwS S=(zeroS,e):=by
    have h3:(nwTo S (k+1)).2≠0:=by rw [hn];exact he
    have h4:=nwTo_err (j:=k+1) (by omega) h3
    rw [nwS,h4,if_pos h3,hn]
   refine Zz 23 true ?_ (hi:=by rw [dTt];omega)
   refine Ws ?_
   refine ZSa (ys:=spL zeroS) ?_ (h1:=by exact spL_one zeroS)
   refine Ws ?_
   exact Zfn [DSK p S] (h:=ResL.cons (Zra (spL_len zeroS)) (ResL.cons (Res1.tmp rfl) (ResL.nil))) (hq:=by rw [hnn];exact⟨rfl,rfl⟩)
 ·obtain rfl:k=2:=by omega
  refine Ws ?_
  (refine Wcd ?_ ?_<;>intro h2)
  ·have hnn:nwS S=(zeroS,3):=by rw [nwS,if_neg (by rw [hz];simp),if_pos (by omega)]
   refine Ws ?_
   refine ZSa (ys:=spL zeroS) ?_ (h1:=by exact spL_one zeroS)
   refine Ws ?_
   exact Zfn [DSK p S] (h:=ResL.cons (Zra (spL_len zeroS)) (ResL.cons (Res1.tmp rfl) (ResL.nil))) (hq:=by rw [hnn];exact⟨rfl,rfl⟩)
  ·have hnn:nwS S=nwTo S 2:=by rw [nwS,if_neg (by rw [hz];simp),if_neg (by omega)]
   refine Ws ?_
   refine Zla (cs:=spL (nwTo S 2).1) ?_ (hl:=by rfl)
   refine Ws ?_
   refine ZSa (ys:=spL (nwTo S 2).1) ?_ (h1:=by exact spL_one (nwTo S 2).1)
   refine Ws ?_
   exact Zfn [DSK p S] (h:=ResL.cons (Zra (spL_len (nwTo S 2).1)) (ResL.cons (Res1.tmp rfl) (ResL.nil))) (hq:=by rw [hnn,hz];exact⟨rfl,rfl⟩)
theorem txn_writeMap (p:Nat)(S:DS)(a:Int)(g:Nat)(m:BM)(hm:m.u.length=512)(hg:g<18446744073709551616)(hS:S.ok)(hl:S.W.length≤800000)(hn:(putM m).length≤1000000):
  Gv.Spec Tryz.prog 76 #[tabV, .pointer (some ⟨p,0,none⟩), .int .i64 a, .int .u64 (g:Int),bmV m] [DSK p S]
  (fun r H'=>r= .int .i64 ((wrPg S (mpP a g m)).2:Int)∧H'= [DSK p (wrPg S (mpP a g m)).1]):=by
 refine Gv.Spec.of (fun w h0 hw=>?_)
 refine Calls.enter Tryz.func76 rfl rfl rfl hw ?_
 simp only [argSlots]
 refine Wap ?_
 refine Ws ?_
 (refine Wbx ?_;intro b5)
 refine Ws ?_
 (refine Wbx ?_;intro b9)
 refine Ws ?_
 refine Wm [blk b5 70 tabL,blk b9 60 (bmL m)] ?_
 refine Zm 0 (h:=fun _ _ qK=>by exact Zla (cs:=tabL) qK (hl:=by exact tabL_length)) (k:=?_)
 refine Wq [1,2,3] ?_
 refine Zm 4 (h:=fun _ _ qK=>by exact Zla (cs:=bmL m) qK (hl:=by exact bmL_len hm)) (k:=?_)
 refine ZA 5 ?_
 refine Zcr (bm_Put m hm) ?_
 rintro u H1 rfl
 refine Wap ?_
 refine Tri.shut (e:=5) (size:=1) (v:=u) Wp (fun h2 ho=>?_)
 have hr2:Rd h2 u (mpP a g m).b.length (B8 (mpP a g m).b):=own_Rd ho
 have hgp:(mpP a g m).g<18446744073709551616:=hg
 obtain⟨Au,cu,hu,_⟩:=(own_Rd ho).slice
 subst hu
 refine Zw ?_
 refine Zm 6 (h:=fun _ _ qK=>by exact Zbu (ys:= [.int .u8 66, .int .i64 a, .int .u64 (g:Int), .slice Au (putM m).length cu]) qK) (k:=?_)
 refine ZMv 17 (pgV (mpP a g m) (.slice Au (putM m).length cu)) ?_ (hv:=by rfl)
 refine ZA 7 ?_
 refine Zd (page_Write p S (mpP a g m) (.slice Au (putM m).length cu) h2 hr2 hgp hS hl) ?_
 refine Zw ?_
 refine Wq [8] ?_
 refine ZE ?_
 refine Ws ?_
 exact Zfn [DSK p (wrPg S (mpP a g m)).1] (hq:=by exact⟨rfl,rfl⟩)
theorem fill_seqD (place:Nat→Option (Nat×Nat)): ∀(l:List (Nat×Value×List Value)) (pre M:List Value),sideBy place pre.length l→(l.flatMap (·.2.2)).length≤M.length→
  fillL place (pre++M) (l.map fun x=>(x.1,x.2.1))=some (pre++l.flatMap (·.2.2)++M.drop (l.flatMap (·.2.2)).length)
 | [],pre,M,_,_=>by
  show some (pre++M)=some (pre++ [] ++M)
  rw [List.append_nil]
 | x::l,pre,M,hs,h=>by
  obtain⟨h1,h2,h3⟩:=hs
  rw [List.flatMap_cons,lAp] at h
  rw [List.map_cons,fillL,h1]
  have e1:Nat.beq x.2.1.cells.toList.length x.2.2.length=true:=by rw [h2];exact Nat.beq_refl _
  have e2:Nat.ble (pre.length+x.2.2.length) (pre++M).length=true:=Nat.ble_eq_true_of_le (by rw [lAp];omega)
  simp only [e1,e2,Bool.and_self,cond_true]
  rw [h2,List.take_left,List.drop_append,List.drop_eq_nil_of_le (by omega),Nat.add_sub_cancel_left,nAp]
  have ih:=fill_seqD place l (pre++x.2.2) (M.drop x.2.2.length) (by rw [lAp];exact h3) (by rw [lDp];omega)
  rw [ih,List.flatMap_cons,lAp,List.drop_drop,aAs pre]
theorem base_fill (d pv:Nat)(s:SP)(m:BM)(hm:m.u.length=512)(M:List Value)(hM:M.length=776):
  fillL (fun i=>([(0,256),(256,1),(257,5),(262,513),(775,1),(776,1),(777,1)] :List (Nat×Nat))[i]?) (M++ [.bool false, .bool false])
   [(0,tabV),(1, .pointer (some ⟨d,0,none⟩)),(2,spV s),(3,bmV m),(4, .pointer (some ⟨pv,0,none⟩))] =some (baseL d pv s m false false):=by
 have h:=fill_seqD (fun i=>([(0,256),(256,1),(257,5),(262,513),(775,1),(776,1),(777,1)] :List (Nat×Nat))[i]?)
  [(0,tabV,tabL),(1, .pointer (some ⟨d,0,none⟩), [.pointer (some ⟨d,0,none⟩)]),(2,spV s,spL s),(3,bmV m,bmL m),(4, .pointer (some ⟨pv,0,none⟩), [.pointer (some ⟨pv,0,none⟩)])] []
  (M++ [.bool false, .bool false]) ?_ ?_
 ·rw [nAp,nAp] at h
  refine h.trans ?_
  have hl:([(0,tabV,tabL),(1,Value.pointer (some ⟨d,0,none⟩), [Value.pointer (some ⟨d,0,none⟩)]),(2,spV s,spL s),(3,bmV m,bmL m),(4,Value.pointer (some ⟨pv,0,none⟩), [Value.pointer (some ⟨pv,0,none⟩)])] :List (Nat×Value×List Value)).flatMap (·.2.2)=tabL++([.pointer (some ⟨d,0,none⟩)] ++(spL s++(bmL m++ [.pointer (some ⟨pv,0,none⟩)]))):=by
   simp only [List.flatMap_cons,List.flatMap_nil,List.append_nil]
  have hn:(tabL++([Value.pointer (some ⟨d,0,none⟩)] ++(spL s++(bmL m++ [Value.pointer (some ⟨pv,0,none⟩)])))).length=776:=by
   simp only [lAp,lCn,List.length_nil,tabL_length,bmL_len hm,spL_len]
  rw [hl,hn,List.drop_left' hM]
  simp only [baseL,baseT,aAs,cAp,nAp]
 ·simp only [sideBy,tabL_length,bmL_len hm,spL_len,lCn,List.length_nil]
  refine⟨rfl, ?_,rfl,rfl,rfl, ?_,rfl, ?_,rfl,rfl,trivial⟩<;>rfl
 ·simp only [List.flatMap_cons,List.flatMap_nil,List.append_nil,lAp,lCn,List.length_nil,tabL_length,bmL_len hm,spL_len,hM]
  omega
theorem base_filled (d pv:Nat)(s:SP)(m:BM)(hm:m.u.length=512):
  fillL (fun i=>([(0,256),(256,1),(257,5),(262,513),(775,1),(776,1),(777,1)] :List (Nat×Nat))[i]?) (List.replicate 256 (.int .u32 0)++([.pointer none, .int .u64 0, .int .i64 0, .int .i64 0, .int .i64 0, .int .i64 0, .int .i64 0] ++(List.replicate 512 (.bool false)++([.pointer none, .bool false, .bool false]))))
   [(0,tabV),(1, .pointer (some ⟨d,0,none⟩)),(2,spV s),(3,bmV m),(4, .pointer (some ⟨pv,0,none⟩))] =some (baseL d pv s m false false):=by
 have e:(List.replicate 256 (Value.int .u32 0)++([.pointer none, .int .u64 0, .int .i64 0, .int .i64 0, .int .i64 0, .int .i64 0, .int .i64 0] ++(List.replicate 512 (.bool false)++([.pointer none, .bool false, .bool false]))))=
   (List.replicate 256 (Value.int .u32 0)++([.pointer none, .int .u64 0, .int .i64 0, .int .i64 0, .int .i64 0, .int .i64 0, .int .i64 0] ++(List.replicate 512 (.bool false)++ [.pointer none])))++ [.bool false, .bool false] :=by
  simp only [aAs,cAp,nAp]
 rw [e]
 exact base_fill d pv s m hm _ (by simp only [lAp,List.length_replicate,lCn,List.length_nil])
theorem txn_based (d:Nat)(S:DS)(s:SP)(m:BM)(hv:(⟨S,s.gen,m,m⟩:VS).ok)(hr:rightM m=true)(hp:m.p=((S.A.length/256:Nat):Int)):
  Gv.Spec Tryz.prog 80 #[tabV, .pointer (some ⟨d,0,none⟩),spV s,bmV m] [DSK d S]
  (fun r H'=> ∃pb pv,r= .tuple #[.pointer (some ⟨pb,0,none⟩), .int .i64 0] ∧H'= [blk pb 161 (baseL d pv s m false false),blk pv 146 (viewL d ⟨S,s.gen,m,m⟩),DSK d S]):=by
 refine Gv.Spec.of (fun w h0 hw=>?_)
 refine Calls.enter Tryz.func80 rfl rfl rfl hw ?_
 simp only [argSlots]
 refine Wap ?_
 have hop:=tree_Open d ⟨S,s.gen,m,m⟩ hv hr hr hp hp
 refine Ws ?_
 (refine Wbx ?_;intro b4)
 refine Ws ?_
 (refine Wbx ?_;intro b6)
 refine Ws ?_
 (refine Wbx ?_;intro b7)
 refine Ws ?_
 refine Zla (cs:=tabL) ?_ (hl:=by exact tabL_length)
 refine Ws ?_
 refine Zla (cs:=bmL m) ?_ (hl:=by exact bmL_len hv.m)
 refine Ws ?_
 refine Zla (cs:=bmL m) ?_ (hl:=by exact bmL_len hv.m)
 refine Ws ?_
 refine Zcs hop ?_
 rintro r1 H1 ⟨pv,rfl,rfl⟩
 refine Wap ?_
 refine Ws ?_
 refine Zz 23 false ?_
 refine Ws ?_
 refine Zla (cs:=tabL) ?_ (hl:=by exact tabL_length)
 refine Ws ?_
 refine Zla (cs:=spL s) ?_ (hl:=by rfl)
 refine Ws ?_
 refine Zla (cs:=bmL m) ?_ (hl:=by exact bmL_len hv.m)
 refine Ws ?_
 refine Zbu (ys:=baseL d pv s m false false) ?_ (hf:=by exact base_filled d pv s m hv.m)
 refine Ws ?_
 (refine Wbx ?_;intro pb)
 refine Ws ?_
 exact Zfn [blk pb 161 (baseL d pv s m false false),blk pv 146 (viewL d ⟨S,s.gen,m,m⟩),DSK d S] (hq:=by exact⟨pb,pv,rfl,rfl⟩)
theorem base_may (pb d pv:Nat)(s:SP)(m:BM)(op en:Bool)(hm:m.u.length=512):
  Gv.Spec Tryz.prog 81 #[.pointer (some ⟨pb,0,none⟩)] [blk pb 161 (baseL d pv s m op en)]
  (fun r H'=>r= .int .i64 (if en=true then 2 else 0)∧H'= [blk pb 161 (baseL d pv s m op en)]):=by
 refine Gv.Spec.of (fun w h0 hw=>?_)
 refine Calls.enter Tryz.func81 rfl rfl rfl hw ?_
 simp only [argSlots]
 refine Wap ?_
 refine Ws ?_
 refine Zz 3 false ?_
 refine Ws ?_
 refine Zl ?_ (hv:=by exact baseL_ended hm)
 refine Ws ?_
 cases en with
 | true=>
  refine Ws ?_
  exact Zfn [blk pb 161 (baseL d pv s m op true)] (hq:=by exact⟨rfl,rfl⟩)
 | false=>
  refine Ws ?_
  exact Zfn [blk pb 161 (baseL d pv s m op false)] (hq:=by exact⟨rfl,rfl⟩)
theorem base_Super (pb d pv:Nat)(s:SP)(m:BM)(op en:Bool):
  Gv.Spec Tryz.prog 33 #[.pointer (some ⟨pb,0,none⟩)] [blk pb 161 (baseL d pv s m op en)]
  (fun r H'=>r=spV s∧H'= [blk pb 161 (baseL d pv s m op en)]):=by
 refine Gv.Spec.of (fun w h0 hw=>?_)
 refine Calls.enter Tryz.func33 rfl rfl rfl hw ?_
 simp only [argSlots]
 refine Wap ?_
 refine Ws ?_
 refine Zal fun b2=>?_
 refine Ws ?_
 refine Zz 4 false ?_
 refine Ws ?_
 refine Zlg ?_ (hv:=by exact baseL_s) (hl:=by exact spL_len s)
 refine Ws ?_
 refine ZSa (ys:=spL s) ?_ (h1:=by exact spL_one s)
 refine Ws ?_
 exact Zfn [blk pb 161 (baseL d pv s m op en)] (h:=ResL.cons (Zra (spL_len s)) (ResL.nil)) (hq:=by exact⟨rfl,rfl⟩)
theorem base_Free (pb d pv:Nat)(s:SP)(m:BM)(op en:Bool)(hm:m.u.length=512):
  Gv.Spec Tryz.prog 34 #[.pointer (some ⟨pb,0,none⟩)] [blk pb 161 (baseL d pv s m op en)]
  (fun r H'=>r= .int .i64 (freeM m:Int)∧H'= [blk pb 161 (baseL d pv s m op en)]):=by
 refine Gv.Spec.of (fun w h0 hw=>?_)
 refine Calls.enter Tryz.func34 rfl rfl rfl hw ?_
 simp only [argSlots]
 refine Wap ?_
 refine Ws ?_
 refine Zz 4 false ?_
 refine Ws ?_
 refine Zlg ?_ (hv:=by exact baseL_m hm) (hl:=by exact bmL_len hm)
 refine Ws ?_
 refine Zcv (bm_Free m hm) ?_
 refine Ws ?_
 exact Zfn [blk pb 161 (baseL d pv s m op en)] (hq:=by exact⟨rfl,rfl⟩)
theorem txn_may (pt pb tv d pv:Nat)(a h:Int)(ov:Bool)(s:SP)(m:BM)(op en:Bool)(hm:m.u.length=512):
  Gv.Spec Tryz.prog 82 #[.pointer (some ⟨pt,0,none⟩)] [blk pt 163 (txL pb tv a h ov),blk pb 161 (baseL d pv s m op en)]
  (fun r H'=>r= .int .i64 (if en=true then 2 else if ov=true then 12 else 0)∧H'= [blk pt 163 (txL pb tv a h ov),blk pb 161 (baseL d pv s m op en)]):=by
 refine Gv.Spec.of (fun w h0 hw=>?_)
 refine Calls.enter Tryz.func82 rfl rfl rfl hw ?_
 simp only [argSlots]
 refine Wap ?_
 refine Ws ?_
 refine Zz 5 false ?_
 refine Ws ?_
 refine Zd (base_may pb d pv s m op en hm) ?_
 refine Ws ?_
 cases en with
 | true=>
  refine Zz 12 true ?_
  refine Ws ?_
  exact Zfn [blk pt 163 (txL pb tv a h ov),blk pb 161 (baseL d pv s m op true)] (hq:=by exact⟨rfl,rfl⟩)
 | false=>
  refine Zz 12 false ?_
  refine Ws ?_
  cases ov with
  | true=>
   refine Ws ?_
   exact Zfn [blk pt 163 (txL pb tv a h true),blk pb 161 (baseL d pv s m op false)] (hq:=by exact⟨rfl,rfl⟩)
  | false=>
   refine Ws ?_
   exact Zfn [blk pt 163 (txL pb tv a h false),blk pb 161 (baseL d pv s m op false)] (hq:=by exact⟨rfl,rfl⟩)
theorem base_Begin (pb d pv:Nat)(S:DS)(s:SP)(m:BM)(hv:(⟨S,s.gen+1,m,m⟩:VS).ok)(hr:rightM m=true)(hp:m.p=((S.A.length/256:Nat):Int)):
  Gv.Spec Tryz.prog 31 #[.pointer (some ⟨pb,0,none⟩)] [blk pb 161 (baseL d pv s m false false),DSK d S]
  (fun r H'=> ∃pt tv,r= .tuple #[.pointer (some ⟨pt,0,none⟩), .int .i64 0] ∧H'= [blk pb 161 (baseL d pv s m true false),blk pt 163 (txL pb tv s.addr s.height false),blk tv 146 (viewL d ⟨S,s.gen+1,m,m⟩),DSK d S]):=by
 refine Gv.Spec.of (fun w h0 hw=>?_)
 refine Calls.enter Tryz.func31 rfl rfl rfl hw ?_
 simp only [argSlots]
 refine Wap ?_
 have hm:=hv.m
 have hm:m.u.length=512:=hm
 have hop:=tree_Open d ⟨S,s.gen+1,m,m⟩ hv hr hr hp hp
 have hgn:s.gen+1<18446744073709551616:=hv.g
 dsimp only at hop
 refine Ws ?_
 refine Zd (base_may pb d pv s m false false hm) ?_
 refine Ws ?_
 refine Zz 10 false ?_
 refine Ws ?_
 refine Zl ?_ (hv:=by exact baseL_open hm)
 refine Ws ?_
 refine Wm [blk pb 161 (baseL d pv s m false false)] ?_
 refine Wq [0,1,2] ?_
 refine Zm 3 (h:=fun _ _ qK=>by exact Zlg qK (hv:=by exact baseL_tab d pv s m false false) (hl:=by exact tabL_length)) (k:=?_)
 refine Wq [4,5,6] ?_
 refine Zm 7 (h:=fun _ _ qK=>by exact Zl qK (hv:=by exact baseL_d)) (k:=?_)
 refine Wq [8,9,10,11] ?_
 refine Zm 12 (h:=fun _ _ qK=>by exact Zl qK (hv:=by exact baseL_gen)) (k:=?_)
 refine Wq [13,14,15,16] ?_
 refine ZMi 30 ((s.gen+1:Nat):Int) ?_ (hi:=by exact(wrap_u64 (by omega)).trans (by omega))
 refine Zm 17 (h:=fun _ _ qK=>by exact Zlg qK (hv:=by exact baseL_m hm) (hl:=by exact bmL_len hm)) (k:=?_)
 refine Wq [18,19,20] ?_
 refine Zm 21 (h:=fun _ _ qK=>by exact Zlg qK (hv:=by exact baseL_m hm) (hl:=by exact bmL_len hm)) (k:=?_)
 refine ZA 22 ?_
 refine Zcs hop ?_
 rintro r2 H2 ⟨tv,rfl,rfl⟩
 refine Wap ?_
 refine Zw ?_
 refine Wq [23,24,25,26,27] ?_
 refine ZE ?_
 refine Ws ?_
 refine Zz 43 false ?_
 refine Ws ?_
 refine ZS ?_ (hi:=by rw [baseL_len hm];omega)
 refine Zat (blk pb _ _) (blk pb 161 (baseL d pv s m true false)) ?_ (e:=by rw [baseL_set d pv s false false true hm])
 refine Ws ?_
 refine Zlg ?_ (hv:=by exact baseL_root) (hl:=by rfl)
 refine Ws ?_
 refine Zbu (ys:=txL pb tv s.addr s.height false) ?_
 refine Ws ?_
 (refine Wbx ?_;intro pt)
 refine Ws ?_
 exact Zfn [blk pb 161 (baseL d pv s m true false),blk pt 163 (txL pb tv s.addr s.height false),blk tv 146 (viewL d ⟨S,s.gen+1,m,m⟩),DSK d S] (hq:=by exact⟨pt,tv,rfl,rfl⟩)
theorem view_Node (pv d:Nat)(v:VS)(a:Int)(leaf:Bool)(hv:v.ok)(hl:v.S.W.length≤1000000)(ha: -1000000≤a∧a≤1000000):
  Gv.Spec Tryz.prog 65 #[.pointer (some ⟨pv,0,none⟩), .int .i64 a, .bool leaf] [blk pv 146 (viewL d v),DSK d v.S]
  (fun r H'=> ∃A c B e C f,r= .tuple #[ndW (rdN v.S a leaf).leaf (.slice A (rdN v.S a leaf).E.length c) (.slice B (rdN v.S a leaf).K.length e) (.slice C (rdN v.S a leaf).D.length f), .int .i64 ((rdN v.S a leaf).e:Int)]
   ∧H'= [blk pv 146 (viewL d v),DSK d v.S,own 40 8 (.slice A (rdN v.S a leaf).E.length c) (rdN v.S a leaf).E.length (EL (rdN v.S a leaf).E),own 38 2 (.slice B (rdN v.S a leaf).K.length e) (rdN v.S a leaf).K.length (KL (rdN v.S a leaf).K),own 3 1 (.slice C (rdN v.S a leaf).D.length f) (rdN v.S a leaf).D.length (NL (rdN v.S a leaf).D)]):=by
 refine Gv.Spec.of (fun w h0 hw=>?_)
 refine Calls.enter Tryz.func65 rfl rfl rfl hw ?_
 simp only [argSlots]
 refine Wap ?_
 refine Ws ?_
 refine Zal fun b6=>?_
 refine Ws ?_
 refine Zz 12 false ?_
 refine Wo ?_
 (with_reducible refine Tri.seq ?_)
 refine Wo ?_
 (refine Wme (α:=Unit) (fun _=> [(0, .pointer (some ⟨pv,0,none⟩)),(1, .int .i64 a),(2, .bool leaf),(6, .pointer (some ⟨b6,0,none⟩)),(7, .int .i64 0),(8, .int .u8 ((kindN leaf).toNat:Int))]) (fun _=> [blk b6 125 (ndLL false (.slice none 0 0) (.slice none 0 0) (.slice none 0 0)),blk pv 146 (viewL d v),DSK d v.S,Ex h0]) ?_ ?_;rotate_left;rintro ⟨⟩;(try dsimp only);rotate_left)
 ·cases leaf
  ·refine Ws ?_
   refine Zi 8 ((kindN false).toNat:Int) ?_ (hi:=by rfl)
   refine Zat (blk b6 _ _) (blk b6 125 (ndLL false (.slice none 0 0) (.slice none 0 0) (.slice none 0 0))) ?_
   exact Zrc ()
  ·refine Ws ?_
   refine Zi 8 ((kindN true).toNat:Int) ?_ (hi:=by rfl)
   refine Zat (blk b6 _ _) (blk b6 125 (ndLL false (.slice none 0 0) (.slice none 0 0) (.slice none 0 0))) ?_
   exact Zrc ()
 refine Wo ?_
 obtain⟨R,hR⟩: ∃R,R=rdPg v.S a (kindN leaf):=⟨_,rfl⟩
 have hrd:=page_Read d v.S a (kindN leaf) hv.S hl ha
 rw [←hR] at hrd
 (refine Wme (α:=Σ' (_:Nat) (_:Option Addr),Nat) (fun x=> [(2, .bool leaf),(6, .pointer (some ⟨b6,0,none⟩)),(9, .pointer (some ⟨x.1,0,none⟩)),(10, .int .i64 (R.2:Int))]) (fun x=> [blk b6 125 (ndLL false (.slice none 0 0) (.slice none 0 0) (.slice none 0 0)),blk pv 146 (viewL d v),DSK d v.S,blk x.1 172 (pgL R.1 (.slice x.2.1 R.1.b.length x.2.2)),own 5 1 (.slice x.2.1 R.1.b.length x.2.2) R.1.b.length (B8 R.1.b),Ex h0]) ?_ ?_;rotate_left;rintro ⟨b9,A,c⟩;(try dsimp only);rotate_left)
 ·refine Ws ?_
  refine Wm [blk pv 146 (viewL d v)] ?_
  refine Wq [0,1,2] ?_
  refine Zm 3 (h:=fun _ _ qK=>by exact Zlg qK (hv:=by exact viewL_tab d v) (hl:=by exact tabL_length)) (k:=?_)
  refine Wq [4,5,6] ?_
  refine Zm 7 (h:=fun _ _ qK=>by exact Zl qK (hv:=by exact viewL_d d v)) (k:=?_)
  refine Wq [8,9] ?_
  refine ZA2 10 14 ?_ ?_
  ·refine Zcs hrd ?_
   rintro r H' ⟨A,c,rfl,rfl⟩
   refine Wap ?_
   refine Zw ?_
   refine Wq [11,12,13] ?_
   refine ZA 14 ?_
   refine Zal fun b9=>?_
   refine Zw ?_
   refine ZA 15 ?_
   refine ZSa (ys:=pgL R.1 (.slice A R.1.b.length c)) ?_ (hl:=by exact pgL_len R.1 (.slice A R.1.b.length c)) (h1:=by exact pgL_one R.1 A _ c)
   refine Zw ?_
   refine Wq [16] ?_
   refine ZE ?_
   refine Wo ?_
   exact Zrc ⟨b9,A,c⟩
  ·refine Zal fun b9=>?_
   refine Zw ?_
   refine ZA 10 ?_
   refine Zcs hrd ?_
   rintro r H' ⟨A,c,rfl,rfl⟩
   refine Wap ?_
   refine Zw ?_
   refine Wq [11,12,13] ?_
   refine ZA 15 ?_
   refine ZSa (ys:=pgL R.1 (.slice A R.1.b.length c)) ?_ (hl:=by exact pgL_len R.1 (.slice A R.1.b.length c)) (h1:=by exact pgL_one R.1 A _ c)
   refine Zw ?_
   refine Wq [16] ?_
   refine ZE ?_
   refine Wo ?_
   exact Zrc ⟨b9,A,c⟩
 have hN:rdN v.S a leaf=if R.2=0 then getN leaf R.1.b else⟨false, [], [], [],R.2⟩:=by rw [rdN, ←hR]
 by_cases hz:R.2=0
 ·rw [if_pos hz] at hN
  rw [hN]
  refine Ws ?_
  refine Zz 30 false ?_ (hi:=by rw [hz];rfl)
  refine Ws ?_
  refine Zcr (node_GetN leaf (.slice A R.1.b.length c) R.1.b) ?_ (hpre:=by exact rdw_own (v:= .slice A R.1.b.length c) Wp)
  rintro r3 H3 ⟨A1,c1,B1,d1,C1,e1,rfl,rfl⟩
  refine Wap ?_
  generalize getN leaf R.1.b=G at*
  refine Ws ?_
  refine ZSa (ys:=ndLL G.leaf (.slice A1 G.E.length c1) (.slice B1 G.K.length d1) (.slice C1 G.D.length e1)) ?_ (h1:=by exact ndLL_one G.leaf A1 B1 C1 _ c1 _ d1 _ e1)
  refine Ws ?_
  exact Zfn [blk pv 146 (viewL d v),DSK d v.S,own 40 8 (.slice A1 G.E.length c1) G.E.length (EL G.E),own 38 2 (.slice B1 G.K.length d1) G.K.length (KL G.K),own 3 1 (.slice C1 G.D.length e1) G.D.length (NL G.D)] (h:=ResL.cons (Zra (rfl:(ndLL G.leaf (.slice A1 G.E.length c1) (.slice B1 G.K.length d1) (.slice C1 G.D.length e1)).length=4)) (ResL.cons (Res1.tmp rfl) (ResL.nil))) (hq:=by exact⟨A1,c1,B1,d1,C1,e1,rfl,rfl⟩)
 ·rw [if_neg hz] at hN
  rw [hN]
  refine Ws ?_
  refine Zz 30 true ?_ (hi:=by rw [dTt];omega)
  refine Ws ?_
  refine ZSa (ys:=ndLL false (.slice none 0 0) (.slice none 0 0) (.slice none 0 0)) ?_ (h1:=by exact ndLL_one false none none none 0 0 0 0 0 0)
  refine Ws ?_
  (with_reducible apply Tri.ownNil 40 8)
  (with_reducible apply Tri.ownNil 38 2)
  (with_reducible apply Tri.ownNil 3 1)
  exact Zfn [blk pv 146 (viewL d v),DSK d v.S,own 40 8 (.slice none 0 0) 0 [],own 38 2 (.slice none 0 0) 0 [],own 3 1 (.slice none 0 0) 0 []] (h:=ResL.cons (Zra (rfl:(ndLL false (.slice none 0 0) (.slice none 0 0) (.slice none 0 0)).length=4)) (ResL.cons (Res1.tmp rfl) (ResL.nil))) (hq:=by exact⟨none,0,none,0,none,0,rfl,rfl⟩)
def eachR (es:List ENT)(I J:Nat→Atom)(pw pv d:Nat)(v:VS)(N:Nat)(C:Nat)(V:Nat→Nat)(r:Value)(H':List Atom):Prop:=
 (r= .bool true∧H'= [I es.length,blk pw 265 [.pointer (some ⟨pv,0,none⟩), .int .i64 ((N+C:Nat):Int)],blk pv 146 (viewL d v),DSK d v.S])
 ∨ ∃k,k<es.length∧r= .bool false∧H'= [J k,blk pw 265 [.pointer (some ⟨pv,0,none⟩), .int .i64 ((N+V k:Nat):Int)],blk pv 146 (viewL d v),DSK d v.S]
theorem nl_get (D:List Int)(j:Nat):(NL D)[j]? =(D[j]?).map (.int .i64):=by simp [NL]
theorem walker_entries (pw:Nat)(a h:Int):SpecR Tryz.prog 173 #[.pointer (some ⟨pw,0,none⟩), .agg #[.int .i64 a, .int .i64 h]] (fun _=>True) (fun r H'=> ∃b2 b3:Nat,r= .func (.func 199) #[] [.pointer (some ⟨b2,0,none⟩), .pointer (some ⟨b3,0,none⟩)].toArray
  ∧H'= [blk b2 263 [.pointer (some ⟨pw,0,none⟩)],blk b3 43 [.int .i64 a, .int .i64 h]]):=by
 refine SpecR.of (fun w _=>?_)
 refine Calls.enter Tryz.func173 rfl rfl rfl (St.rebase w) ?_
 simp only [argSlots]
 refine Ws ?_
 (refine Wbx ?_;intro b2)
 refine Ws ?_
 (refine Wbx ?_;intro b3)
 refine Ws ?_
 refine ZomakeFunc (vs:= [.pointer (some ⟨b2,0,none⟩), .pointer (some ⟨b3,0,none⟩)]) ?_ (hc:=by exact⟨rfl,rfl,trivial⟩)
 refine Ws ?_
 refine Zfn [blk b2 263 [.pointer (some ⟨pw,0,none⟩)],blk b3 43 [.int .i64 a, .int .i64 h]] (hq:=?_)
 exact⟨b2,b3,rfl,rfl⟩
def rowsW (es:List ENT):List (List Value):=es.map fun e=> [entV e, .int .i64 0]
theorem rowsW_get {es:List ENT}{k:Nat}{e:ENT}(h:es[k]? =some e):(rowsW es)[k]? =some [entV e, .int .i64 0] :=by rw [rowsW,List.getElem?_map,h];rfl
theorem rowsW_of {es:List ENT}{k:Nat}{vs:List Value}(h:(rowsW es)[k]? =some vs): ∃e,es[k]? =some e∧vs= [entV e, .int .i64 0] :=by
 rw [rowsW,List.getElem?_map,Option.map_eq_some_iff] at h
 obtain⟨e,h1,h2⟩:=h
 exact⟨e,h1,h2.symm⟩
theorem rowsW_length (es:List ENT):(rowsW es).length=es.length:=by simp [rowsW]
def tkC (S:DS)(h:Nat)(a:Int)(n:Nat):Nat:=if n=0 then 0 else if n≤(wkE S h a).length then wkV S h a (n-1) else wkC S h a
def rootL (a h:Int):List Value:= [.int .i64 a, .int .i64 h]
def rootV (a h:Int):Value:= .agg (rootL a h).toArray
theorem z513g:(Value.int .i64 0::List.replicate 512 (Value.bool false)).length=513:=by rw [lCn,List.length_replicate]
theorem view_give (pv d:Nat)(v:VS)(a:Int)(hv:v.ok):
  Gv.Spec Tryz.prog 106 #[.pointer (some ⟨pv,0,none⟩), .int .i64 a] [blk pv 146 (viewL d v)]
  (fun r H'=>r= .int .i64 ((giN v a).2:Int)∧H'= [blk pv 146 (viewL d (giN v a).1)]):=by
 refine Gv.Spec.of (fun w h0 hw=>?_)
 refine Calls.enter Tryz.func106 rfl rfl rfl hw ?_
 simp only [argSlots]
 refine Wap ?_
 have hg:=bm_Give v.m a 1 hv.m
 obtain⟨T,hT⟩: ∃T,T=giveM v.m a 1:=⟨_,rfl⟩
 have hTl:T.1.u.length=512:=by rw [hT];exact giveM_length _ _ _ hv.m
 rw [←hT] at hg
 refine Ws ?_
 refine Zlg ?_ (hv:=by exact viewL_m hv) (hl:=by exact bmL_len hv.m)
 refine Ws ?_
 refine Zcv hg ?_
 refine Ws ?_
 refine Zal fun b5=>?_
 refine Ws ?_
 refine ZSa (ys:=bmL T.1) ?_ (hl:=by exact bmL_len hTl) (hc:=by exact z513g) (h1:=by exact bmL_one _)
 refine Ws ?_
 by_cases hz:T.2=0
 ·have e:giN v a=(⟨v.S,v.gen,T.1,v.old⟩,0):=by rw [giN, ←hT,if_pos hz]
  rw [e]
  refine Zz 17 true ?_ (hi:=by rw [hz];rfl)
  refine Ws ?_
  refine Zla (cs:=bmL T.1) ?_ (hl:=by exact bmL_len hTl)
  refine Ws ?_
  refine ZSg (ys:=bmL T.1) ?_ (hl:=by exact bmL_len hTl) (h1:=by exact bmL_one _) (hi:=by rw [viewL_len hv];omega)
  refine Zat (blk pv _ _) (blk pv 146 (viewL d ⟨v.S,v.gen,T.1,v.old⟩)) ?_ (e:=by rw [viewL_set hv T.1 v.S])
  refine Ws ?_
  exact Zfn [blk pv 146 (viewL d ⟨v.S,v.gen,T.1,v.old⟩)] (hq:=by exact⟨by rw [hz];rfl,rfl⟩)
 ·have e:giN v a=(v,T.2):=by rw [giN, ←hT,if_neg hz]
  rw [e]
  refine Zz 17 false ?_ (hi:=by exact dFf (by omega))
  refine Ws ?_
  exact Zfn [blk pv 146 (viewL d v)] (hq:=by exact⟨rfl,rfl⟩)
theorem view_may (pv:Nat)(a:Int)(h:Nat)(hh:h≤5):SpecR Tryz.prog 61 #[.pointer (some ⟨pv,0,none⟩),rootV a (h:Int)] (fun _=>True) (fun r H'=>r= .int .i64 0∧H'= []):=by
 refine SpecR.of (fun w _=>?_)
 refine Calls.enter Tryz.func61 rfl rfl rfl (St.rebase w) ?_
 simp only [argSlots]
 refine Ws ?_
 (refine Wbx ?_;intro b3)
 refine Ws ?_
 refine Zz 7 false ?_
 refine Ws ?_
 refine Zz 12 false ?_ (hi:=by exact dFf (by omega))
 refine Ws ?_
 refine Zz 16 false ?_ (hi:=by exact dFf (by omega))
 refine Ws ?_
 refine Zfn [] (hq:=?_)
 exact⟨rfl,rfl⟩
theorem tree_child (leaf:Bool)(ev kv dv:Value)(ks:List KEY)(k:KEY)(hb:ks.length≤1000000):SpecR Tryz.prog 66 #[ndW leaf ev kv dv, .agg (keyL k).toArray] (fun w=>RdW w kv ks.length (KL ks)) (fun r H'=>r= .int .i64 (childN ks k:Int)∧H'= []):=by
 refine SpecR.of (fun w hr=>?_)
 obtain⟨Ak,ck,rfl,_⟩:=id hr
 refine Calls.enter Tryz.func66 rfl rfl rfl (St.rebase w) ?_
 simp only [argSlots]
 refine Ws ?_
 (refine Wbx ?_;intro b2)
 refine Ws ?_
 (refine Wbx ?_;intro b3)
 refine Ws ?_
 (refine Wl (α:=Σ' (i:Nat) (f:Nat),ks.length≤f+i∧i≤ks.length∧childGo ks k f i=childN ks k) (fun x=>ks.length-x.1) (fun x=> [(2, .pointer (some ⟨b2,0,none⟩)),(3, .pointer (some ⟨b3,0,none⟩)),(5, .int .i64 (x.1:Int))]) (fun x=> [blk b2 125 (ndLL leaf ev (.slice Ak ks.length ck) dv),blk b3 38 (keyL k),Ex (hp w)]) ⟨0,ks.length,Nat.le_refl _,Nat.zero_le _,rfl⟩ ?_;rintro ⟨i,f,hf,hk,hi⟩ mx hmx;(try dsimp only at hmx ⊢))
 refine Ws ?_
 refine Wm [blk b2 125 (ndLL leaf ev (.slice Ak ks.length ck) dv),blk b3 38 (keyL k),Ex (hp w)] ?_
 refine Wq [0,1,2,3,4,5,6] ?_
 by_cases c:i+1<ks.length
 ·obtain⟨g,rfl⟩: ∃g,f=g+1:=⟨f-1,by omega⟩
  have hKl:=KL_length ks
  refine ZMb 12 true ?_ (hi:=by exact dTt (by omega))
  refine Zm 7 (h:=fun _ _ qK=>by exact Zla (cs:=keyL k) qK (hl:=by rfl)) (k:=?_)
  refine Wq [8,9,10,11] ?_
  refine Zm 12 (h:=fun _ _ qK=>by exact ZoixW (j:=i+1) qK (hr:=by exact rdw_ex Wp hr) (hj:=by rfl) (hlt:=by exact c) (hl:=by omega)) (k:=?_)
  refine Zm 13 (h:=fun _ _ qK=>by exact ZoloadAggW qK (hr:=by exact rdw_ex Wp hr) (hv:=by exact KL_two ks (i+1) c) (hl:=by rfl)) (k:=?_)
  refine Zm 14 (h:=fun _ _ qK=>by exact Zcv (node_Less k (ks.getD (i+1) (0,0))) qK) (k:=?_)
  refine Wq [15,16] ?_
  refine ZE ?_
  refine Ws ?_
  rw [childGo] at hi
  cases hq:lessK k (ks.getD (i+1) (0,0)) with
  | true=>
   rw [if_neg (by rw [hq];simp)] at hi
   refine Zz 22 false ?_
   refine Ws ?_
   refine Zfn [] (hq:=?_)
   exact⟨by rw [hi];rfl,rfl⟩
  | false=>
   rw [if_pos ⟨c,hq⟩] at hi
   have hf':ks.length≤g+(i+1):=by omega
   have hk':i+1≤ks.length:=by omega
   refine Zz 22 true ?_
   refine Ws ?_
   refine Zi 5 ((i+1:Nat):Int) ?_ (hi:=by omega)
   exact Zag ⟨i+1,g,hf',hk',hi⟩
 ·have hi':i=childN ks k:=by
   rw [←hi]
   cases f with
   | zero=>rfl
   | succ f=>rw [childGo,if_neg (fun q=>c q.1)]
  refine ZMb 12 false ?_ (hi:=by exact dFf (by omega))
  refine Wq [7,8,9,10,11,12,13,14,15,16] ?_
  refine ZE ?_
  refine Ws ?_
  refine Zfn [] (hq:=?_)
  exact⟨by rw [hi'];rfl,rfl⟩
theorem z513':(Value.int .i64 0::List.replicate 512 (Value.bool false)).length=513:=by rw [lCn,List.length_replicate]
theorem view_write (pv d:Nat)(v:VS)(leaf:Bool)(ev kv dv:Value)(x:ND3)(l:List (Value×Nat×List Value))(hv:v.ok)(hl:v.S.W.length≤800000)
  (mE:(ev,x.E.length,EL x.E)∈l) (mK:(kv,x.K.length,KL x.K)∈l) (mD:(dv,x.D.length,NL x.D)∈l) (hR: ∀e∈x.E,entR e):
  Gv.Spec Tryz.prog 104 #[.pointer (some ⟨pv,0,none⟩),ndW leaf ev kv dv] [blk pv 146 (viewL d v),DSK d v.S,manyRd l]
  (fun r H'=>r= .tuple #[.int .i64 (wrN v leaf x).2.1, .int .i64 ((wrN v leaf x).2.2:Int)] ∧H'= [blk pv 146 (viewL d (wrN v leaf x).1),DSK d (wrN v leaf x).1.S,manyRd l]):=by
 refine Gv.Spec.of (fun w h0 hw=>?_)
 refine Calls.enter Tryz.func104 rfl rfl rfl hw ?_
 simp only [argSlots]
 refine Wap ?_
 refine Ws ?_
 (refine Wbx ?_;intro b3)
 refine Ws ?_
 refine Zla (cs:=ndLL leaf ev kv dv) ?_ (hl:=by rfl)
 refine Ws ?_
 by_cases hrt:rightN leaf x.E x.K x.D=true
 ·refine Zcr (node_PutN leaf ev kv dv x.E x.K x.D hrt hR) ?_ (hpre:=by exact fun w' hw'=>⟨rdw_many Wp mE w' hw',rdw_many Wp mK w' hw',rdw_many Wp mD w' hw'⟩)
  rintro r1 H1 ⟨u,rfl,rfl⟩
  refine Wap ?_
  refine Ws ?_
  refine Zz 17 false ?_
  refine Wo ?_
  obtain⟨T,hT⟩: ∃T,T=takeM v.m v.old 1:=⟨_,rfl⟩
  have hTl:T.1.u.length=512:=by rw [hT];exact takeM_length _ _ _ hv.m
  have htk:=bm_Take v.m v.old 1 hv.m hv.o
  rw [←hT] at htk
  (refine Wme (α:=Nat) (fun x=> [(0, .pointer (some ⟨pv,0,none⟩)),(3, .pointer (some ⟨b3,0,none⟩)),(6,u),(7, .int .i64 (T.2.2:Int)),(8, .pointer (some ⟨x,0,none⟩)),(9, .int .i64 T.2.1)]) (fun y=> [own 5 1 u (putN leaf x.E x.K x.D).length (B8 (putN leaf x.E x.K x.D)),blk b3 125 (ndLL leaf ev kv dv),blk pv 146 (viewL d v),DSK d v.S,manyRd l,blk y 60 (bmL T.1),Ex h0]) ?_ ?_;rotate_left;rintro b8;(try dsimp only);rotate_left)
  ·refine Ws ?_
   refine Wm [blk pv 146 (viewL d v)] ?_
   refine Wq [0,1,2] ?_
   refine Zm 3 (h:=fun _ _ qK=>by exact Zlg qK (hv:=by exact viewL_m hv) (hl:=by exact bmL_len hv.m)) (k:=?_)
   refine Wq [4,5,6] ?_
   refine Zm 7 (h:=fun _ _ qK=>by exact Zlg qK (hv:=by exact viewL_o hv) (hl:=by exact bmL_len hv.o)) (k:=?_)
   refine Zm 8 (h:=fun _ _ qK=>by exact Zcv htk qK) (k:=?_)
   refine Wq [9,10,11,12] ?_
   refine ZA 13 ?_
   refine Zal fun b8=>?_
   refine Zw ?_
   refine ZA 14 ?_
   refine ZSa (ys:=bmL T.1) ?_ (hl:=by exact bmL_len hTl) (hc:=by exact z513') (h1:=by exact bmL_one _)
   refine Zw ?_
   refine Wq [15,16] ?_
   refine ZE ?_
   refine Wo ?_
   exact Zrc b8
  by_cases hz:T.2.2=0
  ·refine Ws ?_
   refine Zz 33 false ?_ (hi:=by rw [hz];rfl)
   refine Ws ?_
   refine Zla (cs:=bmL T.1) ?_ (hl:=by exact bmL_len hTl)
   refine Ws ?_
   refine ZSg (ys:=bmL T.1) ?_ (hl:=by exact bmL_len hTl) (h1:=by exact bmL_one _) (hi:=by rw [viewL_len hv];omega)
   refine Zat (blk pv _ _) (blk pv 146 (viewL d ⟨v.S,v.gen,T.1,v.old⟩)) ?_ (e:=by rw [viewL_set hv T.1 v.S])
   refine Wo ?_
   (with_reducible refine Tri.seq ?_)
   refine Wo ?_
   (refine Wme (α:=Unit) (fun _=> [(0, .pointer (some ⟨pv,0,none⟩)),(6,u),(9, .int .i64 T.2.1),(10, .int .u8 ((kindN leaf).toNat:Int))]) (fun _=> [own 5 1 u (putN leaf x.E x.K x.D).length (B8 (putN leaf x.E x.K x.D)),blk pv 146 (viewL d ⟨v.S,v.gen,T.1,v.old⟩),DSK d v.S,manyRd l,Ex h0]) ?_ ?_;rotate_left;rintro ⟨⟩;(try dsimp only);rotate_left)
   ·cases leaf
    ·refine Ws ?_
     refine Zi 10 ((kindN false).toNat:Int) ?_ (hi:=by rfl)
     exact Zrc ()
    ·refine Ws ?_
     refine Zi 10 ((kindN true).toNat:Int) ?_ (hi:=by rfl)
     exact Zrc ()
   obtain⟨q,hq⟩: ∃q:PG,q=⟨kindN leaf,T.2.1,v.gen,putN leaf x.E x.K x.D⟩:=⟨_,rfl⟩
   refine Tri.shut (e:=5) (size:=1) (v:=u) Wp (fun h2 ho=>?_)
   have hr2:Rd h2 u q.b.length (B8 q.b):=by rw [hq];exact own_Rd ho
   have hgp:q.g<18446744073709551616:=by rw [hq];exact hv.g
   obtain⟨Au,cu,hu,_⟩:=(own_Rd ho).slice
   subst hu
   have hw1:wrN v leaf x=(⟨(wrPg v.S q).1,v.gen,T.1,v.old⟩,T.2.1,(wrPg v.S q).2):=by rw [wrN,if_neg (by rw [hrt];simp), ←hT,if_neg (by omega), ←hq]
   rw [hw1]
   obtain⟨v1,hv1⟩: ∃v1:VS,v1=⟨v.S,v.gen,T.1,v.old⟩:=⟨_,rfl⟩
   have hvl:viewL d ⟨(wrPg v.S q).1,v.gen,T.1,v.old⟩=viewL d v1:=by rw [hv1];rfl
   have hgl:(v1.gen:Int)=v.gen:=by rw [hv1]
   have hqL: ∀w', [.int .u8 ((kindN leaf).toNat:Int), .int .i64 T.2.1, .int .u64 (v1.gen:Int),w'] =pgL q w':=fun w'=>by rw [hq,hv1];rfl
   rw [hvl]
   rw [←hv1]
   refine Ws ?_
   refine Wm [blk pv 146 (viewL d v1)] ?_
   refine Wq [0,1,2,3] ?_
   refine Zm 4 (h:=fun _ _ qK=>by exact Zlg qK (hv:=by exact viewL_tab d v1) (hl:=by exact tabL_length)) (k:=?_)
   refine Wq [5,6,7] ?_
   refine Zm 8 (h:=fun _ _ qK=>by exact Zl qK (hv:=by exact viewL_d d v1)) (k:=?_)
   refine Wq [9,10,11,12,13] ?_
   refine Zm 14 (h:=fun _ _ qK=>by exact Zl qK (hv:=by exact viewL_g d v1)) (k:=?_)
   refine Wq [15] ?_
   refine Zm 16 (h:=fun _ _ qK=>by exact Zbu (ys:= [.int .u8 ((kindN leaf).toNat:Int), .int .i64 T.2.1, .int .u64 (v1.gen:Int), .slice Au (putN leaf x.E x.K x.D).length cu]) qK) (k:=?_)
   refine ZMv 57 (pgV q (.slice Au (putN leaf x.E x.K x.D).length cu)) ?_ (hv:=by rw [hqL];rfl)
   refine ZA 17 ?_
   refine Zd (page_Write d v.S q (.slice Au (putN leaf x.E x.K x.D).length cu) h2 hr2 hgp hv.S hl) ?_
   refine Zw ?_
   refine Wq [18,19] ?_
   refine ZE ?_
   refine Ws ?_
   exact Zfn [blk pv 146 (viewL d v1),DSK d (wrPg v.S q).1,manyRd l] (hq:=by exact⟨rfl,rfl⟩)
  ·refine Ws ?_
   refine Zz 33 true ?_ (hi:=by rw [dTt];omega)
   refine Ws ?_
   have hw1:wrN v leaf x=(v,0,T.2.2):=by rw [wrN,if_neg (by rw [hrt];simp), ←hT,if_pos hz]
   rw [hw1]
   exact Zfn [blk pv 146 (viewL d v),DSK d v.S,manyRd l] (hq:=by exact⟨rfl,rfl⟩)
 ·have hrt':rightN leaf x.E x.K x.D=false:=by simpa using hrt
  refine Zcr (node_PutN_no leaf ev kv dv x.E x.K x.D hrt') ?_ (hpre:=by exact fun w' hw'=>⟨rdw_many Wp mE w' hw',rdw_many Wp mK w' hw',rdw_many Wp mD w' hw'⟩)
  rintro r1 H1 ⟨rfl,rfl⟩
  refine Wap ?_
  refine Ws ?_
  refine Zz 17 true ?_
  refine Ws ?_
  have hw1:wrN v leaf x=(v,0,1):=by rw [wrN,if_pos hrt']
  rw [hw1]
  exact Zfn [blk pv 146 (viewL d v),DSK d v.S,manyRd l] (hq:=by exact⟨rfl,rfl⟩)
theorem one_int (n:Int): ∀y∈ [Value.int .i64 n],y.oneCell'=true:=fun y hy=>by rw [List.mem_singleton.1 hy];rfl
theorem view_under (pv d:Nat)(v:VS)(leaf:Bool)(AR:Option Addr)(cr:Nat)(VV:List (Value×Value×Value))(xs:List ND3)(hv:v.ok)(hxl:VV.length=xs.length)(hn:xs.length≤100000)(hl:v.S.W.length+4*xs.length≤800000)
  (hW: ∀v∈VV, ∃A a B b C c i j k,v=(Value.slice A i a,Value.slice B j b,Value.slice C k c)) (hR: ∀x∈xs, ∀e∈x.E,entR e):
  Gv.Spec Tryz.prog 101 #[.pointer (some ⟨pv,0,none⟩), .slice AR VV.length cr] [blk pv 146 (viewL d v),DSK d v.S,own 125 4 (.slice AR VV.length cr) VV.length (NDL leaf VV),manyRd (RDS VV xs)]
  (fun r H'=> ∃A a B b,r= .tuple #[ndW false (.slice none 0 0) (.slice A (unN leaf v xs).2.1.K.length a) (.slice B (unN leaf v xs).2.1.D.length b), .int .i64 ((unN leaf v xs).2.2:Int)]
   ∧H'= [blk pv 146 (viewL d (unN leaf v xs).1),DSK d (unN leaf v xs).1.S,own 125 4 (.slice AR VV.length cr) VV.length (NDL leaf VV),manyRd (RDS VV xs),own 38 2 (.slice A (unN leaf v xs).2.1.K.length a) (unN leaf v xs).2.1.K.length (KL (unN leaf v xs).2.1.K),own 3 1 (.slice B (unN leaf v xs).2.1.D.length b) (unN leaf v xs).2.1.D.length (NL (unN leaf v xs).2.1.D)]):=by
 refine Gv.Spec.of (fun w h0 hw=>?_)
 refine Calls.enter Tryz.func101 rfl rfl rfl hw ?_
 simp only [argSlots]
 refine Wap ?_
 refine Ws ?_
 refine Zal fun b4=>?_
 refine Ws ?_
 refine Zal fun b6=>?_
 refine Ws ?_
 (with_reducible apply Tri.ownNil 38 2)
 (with_reducible apply Tri.ownNil 3 1)
 refine Zat (own 38 2 (.slice none 0 0) 0 []) (own 38 2 (.slice none 0 0) 0 (KL ((xs.take 0).map (least3 leaf)))) ?_
 refine Zat (own 3 1 (.slice none 0 0) 0 []) (own 3 1 (.slice none 0 0) 0 (NL (unGo leaf v (xs.take 0)).2.1)) ?_
 refine Zat (blk pv _ _) (blk pv 146 (viewL d (unGo leaf v (xs.take 0)).1)) ?_
 refine Zat (DSK d _) (DSK d (unGo leaf v (xs.take 0)).1.S) ?_
 refine Zat (blk b6 _ _) (blk b6 125 (ndLL false (.slice none 0 0) (.slice none 0 0) (.slice none 0 0))) ?_
 refine Zat (blk b4 _ _) (blk b4 125 (ndLL false (.slice none 0 0) (.slice none 0 0) (.slice none 0 0))) ?_
 (refine Wl (α:=Σ' (i:Nat) (_:Option Addr) (_:Nat) (_:Option Addr) (_:Nat),i≤xs.length∧(unGo leaf v (xs.take i)).2.2=0) (fun x=>xs.length-x.1) (fun x=> [(0, .pointer (some ⟨pv,0,none⟩)),(4, .pointer (some ⟨b4,0,none⟩)),(6, .pointer (some ⟨b6,0,none⟩)),(11, .slice AR VV.length cr),(12, .int .i64 (VV.length:Int)),(13, .int .i64 (x.1:Int))]) (fun x=> [blk b6 125 (ndLL false (.slice none 0 0) (.slice x.2.1 x.1 x.2.2.1) (.slice x.2.2.2.1 x.1 x.2.2.2.2.1)),blk b4 125 (ndLL false (.slice none 0 0) (.slice none 0 0) (.slice none 0 0)),blk pv 146 (viewL d (unGo leaf v (xs.take x.1)).1),DSK d (unGo leaf v (xs.take x.1)).1.S,own 125 4 (.slice AR VV.length cr) VV.length (NDL leaf VV),manyRd (RDS VV xs),own 38 2 (.slice x.2.1 x.1 x.2.2.1) x.1 (KL ((xs.take x.1).map (least3 leaf))),own 3 1 (.slice x.2.2.2.1 x.1 x.2.2.2.2.1) x.1 (NL (unGo leaf v (xs.take x.1)).2.1),Ex h0]) ⟨0,none,0,none,0,Nat.zero_le _,rfl⟩ ?_;rintro ⟨i,A,a,B,b,hi,he⟩ mx hmx;(try dsimp only at hmx ⊢))
 refine Ws ?_
 (refine Wcd ?_ ?_<;>intro hc)
 ·have hix:i<xs.length:=by omega
  have hiv:i<VV.length:=by omega
  obtain⟨y,hy⟩: ∃y,xs[i]? =some y:=⟨_,gEe hix⟩
  obtain⟨vv,hvv⟩: ∃v,VV[i]? =some v:=⟨_,gEe hiv⟩
  obtain⟨A1,a1,B1,b1,C1,c1,i1,j1,k1,rfl⟩:=hW vv (List.mem_of_getElem? hvv)
  have hRy:=hR y (List.mem_of_getElem? hy)
  have hmem:=rds_at VV xs i _ y hvv hy
  have htk:xs.take (i+1)=xs.take i++ [y] :=by rw [List.take_add_one,hy];rfl
  have hsn:=unGo_snoc leaf (xs.take i) v y he
  rw [←htk] at hsn
  have hok:=unGo_ok leaf (xs.take i) hv
  have hok2:=unGo_ok leaf (xs.take (i+1)) hv
  have hln:=unGo_len leaf (xs.take i) v
  have hlt:(xs.take i).length=i:=by rw [lTk];omega
  rw [hlt] at hln
  obtain⟨U,hU⟩: ∃U,U=unGo leaf v (xs.take i):=⟨_,rfl⟩
  rw [←hU] at he hsn hok hln ⊢
  refine Ws ?_
  refine Zix (j:=i) ?_ (hj:=by rfl) (hlt:=by exact hiv)
  refine Ws ?_
  refine Zlq ?_ (hv:=by exact NDL_at VV i _ hvv) (hl:=by rfl)
  refine Ws ?_
  refine Zal fun b8=>?_
  refine Ws ?_
  refine ZSa (ys:=ndLL leaf (.slice A1 i1 a1) (.slice B1 j1 b1) (.slice C1 k1 c1)) ?_ (h1:=by exact ndLL_one leaf A1 B1 C1 i1 a1 j1 b1 k1 c1)
  refine Ws ?_
  refine Zla (cs:=ndLL leaf (.slice A1 i1 a1) (.slice B1 j1 b1) (.slice C1 k1 c1)) ?_ (hl:=by rfl)
  refine Ws ?_
  refine Zd (view_write pv d U.1 leaf (.slice A1 i1 a1) (.slice B1 j1 b1) (.slice C1 k1 c1) y (RDS VV xs) hok (by omega) hmem.1 hmem.2.1 hmem.2.2 hRy) ?_
  obtain⟨W,hWd⟩: ∃W,W=wrN U.1 leaf y:=⟨_,rfl⟩
  rw [←hWd] at hsn ⊢
  by_cases hz:W.2.2=0
  ·have he':(unGo leaf v (xs.take (i+1))).2.2=0:=by rw [hsn.2.1];exact hz
   have hix':i+1≤xs.length:=hix
   have hkl:KL ((xs.take i).map (least3 leaf))++keyL (leastN leaf y.E y.K)=KL ((xs.take (i+1)).map (least3 leaf)):=by
    rw [htk,List.map_append,KL_app];simp [KL,least3]
   have hnl:NL U.2.1++ [.int .i64 W.2.1] =NL (unGo leaf v (xs.take (i+1))).2.1:=by
    rw [hsn.2.2 hz,NL_app];rfl
   refine Ws ?_
   refine Zz 24 false ?_ (hi:=by rw [hz];rfl)
   refine Ws ?_
   refine Znm 12 [blk b8 125 (ndLL leaf (.slice A1 i1 a1) (.slice B1 j1 b1) (.slice C1 k1 c1)),manyRd (RDS VV xs)] [blk b8 125 (ndLL leaf (.slice A1 i1 a1) (.slice B1 j1 b1) (.slice C1 k1 c1)),manyRd (RDS VV xs),blk b6 125 (ndLL false (.slice none 0 0) (.slice A i a) (.slice B i b))] ?_
   refine Wnq [0,1] ?_
   refine Zn 2 (h:=fun _ _ qK=>by exact Zla (cs:=ndLL leaf (.slice A1 i1 a1) (.slice B1 j1 b1) (.slice C1 k1 c1)) qK (hl:=by rfl)) (k:=?_)
   refine Zn 3 (h:=fun _ _ qK=>by exact Zcv (node_Least leaf (.slice A1 i1 a1) (.slice B1 j1 b1) (.slice C1 k1 c1) y.E y.K y.D) qK (hpre:=by exact fun w' hw'=>⟨rdw_many Wp hmem.1 w' hw',rdw_many Wp hmem.2.1 w' hw',rdw_many Wp hmem.2.2 w' hw'⟩)) (k:=?_)
   refine Wnq [6,7,8] ?_
   ((with_reducible apply TriN.a2 4 9);(case hoi=>rfl);(case hoj=>rfl);(case hgi=>rfl);(case hgj=>rfl);(case hr=>kernel_rfl);(all_goals (try dsimp only [cAp,nAp])))
   ·(refine Zli (ys:=keyL (leastN leaf y.E y.K)) ?_;intro v4)
    refine Znb ?_
    ((with_reducible apply TriN.a2 5 9);(case hoi=>rfl);(case hoj=>rfl);(case hgi=>rfl);(case hgj=>rfl);(case hr=>kernel_rfl);(all_goals (try dsimp only [cAp,nAp])))
    ·refine Zap (m2:=1) (news:=keyL (leastN leaf y.E y.K)) ?_ (hr:=by exact rdw_own (v:=v4) Wp) (hl:=by rfl) (h1:=by exact keyL_one _)
     intro v5
     (refine Tri.shape (e:=38) (size:=2) (v:=v5) Wp ?_;rintro ⟨A2,a2,rfl⟩)
     refine Znb ?_
     refine Wnp [11] ?_
     refine Zna 9 ?_
     (refine Zli (ys:= [.int .i64 W.2.1]) ?_;intro v9)
     refine Znb ?_
     refine Zna 10 ?_
     refine Zap (m2:=1) (news:= [.int .i64 W.2.1]) ?_ (hr:=by exact rdw_own (v:=v9) Wp) (hl:=by rfl) (h1:=by exact one_int _)
     intro v10
     (refine Tri.shape (e:=3) (size:=1) (v:=v10) Wp ?_;rintro ⟨B2,b2,rfl⟩)
     refine Znb ?_
     refine Znl ?_
     refine ZS ?_ (hi:=by exact(by decide:2<4))
     refine Zw ?_
     refine Wq [13] ?_
     refine ZA 14 ?_
     refine ZS ?_ (hi:=by exact(by decide:3<4))
     refine Zw ?_
     refine ZE ?_
     refine Ws ?_
     refine Zat (own 38 2 (.slice A2 (i+1) a2) _ _) (own 38 2 (.slice A2 (i+1) a2) (i+1) (KL ((xs.take (i+1)).map (least3 leaf)))) ?_ (e:=by rw [hkl])
     refine Zat (own 3 1 (.slice B2 (i+1) b2) _ _) (own 3 1 (.slice B2 (i+1) b2) (i+1) (NL (unGo leaf v (xs.take (i+1))).2.1)) ?_ (e:=by rw [hnl])
     refine Zat (blk pv _ _) (blk pv 146 (viewL d (unGo leaf v (xs.take (i+1))).1)) ?_ (e:=by rw [hsn.1])
     refine Zat (DSK d _) (DSK d (unGo leaf v (xs.take (i+1))).1.S) ?_ (e:=by rw [hsn.1])
     refine Zat (blk b6 _ _) (blk b6 125 (ndLL false (.slice none 0 0) (.slice A2 (i+1) a2) (.slice B2 (i+1) b2))) ?_
     refine Zi 13 ((i+1:Nat):Int) ?_ (hi:=by omega)
     exact Zag ⟨i+1,A2,a2,B2,b2,hix',he'⟩
    ·(refine Zli (ys:= [.int .i64 W.2.1]) ?_;intro v9)
     refine Znb ?_
     refine Zna 5 ?_
     refine Zap (m2:=1) (news:=keyL (leastN leaf y.E y.K)) ?_ (hr:=by exact rdw_own (v:=v4) Wp) (hl:=by rfl) (h1:=by exact keyL_one _)
     intro v5
     (refine Tri.shape (e:=38) (size:=2) (v:=v5) Wp ?_;rintro ⟨A2,a2,rfl⟩)
     refine Znb ?_
     refine Wnp [11] ?_
     refine Zna 10 ?_
     refine Zap (m2:=1) (news:= [.int .i64 W.2.1]) ?_ (hr:=by exact rdw_own (v:=v9) Wp) (hl:=by rfl) (h1:=by exact one_int _)
     intro v10
     (refine Tri.shape (e:=3) (size:=1) (v:=v10) Wp ?_;rintro ⟨B2,b2,rfl⟩)
     refine Znb ?_
     refine Znl ?_
     refine ZS ?_ (hi:=by exact(by decide:2<4))
     refine Zw ?_
     refine Wq [13] ?_
     refine ZA 14 ?_
     refine ZS ?_ (hi:=by exact(by decide:3<4))
     refine Zw ?_
     refine ZE ?_
     refine Ws ?_
     refine Zat (own 38 2 (.slice A2 (i+1) a2) _ _) (own 38 2 (.slice A2 (i+1) a2) (i+1) (KL ((xs.take (i+1)).map (least3 leaf)))) ?_ (e:=by rw [hkl])
     refine Zat (own 3 1 (.slice B2 (i+1) b2) _ _) (own 3 1 (.slice B2 (i+1) b2) (i+1) (NL (unGo leaf v (xs.take (i+1))).2.1)) ?_ (e:=by rw [hnl])
     refine Zat (blk pv _ _) (blk pv 146 (viewL d (unGo leaf v (xs.take (i+1))).1)) ?_ (e:=by rw [hsn.1])
     refine Zat (DSK d _) (DSK d (unGo leaf v (xs.take (i+1))).1.S) ?_ (e:=by rw [hsn.1])
     refine Zat (blk b6 _ _) (blk b6 125 (ndLL false (.slice none 0 0) (.slice A2 (i+1) a2) (.slice B2 (i+1) b2))) ?_
     refine Zi 13 ((i+1:Nat):Int) ?_ (hi:=by omega)
     exact Zag ⟨i+1,A2,a2,B2,b2,hix',he'⟩
   ·(refine Zli (ys:= [.int .i64 W.2.1]) ?_;intro v9)
    refine Znb ?_
    refine Zna 4 ?_
    (refine Zli (ys:=keyL (leastN leaf y.E y.K)) ?_;intro v4)
    refine Znb ?_
    refine Zna 5 ?_
    refine Zap (m2:=1) (news:=keyL (leastN leaf y.E y.K)) ?_ (hr:=by exact rdw_own (v:=v4) Wp) (hl:=by rfl) (h1:=by exact keyL_one _)
    intro v5
    (refine Tri.shape (e:=38) (size:=2) (v:=v5) Wp ?_;rintro ⟨A2,a2,rfl⟩)
    refine Znb ?_
    refine Wnp [11] ?_
    refine Zna 10 ?_
    refine Zap (m2:=1) (news:= [.int .i64 W.2.1]) ?_ (hr:=by exact rdw_own (v:=v9) Wp) (hl:=by rfl) (h1:=by exact one_int _)
    intro v10
    (refine Tri.shape (e:=3) (size:=1) (v:=v10) Wp ?_;rintro ⟨B2,b2,rfl⟩)
    refine Znb ?_
    refine Znl ?_
    refine ZS ?_ (hi:=by exact(by decide:2<4))
    refine Zw ?_
    refine Wq [13] ?_
    refine ZA 14 ?_
    refine ZS ?_ (hi:=by exact(by decide:3<4))
    refine Zw ?_
    refine ZE ?_
    refine Ws ?_
    refine Zat (own 38 2 (.slice A2 (i+1) a2) _ _) (own 38 2 (.slice A2 (i+1) a2) (i+1) (KL ((xs.take (i+1)).map (least3 leaf)))) ?_ (e:=by rw [hkl])
    refine Zat (own 3 1 (.slice B2 (i+1) b2) _ _) (own 3 1 (.slice B2 (i+1) b2) (i+1) (NL (unGo leaf v (xs.take (i+1))).2.1)) ?_ (e:=by rw [hnl])
    refine Zat (blk pv _ _) (blk pv 146 (viewL d (unGo leaf v (xs.take (i+1))).1)) ?_ (e:=by rw [hsn.1])
    refine Zat (DSK d _) (DSK d (unGo leaf v (xs.take (i+1))).1.S) ?_ (e:=by rw [hsn.1])
    refine Zat (blk b6 _ _) (blk b6 125 (ndLL false (.slice none 0 0) (.slice A2 (i+1) a2) (.slice B2 (i+1) b2))) ?_
    refine Zi 13 ((i+1:Nat):Int) ?_ (hi:=by omega)
    exact Zag ⟨i+1,A2,a2,B2,b2,hix',he'⟩
  ·refine Ws ?_
   refine Zz 24 true ?_ (hi:=by rw [dTt];omega)
   refine Ws ?_
   have hst:=unGo_stop leaf (xs.take (i+1)) v (xs.drop (i+1)) (by rw [hsn.2.1];exact hz)
   rw [List.take_append_drop] at hst
   have hun:unN leaf v xs=(W.1,⟨[], [], []⟩,W.2.2):=by
    rw [unN,hst,hsn.2.1,if_neg hz,hsn.1]
   rw [hun]
   refine ZSa (ys:=ndLL false (.slice none 0 0) (.slice none 0 0) (.slice none 0 0)) ?_ (h1:=by exact ndLL_one false none none none 0 0 0 0 0 0)
   refine Ws ?_
   (with_reducible apply Tri.ownNil 38 2)
   (with_reducible apply Tri.ownNil 3 1)
   exact Zfn [blk pv 146 (viewL d W.1),DSK d W.1.S,own 125 4 (.slice AR VV.length cr) VV.length (NDL leaf VV),manyRd (RDS VV xs),own 38 2 (.slice none 0 0) 0 [],own 3 1 (.slice none 0 0) 0 []] (h:=ResL.cons (Zra (rfl:(ndLL false (.slice none 0 0) (.slice none 0 0) (.slice none 0 0)).length=4)) (ResL.cons (Res1.tmp rfl) (ResL.nil))) (hq:=by exact⟨none,0,none,0,rfl,rfl⟩)
 ·have hil:i=xs.length:=by omega
  subst hil
  rw [List.take_length] at he ⊢
  have hct:=unGo_cnt leaf xs v he
  have hun:unN leaf v xs=((unGo leaf v xs).1,⟨[],xs.map (least3 leaf),(unGo leaf v xs).2.1⟩,0):=by rw [unN,if_pos he,he]
  rw [hun]
  refine Ws ?_
  refine Zla (cs:=ndLL false (.slice none 0 0) (.slice A xs.length a) (.slice B xs.length b)) ?_ (hl:=by rfl)
  refine Ws ?_
  refine ZSa (ys:=ndLL false (.slice none 0 0) (.slice A xs.length a) (.slice B xs.length b)) ?_ (h1:=by exact ndLL_one false none A B 0 0 _ a _ b)
  refine Ws ?_
  have hkl:(xs.map (least3 leaf)).length=xs.length:=List.length_map _
  exact Zfn [blk pv 146 (viewL d (unGo leaf v xs).1),DSK d (unGo leaf v xs).1.S,own 125 4 (.slice AR VV.length cr) VV.length (NDL leaf VV),manyRd (RDS VV xs),own 38 2 (.slice A xs.length a) xs.length (KL (xs.map (least3 leaf))),own 3 1 (.slice B xs.length b) xs.length (NL (unGo leaf v xs).2.1)] (h:=ResL.cons (Zra (rfl:(ndLL false (.slice none 0 0) (.slice A xs.length a) (.slice B xs.length b)).length=4)) (ResL.cons (Res1.tmp rfl) (ResL.nil))) (hq:=by exact⟨A,a,B,b,by show _=Value.tuple #[ndW false (.slice none 0 0) (.slice A (xs.map (least3 leaf)).length a) (.slice B (unGo leaf v xs).2.1.length b),_];rw [hkl,hct];rfl,by show _= [_,_,_,_,own 38 2 (.slice A (xs.map (least3 leaf)).length a) (xs.map (least3 leaf)).length (KL (xs.map (least3 leaf))),own 3 1 (.slice B (unGo leaf v xs).2.1.length b) (unGo leaf v xs).2.1.length (NL (unGo leaf v xs).2.1)];rw [hkl,hct]⟩)
def shp (VV:List (Value×Value×Value)):Prop:= ∀v∈VV, ∃A a B b C c i j k,v=(Value.slice A i a,Value.slice B j b,Value.slice C k c)
structure SK (R0:VS×(Int×Nat)×Nat) where
 f:Nat
 leaf:Bool
 v:VS
 xs:List ND3
 h:Nat
 AR:Option Addr
 cr:Nat
 VV:List (Value×Value×Value)
 hR0:stN f leaf v xs h=R0
 hf:xs.length≤f+1
 h1:1≤xs.length
 hv:v.ok
 hl:v.S.W.length+16*xs.length≤800000
 hh:h+xs.length≤60000
 hxl:VV.length=xs.length
 hW:shp VV
 hR: ∀x∈xs, ∀e∈x.E,entR e
theorem two_int (a b:Int): ∀y∈ [Value.int .i64 a,Value.int .i64 b],y.oneCell'=true:=fun y hy=>by simp at hy;rcases hy with rfl | rfl<;>rfl
structure LW (R0:VS×(Int×Nat)×Nat) where
 h:Nat
 v:VS
 a:Int
 hR:lwN h v a=R0
 hG:lwG h v a
 hv:v.ok
 hl:v.S.W.length≤1000000
 hh:h≤1000
theorem view_lower (pv d:Nat)(v:VS)(a:Int)(h:Nat)(hv:v.ok)(hl:v.S.W.length≤1000000)(hh:h≤1000)(hG:lwG h v a):
  Gv.Spec Tryz.prog 151 #[.pointer (some ⟨pv,0,none⟩), .int .i64 a, .int .i64 (h:Int)] [blk pv 146 (viewL d v),DSK d v.S]
  (fun r H'=>r= .tuple #[.agg #[.int .i64 (lwN h v a).2.1.1, .int .i64 ((lwN h v a).2.1.2:Int)], .int .i64 ((lwN h v a).2.2:Int)] ∧H'= [blk pv 146 (viewL d (lwN h v a).1),DSK d (lwN h v a).1.S]):=by
 refine Gv.Spec.of (fun w h0 hw=>?_)
 refine Calls.enter Tryz.func151 rfl rfl rfl hw ?_
 simp only [argSlots]
 refine Wap ?_
 obtain⟨R0,hR0⟩: ∃R,R=lwN h v a:=⟨_,rfl⟩
 rw [←hR0]
 refine Ws ?_
 refine Zal fun b6=>?_
 refine Ws ?_
 (refine Wl (α:=LW R0) (fun x=>x.h) (fun x=> [(0, .pointer (some ⟨pv,0,none⟩)),(1, .int .i64 x.a),(2, .int .i64 (x.h:Int)),(6, .pointer (some ⟨b6,0,none⟩))]) (fun x=> [blk b6 43 [.int .i64 0, .int .i64 0],blk pv 146 (viewL d x.v),DSK d x.v.S,Ex h0]) ⟨h,v,a,hR0.symm,hG,hv,hl,hh⟩ ?_;rintro ⟨h,v,a,hR,hG,hv,hl,hh⟩ mx hmx;(try dsimp only at hmx ⊢))
 refine Ws ?_
 (refine Wcd ?_ ?_<;>intro hc)
 ·obtain⟨g,rfl⟩: ∃g,h=g+2:=⟨h-2,by omega⟩
  rw [lwG] at hG
  rw [lwN] at hR
  obtain⟨ha,hre,hd1,hd2,hgi,hG'⟩:=hG
  have hgok:=giN_ok hv a
  have hgS:=giN_S v a
  obtain⟨N,hN⟩: ∃N,N=rdN v.S a false:=⟨_,rfl⟩
  rw [←hN] at hre hd1 hd2 hG' hR
  have hNd:=view_Node pv d v a false hv hl ha
  rw [←hN] at hNd
  refine Ws ?_
  refine Zcs hNd ?_
  rintro r1 H1 ⟨A,c,B,e,C,f,rfl,rfl⟩
  refine Wap ?_
  refine Ws ?_
  refine Zal fun b8=>?_
  refine Ws ?_
  refine ZSa (ys:=ndLL N.leaf (.slice A N.E.length c) (.slice B N.K.length e) (.slice C N.D.length f)) ?_ (h1:=by exact ndLL_one N.leaf A B C _ c _ e _ f)
  refine Ws ?_
  refine Zz 20 false ?_ (hi:=by rw [hre];rfl)
  refine Ws ?_
  by_cases hd:1<N.D.length
  ·rw [if_pos hd] at hR
   refine Zz 26 true ?_ (hi:=by rw [dTt];omega)
   refine Ws ?_
   refine Zbu (ys:= [.int .i64 a, .int .i64 ((g+2:Nat):Int)]) ?_
   refine Ws ?_
   refine ZSa (ys:= [.int .i64 a, .int .i64 ((g+2:Nat):Int)]) ?_ (h1:=by exact two_int _ _)
   refine Ws ?_
   rw [←hR]
   exact Zfn [blk pv 146 (viewL d v),DSK d v.S] (h:=ResL.cons (Zra (rfl: [Value.int .i64 a,Value.int .i64 ((g+2:Nat):Int)].length=2)) (ResL.cons (Res1.tmp rfl) (ResL.nil))) (hq:=by exact⟨rfl,rfl⟩)
  ·rw [if_neg hd] at hR
   have hgv:=view_give pv d v a hv
   refine Zz 26 false ?_ (hi:=by exact dFf (by omega))
   refine Ws ?_
   refine Zd hgv ?_
   refine Ws ?_
   refine Zz 31 false ?_ (hi:=by rw [hgi];rfl)
   have hN0:(NL N.D)[0]? =some (.int .i64 (N.D.getD 0 0)):=by
    obtain⟨x,l,hx⟩: ∃x l,N.D=x::l:=by
     cases hh:N.D with
     | nil=>rw [hh] at hd1;exact absurd hd1 (by decide)
     | cons x l=>exact⟨x,l,rfl⟩
    rw [hx];rfl
   have hlt0:0<N.D.length:=hd1
   have hg1:g+1≤1000:=by omega
   have hgl:(giN v a).1.S.W.length≤1000000:=by rw [hgS];exact hl
   have hdk:DSK d v.S=DSK d (giN v a).1.S:=by rw [hgS]
   rw [hdk]
   refine Ws ?_
   refine Zix (j:=0) ?_ (hj:=by rfl) (hlt:=by exact hlt0)
   refine Ws ?_
   refine Zlo (j:=0) ?_ (hv:=by exact hN0)
   refine Ws ?_
   refine Zi 2 ((g+1:Nat):Int) ?_ (hi:=by omega)
   exact Zag ⟨g+1,(giN v a).1,N.D.getD 0 0,hR,hG',hgok,hgl,hg1⟩
 ·have h1:h≤1:=by omega
  rw [lwN_one v a h1] at hR
  refine Ws ?_
  refine Zbu (ys:= [.int .i64 a, .int .i64 (h:Int)]) ?_
  refine Ws ?_
  refine ZSa (ys:= [.int .i64 a, .int .i64 (h:Int)]) ?_ (h1:=by exact two_int _ _)
  refine Ws ?_
  rw [←hR]
  exact Zfn [blk pv 146 (viewL d v),DSK d v.S] (h:=ResL.cons (Zra (rfl: [Value.int .i64 a,Value.int .i64 (h:Int)].length=2)) (ResL.cons (Res1.tmp rfl) (ResL.nil))) (hq:=by exact⟨rfl,rfl⟩)
theorem view_single (pv d:Nat)(v:VS)(leaf:Bool)(AR:Option Addr)(cr:Nat)(VV:List (Value×Value×Value))(xs:List ND3)(h:Nat)(hv:v.ok)(hl:v.S.W.length≤800000)(hxl:VV.length=xs.length)(hW:shp VV)(hR: ∀x∈xs, ∀e∈x.E,entR e)(hh:h≤1000)(hG:sgG leaf v xs h):
  Gv.Spec Tryz.prog 113 #[.pointer (some ⟨pv,0,none⟩), .slice AR VV.length cr, .int .i64 (h:Int)] [blk pv 146 (viewL d v),DSK d v.S,own 125 4 (.slice AR VV.length cr) VV.length (NDL leaf VV),manyRd (RDS VV xs)]
  (fun r H'=>r= .tuple #[.agg #[.int .i64 (sgN leaf v xs h).2.1.1, .int .i64 ((sgN leaf v xs h).2.1.2:Int)], .int .i64 ((sgN leaf v xs h).2.2:Int)] ∧H'= [blk pv 146 (viewL d (sgN leaf v xs h).1),DSK d (sgN leaf v xs h).1.S]):=by
 refine Gv.Spec.of (fun w h0 hw=>?_)
 refine Calls.enter Tryz.func113 rfl rfl rfl hw ?_
 simp only [argSlots]
 refine Wap ?_
 obtain⟨hx1,hlw⟩:=hG
 obtain⟨R0,hR0⟩: ∃R,R=sgN leaf v xs h:=⟨_,rfl⟩
 rw [←hR0]
 rw [sgN] at hR0
 refine Ws ?_
 refine Zal fun b6=>?_
 refine Ws ?_
 by_cases hx0:xs.length=0
 ·rw [if_pos (Or.inl hx0)] at hR0
  refine Zz 14 true ?_ (hi:=by rw [dTt];omega)
  refine Ws ?_
  refine ZSa (ys:= [.int .i64 0, .int .i64 0]) ?_ (h1:=by exact two_int _ _)
  refine Ws ?_
  rw [hR0]
  exact Zfn [blk pv 146 (viewL d v),DSK d v.S] (h:=ResL.cons (Zra (rfl: [Value.int .i64 0,Value.int .i64 0].length=2)) (ResL.cons (Res1.tmp rfl) (ResL.nil))) (hq:=by exact⟨rfl,rfl⟩)
 ·have hx1':xs.length=1:=by omega
  obtain⟨y,rfl⟩: ∃y,xs= [y] :=⟨xs[0]'(by omega),List.ext_getElem (by simp [hx1']) (fun i p q=>by simp at q;subst q;rfl)⟩
  obtain⟨vv,rfl⟩: ∃v,VV= [v] :=⟨VV[0]'(by rw [hxl];simp),List.ext_getElem (by simp [hxl]) (fun i p q=>by simp at q;subst q;rfl)⟩
  obtain⟨A1,a1,B1,b1,C1,c1,i1,j1,k1,rfl⟩:=hW vv (List.mem_singleton.2 rfl)
  have hyd:([y] :List ND3).getD 0 nd0=y:=rfl
  rw [hyd] at hR0 hlw
  have hRy:=hR y (List.mem_singleton.2 rfl)
  have hmem:=rds_at [(Value.slice A1 i1 a1,Value.slice B1 j1 b1,Value.slice C1 k1 c1)] [y] 0 _ y rfl rfl
  have hsz:=node_Size leaf (.slice A1 i1 a1) (.slice B1 j1 b1) (.slice C1 k1 c1) y.E y.K y.D
  have hsz0:sizeN leaf y.E y.D=szN leaf y:=rfl
  rw [hsz0] at hsz
  obtain⟨sz,hszd⟩: ∃sz,sz=szN leaf y:=⟨_,rfl⟩
  rw [←hszd] at hsz hR0
  obtain⟨l,hld⟩: ∃l,l=RDS [(Value.slice A1 i1 a1,Value.slice B1 j1 b1,Value.slice C1 k1 c1)] [y] :=⟨_,rfl⟩
  rw [←hld] at hmem ⊢
  have hlen1: [(Value.slice A1 i1 a1,Value.slice B1 j1 b1,Value.slice C1 k1 c1)].length=1:=rfl
  rw [hlen1]
  refine Zz 14 false ?_
  refine Ws ?_
  refine Zix (j:=0) ?_ (hj:=by rfl) (hlt:=by exact(by decide:0<1))
  refine Ws ?_
  refine Zlq ?_ (hv:=by exact NDL_at _ 0 _ rfl) (hl:=by rfl)
  refine Ws ?_
  refine Zcv hsz ?_ (hpre:=by exact fun w' hw'=>⟨rdw_many Wp hmem.1 w' hw',rdw_many Wp hmem.2.1 w' hw',rdw_many Wp hmem.2.2 w' hw'⟩)
  refine Ws ?_
  by_cases hs0:sz=0
  ·rw [if_pos (Or.inr hs0)] at hR0
   refine Zz 10 true ?_ (hi:=by rw [dTt];omega)
   refine Ws ?_
   refine ZSa (ys:= [.int .i64 0, .int .i64 0]) ?_ (h1:=by exact two_int _ _)
   refine Ws ?_
   rw [hR0]
   exact Zfn [blk pv 146 (viewL d v),DSK d v.S] (h:=ResL.cons (Zra (rfl: [Value.int .i64 0,Value.int .i64 0].length=2)) (ResL.cons (Res1.tmp rfl) (ResL.nil))) (hq:=by exact⟨rfl,rfl⟩)
  ·rw [if_neg (fun c=>c.elim hx0 hs0)] at hR0
   refine Zz 10 false ?_ (hi:=by exact dFf (by omega))
   refine Ws ?_
   refine Zix (j:=0) ?_ (hj:=by rfl) (hlt:=by exact(by decide:0<1))
   refine Ws ?_
   refine Zlo (j:=0*4+0) (v:= .bool leaf) ?_
   refine Ws ?_
   have hwr:=view_write pv d v leaf (.slice A1 i1 a1) (.slice B1 j1 b1) (.slice C1 k1 c1) y l hv hl hmem.1 hmem.2.1 hmem.2.2 hRy
   by_cases hs1:leaf=false∧sz=1
   ·obtain⟨rfl,hs2⟩:=hs1
    rw [if_pos ⟨rfl,hs2⟩] at hR0
    obtain⟨hh1,hG1⟩:=hlw rfl (by rw [←hszd];exact hs2)
    have hdl:y.D.length=1:=by rw [←hs2,hszd];rfl
    have hN0:(NL y.D)[0]? =some (.int .i64 (y.D.getD 0 0)):=by
     obtain⟨x,l',hx⟩: ∃x l',y.D=x::l':=by
      cases hh':y.D with
      | nil=>rw [hh'] at hdl;exact absurd hdl (by decide)
      | cons x l'=>exact⟨x,l',rfl⟩
     rw [hx];rfl
    have hlt0:0<y.D.length:=by omega
    have hltl:0*1<(NL y.D).length:=by rw [NL_lens y.D rfl];omega
    have hlow:=view_lower pv d v (y.D.getD 0 0) (h-1) hv (by omega) (by omega) hG1
    rw [←hR0] at hlow
    refine Zz 28 true ?_
    refine Ws ?_
    refine Zix (j:=0) ?_ (hj:=by rfl) (hlt:=by exact(by decide:0<1))
    refine Ws ?_
    refine Zlq ?_ (hv:=by exact NDL_at _ 0 _ rfl) (hl:=by rfl)
    refine Ws ?_
    refine Zcv hsz ?_ (hpre:=by exact fun w' hw'=>⟨rdw_many Wp hmem.1 w' hw',rdw_many Wp hmem.2.1 w' hw',rdw_many Wp hmem.2.2 w' hw'⟩)
    refine Ws ?_
    refine Zz 22 true ?_ (hi:=by rw [dTt];omega)
    refine Ws ?_
    refine Zix (j:=0) ?_ (hj:=by rfl) (hlt:=by exact(by decide:0<1))
    refine Ws ?_
    refine Zlo (j:=0*4+3) (v:= .slice C1 k1 c1) ?_
    refine Ws ?_
    refine ZoixW (j:=0) ?_ (hr:=by exact rdw_many Wp hmem.2.2) (hj:=by rfl) (hlt:=by exact hlt0) (hl:=by exact hltl)
    refine Ws ?_
    refine ZoloadW ?_ (hr:=by exact rdw_many Wp hmem.2.2) (hv:=by exact hN0)
    refine Ws ?_
    refine Zi 43 ((h-1:Nat):Int) ?_ (hi:=by omega)
    refine Ws ?_
    refine Zd hlow ?_
    refine Ws ?_
    refine ZSa (ys:= [.int .i64 R0.2.1.1, .int .i64 (R0.2.1.2:Int)]) ?_ (h1:=by exact two_int _ _)
    refine Ws ?_
    exact Zfn [blk pv 146 (viewL d R0.1),DSK d R0.1.S] (h:=ResL.cons (Zra (rfl: [Value.int .i64 R0.2.1.1,Value.int .i64 (R0.2.1.2:Int)].length=2)) (ResL.cons (Res1.tmp rfl) (ResL.nil))) (hq:=by exact⟨rfl,rfl⟩)
   ·rw [if_neg hs1] at hR0
    cases leaf with
    | true=>
     refine Zz 28 false ?_
     refine Ws ?_
     refine Zix (j:=0) ?_ (hj:=by rfl) (hlt:=by exact(by decide:0<1))
     refine Ws ?_
     refine Zlq ?_ (hv:=by exact NDL_at _ 0 _ rfl) (hl:=by rfl)
     refine Ws ?_
     refine Zd hwr ?_
     refine Ws ?_
     refine Zbu (ys:= [.int .i64 (wrN v true y).2.1, .int .i64 (h:Int)]) ?_
     refine Ws ?_
     refine ZSa (ys:= [.int .i64 (wrN v true y).2.1, .int .i64 (h:Int)]) ?_ (h1:=by exact two_int _ _)
     refine Ws ?_
     rw [hR0]
     exact Zfn [blk pv 146 (viewL d (wrN v true y).1),DSK d (wrN v true y).1.S] (h:=ResL.cons (Zra (rfl: [Value.int .i64 (wrN v true y).2.1,Value.int .i64 (h:Int)].length=2)) (ResL.cons (Res1.tmp rfl) (ResL.nil))) (hq:=by exact⟨rfl,rfl⟩)
    | false=>
     refine Zz 28 true ?_
     refine Ws ?_
     refine Zix (j:=0) ?_ (hj:=by rfl) (hlt:=by exact(by decide:0<1))
     refine Ws ?_
     refine Zlq ?_ (hv:=by exact NDL_at _ 0 _ rfl) (hl:=by rfl)
     refine Ws ?_
     refine Zcv hsz ?_ (hpre:=by exact fun w' hw'=>⟨rdw_many Wp hmem.1 w' hw',rdw_many Wp hmem.2.1 w' hw',rdw_many Wp hmem.2.2 w' hw'⟩)
     refine Ws ?_
     refine Zz 22 false ?_ (hi:=by exact dFf (fun c=>hs1 ⟨rfl,by omega⟩))
     refine Ws ?_
     refine Zix (j:=0) ?_ (hj:=by rfl) (hlt:=by exact(by decide:0<1))
     refine Ws ?_
     refine Zlq ?_ (hv:=by exact NDL_at _ 0 _ rfl) (hl:=by rfl)
     refine Ws ?_
     refine Zd hwr ?_
     refine Ws ?_
     refine Zbu (ys:= [.int .i64 (wrN v false y).2.1, .int .i64 (h:Int)]) ?_
     refine Ws ?_
     refine ZSa (ys:= [.int .i64 (wrN v false y).2.1, .int .i64 (h:Int)]) ?_ (h1:=by exact two_int _ _)
     refine Ws ?_
     rw [hR0]
     exact Zfn [blk pv 146 (viewL d (wrN v false y).1),DSK d (wrN v false y).1.S] (h:=ResL.cons (Zra (rfl: [Value.int .i64 (wrN v false y).2.1,Value.int .i64 (h:Int)].length=2)) (ResL.cons (Res1.tmp rfl) (ResL.nil))) (hq:=by exact⟨rfl,rfl⟩)
theorem rd_noneU (w:World):RdW w (.slice none 0 0) 0 [] :=⟨none,0,rfl,⟨by simp,by decide⟩,fun j u h=>by simp at h⟩
theorem rk_len {a b g n:Nat}(h1:a+(g+1+1)*4000≤800000)(h2:b≤a+4*n)(h3:n≤1000):b+(g+1)*4000≤800000:=by rw [Nat.add_mul (g+1) 1 4000] at h1;omega
structure RK (R0:VS×(Int×Nat)×Nat) where
 f:Nat
 leaf:Bool
 v:VS
 xs:List ND3
 h:Nat
 AR:Option Addr
 cr:Nat
 VV:List (Value×Value×Value)
 hR0:roN f leaf v xs h=R0
 hG:roG f leaf v xs h
 hv:v.ok
 hl:v.S.W.length+(f+1)*4000≤800000
 hn:xs.length≤1000
 hh:h+f≤1000
 hxl:VV.length=xs.length
 hW:shp VV
 hR: ∀x∈xs, ∀e∈x.E,entR e
theorem view_root (pv d f:Nat)(v:VS)(leaf:Bool)(AR:Option Addr)(cr:Nat)(VV:List (Value×Value×Value))(xs:List ND3)(h:Nat)(hG:roG f leaf v xs h)(hv:v.ok)(hl:v.S.W.length+(f+1)*4000≤800000)(hn:xs.length≤1000)(hh:h+f≤1000)(hxl:VV.length=xs.length)(hW:shp VV)(hR: ∀x∈xs, ∀e∈x.E,entR e):
  Gv.Spec Tryz.prog 68 #[.pointer (some ⟨pv,0,none⟩), .slice AR VV.length cr, .int .i64 (h:Int)] [blk pv 146 (viewL d v),DSK d v.S,own 125 4 (.slice AR VV.length cr) VV.length (NDL leaf VV),manyRd (RDS VV xs)]
  (fun r H'=>r= .tuple #[.agg #[.int .i64 (roN f leaf v xs h).2.1.1, .int .i64 ((roN f leaf v xs h).2.1.2:Int)], .int .i64 ((roN f leaf v xs h).2.2:Int)] ∧H'= [blk pv 146 (viewL d (roN f leaf v xs h).1),DSK d (roN f leaf v xs h).1.S]):=by
 refine Gv.Spec.of (fun w h0 hw=>?_)
 refine Calls.enter Tryz.func68 rfl rfl rfl hw ?_
 simp only [argSlots]
 refine Wap ?_
 obtain⟨R0,hR0⟩: ∃R,R=roN f leaf v xs h:=⟨_,rfl⟩
 rw [←hR0]
 refine Ws ?_
 refine Zal fun b6=>?_
 refine Ws ?_
 (refine Wl (α:=RK R0) (fun x=>x.f) (fun x=> [(0, .pointer (some ⟨pv,0,none⟩)),(1, .slice x.AR x.VV.length x.cr),(2, .int .i64 (x.h:Int)),(6, .pointer (some ⟨b6,0,none⟩))]) (fun x=> [blk b6 43 [.int .i64 0, .int .i64 0],blk pv 146 (viewL d x.v),DSK d x.v.S,own 125 4 (.slice x.AR x.VV.length x.cr) x.VV.length (NDL x.leaf x.VV),manyRd (RDS x.VV x.xs),Ex h0]) ⟨f,leaf,v,xs,h,AR,cr,VV,hR0.symm,hG,hv,hl,hn,hh,hxl,hW,hR⟩ ?_;rintro ⟨f,leaf,v,xs,h,AR,cr,VV,hR0',hG,hv,hl,hn,hh,hxl,hW,hR⟩ mx hmx;(try dsimp only at hmx ⊢))
 refine Ws ?_
 (refine Wcd ?_ ?_<;>intro hc)
 ·have hx2:1<xs.length:=by omega
  obtain⟨g,rfl⟩: ∃g,f=g+1:=by
   cases f with
   | zero=>exact absurd hG.1 (by omega)
   | succ g=>exact⟨g,rfl⟩
  rw [roN,if_pos hx2] at hR0'
  have hG1:=hG.1 hx2
  have huc:=unN_cnt (leaf:=leaf) (v:=v) (xs:=xs)
  have hok:=unGo_ok leaf xs hv
  have hln:=unGo_len leaf xs v
  have hu1:(unN leaf v xs).1=(unGo leaf v xs).1:=rfl
  rw [←hu1] at hok hln
  have hun:=view_under pv d v leaf AR cr VV xs hv hxl (by omega) (by omega) hW hR
  obtain⟨U,hU⟩: ∃U,U=unN leaf v xs:=⟨_,rfl⟩
  rw [←hU] at hR0' huc hok hln hun hG1
  refine Ws ?_
  refine Zcs hun ?_
  rintro r1 H1 ⟨A,a,B,b,rfl,rfl⟩
  refine Wap ?_
  refine Ws ?_
  refine Zal fun b8=>?_
  refine Ws ?_
  refine ZSa (ys:=ndLL false (.slice none 0 0) (.slice A U.2.1.K.length a) (.slice B U.2.1.D.length b)) ?_ (h1:=by exact ndLL_one false none A B 0 0 _ a _ b)
  refine Ws ?_
  by_cases hz:U.2.2=0
  ·refine Zz 20 false ?_ (hi:=by rw [hz];rfl)
   rw [if_pos hz] at hR0'
   obtain⟨hUE,hUK,hUD⟩:=huc hz
   have hG2:=hG1 hz
   have hXo:okN false U.2.1:=⟨hUE,by rw [hUK,hUD]⟩
   have hXs:szN false U.2.1=xs.length:=hUD
   have hspE:=splitN_E hXo
   have hspL:=splN_len (leaf:=false) (szN false U.2.1+1) U.2.1
   obtain⟨X,hX⟩: ∃X,X=U.2.1:=⟨_,rfl⟩
   rw [←hX] at hR0' hG2 hXo hXs hspE hspL ⊢
   have hsq:splN false (szN false X+1) X=splitN false X:=rfl
   rw [hsq] at hspL
   have hE0:X.E= [] :=hXo.1
   have hsp:=node_Split false (szN false X) X (.slice none 0 0) (.slice A X.K.length a) (.slice B X.D.length b) hXo (Nat.le_refl _) (by omega)
   refine Ws ?_
   refine Zla (cs:=ndLL false (.slice none 0 0) (.slice A X.K.length a) (.slice B X.D.length b)) ?_ (hl:=by rfl)
   refine Ws ?_
   refine Zcr hsp ?_ (hpre:=by exact fun w' hw'=>⟨by rw [hE0];exact rd_noneU w',rdw_own (v:= .slice A X.K.length a) Wp w' hw',rdw_own (v:= .slice B X.D.length b) Wp w' hw'⟩)
   rintro r2 H2 ⟨VS,hVS,hW2,rfl⟩
   refine Wap ?_
   (refine Tri.shape (e:=125) (size:=4) (v:=r2) Wp ?_;rintro ⟨AR2,cr2,rfl⟩)
   rw [hsq] at hVS
   rw [hsq]
   refine Ws ?_
   refine Zi 2 ((h+1:Nat):Int) ?_ (hi:=by omega)
   have hW3:shp VS:=hW2
   have g1:=rk_len hl hln hn
   have g2:(splitN false X).length≤1000:=by omega
   have g3:h+1+g≤1000:=by omega
   exact Zag ⟨g,false,U.1,splitN false X,h+1,AR2,cr2,VS,hR0',hG2,hok,g1,g2,g3,hVS,hW3,hspE⟩
  ·refine Zz 20 true ?_ (hi:=by rw [dTt];omega)
   rw [if_neg hz] at hR0'
   refine Ws ?_
   refine ZSa (ys:= [.int .i64 0, .int .i64 0]) ?_ (h1:=by exact two_int _ _)
   refine Ws ?_
   rw [←hR0']
   exact Zfn [blk pv 146 (viewL d U.1),DSK d U.1.S] (h:=ResL.cons (Zra (rfl: [Value.int .i64 0,Value.int .i64 0].length=2)) (ResL.cons (Res1.tmp rfl) (ResL.nil))) (hq:=by exact⟨rfl,rfl⟩)
 ·have hx1:xs.length≤1:=by omega
  rw [roN_fin hx1] at hR0'
  refine Ws ?_
  by_cases hb:5<h
  ·rw [if_pos hb] at hR0'
   refine Zz 28 true ?_ (hi:=by rw [dTt];omega)
   refine Ws ?_
   refine ZSa (ys:= [.int .i64 0, .int .i64 0]) ?_ (h1:=by exact two_int _ _)
   refine Ws ?_
   rw [←hR0']
   exact Zfn [blk pv 146 (viewL d v),DSK d v.S] (h:=ResL.cons (Zra (rfl: [Value.int .i64 0,Value.int .i64 0].length=2)) (ResL.cons (Res1.tmp rfl) (ResL.nil))) (hq:=by exact⟨rfl,rfl⟩)
  ·rw [if_neg hb] at hR0'
   have hsg:=view_single pv d v leaf AR cr VV xs h hv (by omega) hxl hW hR (by omega) (roG_fin hx1 hG (by omega))
   rw [hR0'] at hsg
   refine Zz 28 false ?_ (hi:=by exact dFf (by omega))
   refine Ws ?_
   refine Zd hsg ?_
   refine Ws ?_
   refine ZSa (ys:= [.int .i64 R0.2.1.1, .int .i64 (R0.2.1.2:Int)]) ?_ (h1:=by exact two_int _ _)
   refine Ws ?_
   exact Zfn [blk pv 146 (viewL d R0.1),DSK d R0.1.S] (h:=ResL.cons (Zra (rfl: [Value.int .i64 R0.2.1.1,Value.int .i64 (R0.2.1.2:Int)].length=2)) (ResL.cons (Res1.tmp rfl) (ResL.nil))) (hq:=by exact⟨rfl,rfl⟩)
theorem put_over {α:Type}{P M R N:List α}{o k:Nat}(hP:P.length=o)(hM:M.length=k):(P++M++R).take o++N++(P++M++R).drop (o+k)=P++N++R:=by
 subst hP hM
 have e1:(P++M++R).take P.length=P:=by rw [aAs,List.take_left]
 have e2:(P++M++R).drop (P.length+M.length)=R:=by rw [←lAp,List.drop_left]
 rw [e1,e2]
theorem cut8 {α:Type}{xs:List α}{n i s:Nat}(h:xs.length=n*s)(hi:i≤n):(xs.take (i*s)).length=i*s∧(xs.drop (i*s)).length=(n-i)*s:=by
 have h2:i*s≤n*s:=Nat.mul_le_mul_right _ hi
 refine⟨by rw [lTk];omega,by rw [lDp,h,Nat.sub_mul]⟩
theorem repl_len {α:Type}{z:List α}{s:Nat}(hz:z.length=s)(k:Nat):((List.replicate k z).flatten).length=k*s:=by simp [hz]
theorem repl_split {α:Type}{z:List α}(a b:Nat):(List.replicate (a+b) z).flatten=(List.replicate a z).flatten++(List.replicate b z).flatten:=by
 rw [←List.flatten_append,List.replicate_append_replicate]
def entZ:List Value:= [.int .i64 0, .int .i64 0, .int .i64 0, .int .i64 0, .int .i64 0, .int .i64 0, .int .i64 0, .int .u32 0]
set_option maxRecDepth 4000 in
theorem slices_InsE (A:Option Addr)(n c i:Nat)(u:Value)(xs ys:List Value)(hi:i≤n)(hn:0<n)(hb:n≤100000)(hxl:xs.length=n*8)(hyl:ys.length=1*8)(h1x: ∀y∈xs,y.oneCell'=true)(h1y: ∀y∈ys,y.oneCell'=true):
  Gv.Spec Tryz.prog 118 #[.slice A n c, .int .i64 (i:Int),u] [own 40 8 (.slice A n c) n xs,own 40 8 u 1 ys]
  (fun r H'=> ∃A' c',r= .slice A' (n+1) c'∧H'= [own 40 8 (.slice A' (n+1) c') (n+1) (xs.take (i*8)++ys++xs.drop (i*8)),own 40 8 u 1 ys]):=by
 refine Gv.Spec.of (fun w h0 hw=>?_)
 refine Calls.enter Tryz.func118 rfl rfl rfl hw ?_
 simp only [argSlots]
 refine Wap ?_
 refine Ws ?_
 refine Zsl (lo:=i) (hi:=n) (m:=n) (xs:=xs) ?_ (hr:=by exact rdw_own (v:= .slice A n c) Wp)
 refine Ws ?_
 refine Zz 16 false ?_
 refine Ws ?_
 by_cases hin:i=n
 ·subst hin
  refine Zz 22 true ?_ (hi:=by exact dTt rfl)
  refine Ws ?_
  refine Zap (m2:=1) (news:=ys) ?_ (hr:=by exact rdw_own (v:=u) Wp) (hl:=by exact hyl) (h1:=by exact h1y)
  intro vr
  (refine Tri.shape (e:=40) (size:=8) (v:=vr) Wp ?_;rintro ⟨A2,c2,rfl⟩)
  refine Ws ?_
  have e:xs.take (i*8)++ys++xs.drop (i*8)=xs++ys:=by rw [List.take_of_length_le (by omega),List.drop_of_length_le (by omega),List.append_nil]
  rw [e]
  exact Zfn [own 40 8 (.slice A2 (i+1) c2) (i+1) (xs++ys),own 40 8 u 1 ys] (hq:=by exact⟨A2,c2,rfl,rfl⟩)
 ·have hlt:i<n:=by omega
  obtain⟨hl1,hl2⟩:=cut8 hxl hi
  refine Zz 22 false ?_ (hi:=by exact dFf (by omega))
  refine Ws ?_
  refine Zocap ?_
  refine Ws ?_
  refine Tri.ownBlk (e:=40) (size:=8) (v:= .slice A n c) (m:=n) (xs:=xs) Wp hn (fun g cap rest hv hc hl hxl2=>?_)
  cases hv
  have hcm:c≤9223372036854775807:=hc.2
  rw [lAp,hxl] at hl
  have hrd: ∀w',St w w' [blk g 40 (xs++rest)] →RdW w' (.slice (some ⟨g,0,none⟩) i c) i (xs.take (i*8)):=fun w' hw'=>rdw_blkAt .head ⟨by omega,hcm⟩ (by rw [List.drop_zero,hl1,List.take_append_of_le_length (by omega)]) w' hw'
  by_cases hroom:n+1≤c
  ·refine Zz 31 false ?_ (hi:=by exact dFf (by omega))
   refine Tri.ownBlk (e:=40) (size:=8) (v:=u) (m:=1) (xs:=ys) Wp Nat.one_pos (fun gu capu restu hvu hcu hlu hyl2=>?_)
   subst hvu
   have hcum:capu≤9223372036854775807:=hcu.2
   obtain⟨r1,r2,rfl,hr1⟩: ∃r1 r2,rest=r1++r2∧r1.length=8:=⟨rest.take 8,rest.drop 8,(List.take_append_drop 8 rest).symm,by rw [lTk];omega⟩
   have hre:xs++(r1++r2)=xs.take (i*8)++(xs.drop (i*8)++r1)++r2:=by
    rw [←aAs, ←aAs,List.take_append_drop,aAs]
   have hmid:(xs.drop (i*8)++r1).length=(n-i)*8+8:=by rw [lAp,hl2,hr1]
   obtain⟨y1,y2,hy12,hy1⟩: ∃y1 y2,xs.drop (i*8)++r1=y1++y2∧y1.length=8:=⟨(xs.drop (i*8)++r1).take 8,(xs.drop (i*8)++r1).drop 8,(List.take_append_drop 8 _).symm,by rw [lTk,hmid];omega⟩
   have hy2:y2.length=(n-i)*8:=by
    have h:=congrArg List.length hy12
    rw [hmid,lAp,hy1] at h
    omega
   refine Ws ?_
   refine ZosliceB (lo:=0) (hi:=n+1) (m:=n) ?_
   refine Ws ?_
   refine Zv 0 (.slice (some ⟨g,0,none⟩) (n+1) c) ?_ (hv:=by rfl)
   refine Zv 62 (.slice (some ⟨g,0,none⟩) (n+1) c) ?_ (hv:=by rfl)
   have hcl:(xs++(r1++r2)).length=c*8:=by rw [lAp,hxl];exact hl
   have hcur:xs++(r1++r2)=xs.take (i*8)++y1++y2++r2:=by rw [hre,hy12,aAs (xs.take (i*8)) y1 y2]
   have hs1:((xs++(r1++r2)).drop (0+i*8)).take (xs.drop (i*8)).length=xs.drop (i*8):=by rw [Nat.zero_add,List.drop_append_of_le_length (by omega),List.take_left]
   refine ZosliceB (lo:=i+1) (hi:=n+1) (m:=n+1) ?_
   refine Ws ?_
   refine Zooverlaps (f:=152) (t:=29) (tr:=4) ?_ (hf:=by exact Tryz.func152) (hB:=by rw [hcl];omega)
   refine Ws ?_
   refine Zz 68 true ?_
   refine Ws ?_
   refine Wm [] ?_
   refine Wq [0,1,2,3] ?_
   refine Zm 4 (h:=fun _ _ qK=>by exact ZosliceB (lo:=i+1) (hi:=n+1) (m:=n+1) qK) (k:=?_)
   refine Wq [5,6] ?_
   refine Zm 7 (h:=fun _ _ qK=>by exact ZosliceB (lo:=i) (hi:=n+1) (m:=n+1) qK) (k:=?_)
   refine ZA 8 ?_
   refine ZocopyG (m:=n+1-i) (q:=n-i) (news:=xs.drop (i*8)) ?_ (hr:=by exact rdw_blkAt (o':=0+i*8) Wp ⟨by omega,by omega⟩ hs1) (hl:=by omega) (hfit:=by rw [hcl];omega) (h1:=by exact fun y hy=>h1x y (List.mem_of_mem_drop hy))
   refine Zat (blk g _ _) (blk g 40 (xs.take (i*8)++y1++(xs.drop (i*8)++r2))) ?_ (e:=by rw [hcur,List.take_of_length_le (show (xs.drop (i*8)).length≤(n-i)*8 by omega),put_over (by rw [lAp,hl1,hy1];omega) hy2,aAs])
   refine Zw ?_
   refine ZE ?_
   refine Ws ?_
   refine ZosliceB (lo:=i) (hi:=n+1) (m:=n+1) ?_
   refine Ws ?_
   refine ZocopyG (m:=1) (q:=1) (news:=ys) ?_ (hr:=by exact rdw_blkAt Wp ⟨hcu.1,hcum⟩ (by rw [List.drop_zero,List.take_left])) (hl:=by omega) (hfit:=by simp only [lAp,hl1,hl2,hy1];omega) (h1:=by exact h1y)
   refine Zat (blk g _ _) (blk g 40 ((xs.take (i*8)++ys++xs.drop (i*8))++r2)) ?_ (e:=by rw [List.take_of_length_le (show ys.length≤1*8 by omega),put_over (by rw [hl1];omega) hy1,aAs (xs.take (i*8)++ys)])
   refine Ws ?_
   refine Tri.blkOwn (e:=40) (size:=8) (m:=n+1) (cap:=c) (xs:=xs.take (i*8)++ys++xs.drop (i*8)) (rest:=r2) Wp ⟨hroom,hc.2⟩ (by simp only [lAp] at hcl ⊢;omega) (by simp only [lAp,hl1,hl2];omega) ?_
   refine Tri.blkOwn (e:=40) (size:=8) (m:=1) (cap:=capu) (xs:=ys) (rest:=restu) Wp hcu hlu hyl ?_
   exact Zfn [own 40 8 (.slice (some ⟨g,0,none⟩) (n+1) c) (n+1) (xs.take (i*8)++ys++xs.drop (i*8)),own 40 8 (.slice (some ⟨gu,0,none⟩) 1 capu) 1 ys] (hq:=by exact⟨some ⟨g,0,none⟩,c,rfl,rfl⟩)
  ·refine Zz 31 true ?_ (hi:=by exact dTt (by omega))
   refine Ws ?_
   refine ZosliceB (lo:=0) (hi:=i) (m:=n) ?_
   refine Ws ?_
   refine Zi 39 ((n+1-i:Nat):Int) ?_ (hi:=by omega)
   refine Zv 34 (.slice (some ⟨g,0,none⟩) i c) ?_ (hv:=by rfl)
   have hs0:((xs++rest).drop 0).take (xs.take (i*8)).length=xs.take (i*8):=by rw [List.drop_zero,hl1,List.take_append_of_le_length (by omega)]
   have hs1:((xs++rest).drop (0+i*8)).take (xs.drop (i*8)).length=xs.drop (i*8):=by rw [Nat.zero_add,List.drop_append_of_le_length (by omega),List.take_left]
   refine ZoappendZg (m1:=i) (cap:=c) (k:=n+1-i) (xs:=xs.take (i*8)) ?_ (hi:=by rfl) (hr:=by exact rdw_blkAt Wp ⟨by omega,hcm⟩ hs0) (hl:=by exact hl1) (hcap:=by omega)
   intro v2
   rw [show i+(n+1-i)=n+1 by omega,show n+1-i=1+(n-i) by omega,repl_split]
   obtain⟨Z1,hZ1⟩: ∃Z1,Z1=(List.replicate 1 entZ).flatten:=⟨_,rfl⟩
   obtain⟨Z2,hZ2⟩: ∃Z2,Z2=(List.replicate (n-i) entZ).flatten:=⟨_,rfl⟩
   have hZ1l:Z1.length=8:=by rw [hZ1,repl_len (s:=8) rfl]
   have hZ2l:Z2.length=(n-i)*8:=by rw [hZ2,repl_len (s:=8) rfl]
   refine Zat (own 40 8 v2 _ _) (own 40 8 v2 (n+1) (xs.take (i*8)++(Z1++Z2))) ?_ (e:=by rw [hZ1,hZ2];rfl)
   refine Tri.ownBlk (e:=40) (size:=8) (v:=v2) (m:=n+1) (xs:=xs.take (i*8)++(Z1++Z2)) Wp (Nat.succ_pos n) (fun g2 cap2 rest2 hv2 hc2 hlz hzl=>?_)
   subst hv2
   have hcm2:cap2≤9223372036854775807:=hc2.2
   refine Ws ?_
   refine ZosliceB (lo:=i) (hi:=n+1) (m:=n+1) ?_
   refine Ws ?_
   refine ZocopyG (m:=1) (q:=1) (news:=ys) ?_ (hr:=by exact rdw_own (v:=u) Wp) (hl:=by omega) (hfit:=by simp only [lAp,hl1,hZ1l];omega) (h1:=by exact h1y)
   refine Zat (blk g2 _ _) (blk g2 40 (xs.take (i*8)++ys++(Z2++rest2))) ?_ (e:=by rw [List.take_of_length_le (show ys.length≤1*8 by omega),show xs.take (i*8)++(Z1++Z2)++rest2=xs.take (i*8)++Z1++(Z2++rest2) by simp only [aAs],put_over (by rw [hl1];omega) hZ1l])
   refine Ws ?_
   refine Wm [blk g 40 (xs++rest)] ?_
   refine Wq [0,1,2,3] ?_
   refine Zm 4 (h:=fun _ _ qK=>by exact ZosliceB (lo:=i+1) (hi:=n+1) (m:=n+1) qK) (k:=?_)
   refine Wq [5,6] ?_
   refine Zm 7 (h:=fun _ _ qK=>by exact ZosliceB (lo:=i) (hi:=n) (m:=n) qK) (k:=?_)
   refine ZA 8 ?_
   refine ZocopyG (b:=g2) (m:=n-i) (q:=n-i) (news:=xs.drop (i*8)) ?_ (hr:=by exact rdw_blkAt (o':=0+i*8) Wp ⟨by omega,by omega⟩ hs1) (hl:=by omega) (hfit:=by simp only [lAp,hl1,hZ2l];omega) (h1:=by exact fun y hy=>h1x y (List.mem_of_mem_drop hy))
   refine Zat (blk g2 _ _) (blk g2 40 ((xs.take (i*8)++ys++xs.drop (i*8))++rest2)) ?_ (e:=by rw [List.take_of_length_le (show (xs.drop (i*8)).length≤(n-i)*8 by omega),show xs.take (i*8)++ys++(Z2++rest2)=xs.take (i*8)++ys++Z2++rest2 by simp only [aAs],put_over (by rw [lAp,hl1,hyl];omega) hZ2l])
   refine Zw ?_
   refine ZE ?_
   refine Ws ?_
   refine Tri.blkOwn (e:=40) (size:=8) (m:=n+1) (cap:=cap2) (xs:=xs.take (i*8)++ys++xs.drop (i*8)) (rest:=rest2) Wp hc2 (by simp only [lAp,hl1,hl2,hZ1l,hZ2l] at hlz ⊢;omega) (by simp only [lAp,hl1,hl2];omega) ?_
   exact Zfn [own 40 8 (.slice (some ⟨g2,0,none⟩) (n+1) cap2) (n+1) (xs.take (i*8)++ys++xs.drop (i*8)),own 40 8 u 1 ys] (hq:=by exact⟨some ⟨g2,0,none⟩,cap2,rfl,rfl⟩)
end Go.Proofs.YtcglabmlhljkmaaGreat
