/- Texts of this claim, put together: GvW, GvTy, GvSeat, ChWalk, CrcPlain, CrcWalk, DkPlain, DkWalk, DvPlain, DkWalk2, DkWalk3, DkWalk4, DkWalk5, DvWalk. -/
import Derived.Test.YtcglabmlhljkmaaGreatZ00
import Derived.Test.YtcglabmlhljkmaaGreatZ01
import Derived.Test.YtcglabmlhljkmaaGreatProg
set_option maxHeartbeats 64000000
set_option linter.unusedVariables false
set_option linter.unusedSimpArgs false
namespace Go.Gv
open Go Go.RowKit
theorem cA {α:Type}{a:α}{xs ys:List α}:(a::xs)++ys=a::(xs++ys):=rfl
theorem nA {α:Type}{xs:List α}: [] ++xs=xs:=rfl
theorem Wp {H:List Atom}{A:Atom}{H':List Atom}(p:Pull H A H':=by((try dsimp only [cA,nA]);first | ((with_reducible repeat constructor);done) | (repeat (first | exact Pull.head | apply Pull.tail)))):Pull H A H':=p
theorem Wps {H As H':List Atom}(p:Pulls H As H':=by((try dsimp only [cA,nA]);repeat (first | exact Pulls.nil | (apply Pulls.cons;first | ((with_reducible repeat constructor);done) | (repeat (first | exact Pull.head | apply Pull.tail)))))):Pulls H As H':=p
theorem Wev {L:Slots}{xs:List Operand}{vs:List Value}(h:evs L xs vs:=by(repeat (first | exact trivial | refine And.intro (by rfl) ?_))):evs L xs vs:=h
theorem Wpe {L:Slots}{xs:List (Nat×Operand)}{vs:List (Nat×Value)}(h:pev L xs vs:=by(repeat (first | exact pev.nil | (apply pev.cons;(case a=>rfl))))):pev L xs vs:=h
theorem Wsl {L l:Slots}(h:SubL L l:=by(try dsimp only);(repeat (first | exact trivial | refine And.intro (by rfl) ?_))):SubL L l:=h
section
variable {P:Program} {w0:World} {n:NT} {L:Slots} {H H' H1 H2 R:List Atom} {Q:Exit→Act→World→Prop} {K G:Act→World→Prop} {o:Oper} {d:Nat}
variable {ty:TypeId} {pos:String} {aft:Array Edge} {g:Option (Nat×Bool)} {rO:Option Nat}
theorem ZTriop {ops:Array Oper}{o:Oper}{rest:List Oper}(h:Tri w0 (OpG P o (wpList P ops Q rest) Q) n L H)(hg:o.guard=none:=by rfl):Tri w0 (wpList P ops Q (o::rest)) n L H:=Tri.op (hg:=hg) (h:=h)
theorem Zz (k:Nat){i:Bool}(j:Bool)(t:Tri w0 G n ((k, .bool j)::L) H)(h:look L k=some (.bool i):=by rfl)(hi:i=j:=by rfl):Tri w0 G n L H:=Tri.setb (k:=k) (j:=j) (h:=h) (hi:=hi) (t:=t)
theorem Zi (k:Nat){ik:IntKind}{i:Int}(j:Int)(t:Tri w0 G n ((k, .int ik j)::L) H)(h:look L k=some (.int ik i):=by rfl)(hi:i=j:=by omega):Tri w0 G n L H:=Tri.seti (k:=k) (j:=j) (h:=h) (hi:=hi) (t:=t)
theorem Zv (k:Nat){u:Value}(v:Value)(t:Tri w0 G n ((k,v)::L) H)(h:look L k=some u:=by rfl)(hv:u=v:=by rfl):Tri w0 G n L H:=Tri.setv (k:=k) (v:=v) (h:=h) (hv:=hv) (t:=t)
theorem ZMb {ops:Array Oper}{Hs F:List Atom}{m:Nat}{ls:Array Bool}(k:Nat){i:Bool}(j:Bool)(t:TriM P w0 ops Q Hs m ls n ((k, .bool j)::L) F)(h:look L k=some (.bool i):=by rfl)(hi:i=j:=by rfl):TriM P w0 ops Q Hs m ls n L F:=TriM.setb (k:=k) (j:=j) (h:=h) (hi:=hi) (t:=t)
theorem ZMi {F Hs:List Atom}{ops:Array Oper}{m:Nat}{ls:Array Bool}(k:Nat){ik:IntKind}{i:Int}(j:Int)(t:TriM P w0 ops Q Hs m ls n ((k, .int ik j)::L) F)(h:look L k=some (.int ik i):=by rfl)(hi:i=j:=by omega):TriM P w0 ops Q Hs m ls n L F:=TriM.seti (k:=k) (j:=j) (h:=h) (hi:=hi) (t:=t)
theorem ZMv {ops:Array Oper}{Hs F:List Atom}{m:Nat}{ls:Array Bool}(k:Nat){u:Value}(v:Value)(t:TriM P w0 ops Q Hs m ls n ((k,v)::L) F)(h:look L k=some u:=by rfl)(hv:u=v:=by rfl):TriM P w0 ops Q Hs m ls n L F:=TriM.setv (k:=k) (v:=v) (h:=h) (hv:=hv) (t:=t)
theorem Zal {T:TypeId}{z:List Value}[hz:TZero P T z](k: ∀b,Tri w0 K n ((d, .pointer (some ⟨b,0,none⟩))::L) (blk b T z::H))(hn:Nat.blt d n=true:=by rfl):Tri w0 (OpG P ⟨some d, .alloc T,ty,pos,aft,g⟩ K Q) n L H:=o_alloc (hn:=hn) (k:=k)
theorem Zap {t e:TypeId}{size bytes:Nat}{z:List Value}[TSlice P t e][TElem P e size bytes z]{s x:Operand}{v u:Value}{m1 m2:Nat}{xs news:List Value}(k: ∀v',Tri w0 K n ((d,v')::L) (own e size v' (m1+m2) (xs++news)::H'))(hx:ev L s=some v:=by rfl)(hy:ev L x=some u:=by rfl)(p:Pull H (own e size v m1 xs) H':=by exact Wp)(hr: ∀w,St w0 w H→RdW w u m2 news:=by(first | rfl | assumption))(hl:news.length=m2*size:=by(first | rfl | assumption | (simp;omega) | simp))(h1: ∀y∈news,y.oneCell'=true:=by rfl)(hb:(m1+m2)*bytes≤140737488355328:=by omega)(hn:Nat.blt d n=true:=by rfl):Tri w0 (OpG P ⟨some d, .call { callee:= .builtin .append,args:= #[s,x],argTypes:= #[t,t] },ty,pos,aft,g⟩ K Q) n L H:=o_append (hx:=hx) (hy:=hy) (p:=p) (hr:=hr) (hl:=hl) (h1:=h1) (hb:=hb) (hn:=hn) (k:=k)
theorem ZoappendN {t tn e:TypeId}{kn kq:IntKind}{size bytes:Nat}{z:List Value}[TSlice P t e][TInt P tn kn][TElem P e size bytes z]{s x:Operand}{k:Nat}{i:Int}(kk: ∀v' zs,Tri w0 K n ((d,v')::L) (own e size v' k zs::H'))(hx:ev L s=some (.slice none 0 0):=by rfl)(hy:ev L x=some (.int kq i):=by rfl)(hi:i=(k:Int):=by omega)(p:Pull H (own e size (.slice none 0 0) 0 []) H':=by exact Wp)(h0:0<k:=by rfl)(hb:k*bytes≤140737488355328:=by omega)(hn:Nat.blt d n=true:=by rfl):Tri w0 (OpG P ⟨some d, .call { callee:= .builtin .append,args:= #[s,x],argTypes:= #[t,tn] },ty,pos,aft,g⟩ K Q) n L H:=o_appendN (hx:=hx) (hy:=hy) (hi:=hi) (p:=p) (h0:=h0) (hb:=hb) (hn:=hn) (kk:=kk)
theorem ZoappendR {t e:TypeId}{size bytes:Nat}{z:List Value}[ht:TSlice P t e][he:TElem P e size bytes z]{s x:Operand}{b m1 cap m2:Nat}{u:Value}{cur news:List Value}(k:Tri w0 K n ((d, .slice (some ⟨b,0,none⟩) (m1+m2) cap)::L) (blk b e (cur.take (m1*size)++news++cur.drop (m1*size+m2*size))::H'))(hx:ev L s=some (.slice (some ⟨b,0,none⟩) m1 cap):=by rfl)(hy:ev L x=some u:=by rfl)(p:Pull H (blk b e cur) H':=by exact Wp)(hr: ∀w,St w0 w H→RdW w u m2 news:=by(first | rfl | assumption))(hl:news.length=m2*size:=by(first | rfl | assumption | (simp;omega) | simp))(hm:0<m2:=by omega)(hroom:m1+m2≤cap:=by rfl)(hfit:m1*size+m2*size≤cur.length:=by rfl)(h1: ∀y∈news,y.oneCell'=true:=by rfl)(hn:Nat.blt d n=true:=by rfl):Tri w0 (OpG P ⟨some d, .call { callee:= .builtin .append,args:= #[s,x],argTypes:= #[t,t] },ty,pos,aft,g⟩ K Q) n L H:=o_appendR (hx:=hx) (hy:=hy) (p:=p) (hr:=hr) (hl:=hl) (hm:=hm) (hroom:=hroom) (hfit:=hfit) (h1:=h1) (hn:=hn) (k:=k)
theorem ZoappendZ {t tn e:TypeId}{kn kq:IntKind}{bytes:Nat}{zc:Value}[TSlice P t e][TInt P tn kn][TElem P e 1 bytes [zc]]{s x:Operand}{v:Value}{m1 k:Nat}{i:Int}{xs:List Value}(kk: ∀v',Tri w0 K n ((d,v')::L) (own e 1 v' (m1+k) (xs++List.replicate k zc)::H'))(hx:ev L s=some v:=by rfl)(hy:ev L x=some (.int kq i):=by rfl)(hi:i=(k:Int):=by omega)(p:Pull H (own e 1 v m1 xs) H':=by exact Wp)(h1:zc.oneCell'=true:=by rfl)(hb:(m1+k)*bytes≤140737488355328:=by omega)(hn:Nat.blt d n=true:=by rfl):Tri w0 (OpG P ⟨some d, .call { callee:= .builtin .append,args:= #[s,x],argTypes:= #[t,tn] },ty,pos,aft,g⟩ K Q) n L H:=o_appendZ (hx:=hx) (hy:=hy) (hi:=hi) (p:=p) (h1:=h1) (hb:=hb) (hn:=hn) (kk:=kk)
theorem ZoappendZg {t tn e:TypeId}{kn kq:IntKind}{size bytes:Nat}{z:List Value}[ht:TSlice P t e][htn:TInt P tn kn][he:TElem P e size bytes z]{s x:Operand}{A:Option Addr}{m1 cap k:Nat}{i:Int}{xs:List Value}(kk: ∀v',Tri w0 K n ((d,v')::L) (own e size v' (m1+k) (xs++(List.replicate k z).flatten)::H))(hx:ev L s=some (.slice A m1 cap):=by rfl)(hy:ev L x=some (.int kq i):=by rfl)(hi:i=(k:Int):=by omega)(hr: ∀w,St w0 w H→RdW w (.slice A m1 cap) m1 xs:=by(first | rfl | assumption))(hl:xs.length=m1*size:=by(first | rfl | assumption | (simp;omega) | simp))(hcap:cap<m1+k:=by rfl)(hb:(m1+k)*bytes≤140737488355328:=by omega)(hn:Nat.blt d n=true:=by rfl):Tri w0 (OpG P ⟨some d, .call { callee:= .builtin .append,args:= #[s,x],argTypes:= #[t,tn] },ty,pos,aft,g⟩ K Q) n L H:=o_appendZg (hx:=hx) (hy:=hy) (hi:=hi) (hr:=hr) (hl:=hl) (hcap:=hcap) (hb:=hb) (hn:=hn) (kk:=kk)
theorem Zbu {T:TypeId}{pl:List (Nat×Nat)}{z ys:List Value}{parts:List (Nat×Operand)}{vs:List (Nat×Value)}[ht:TPlaces P T pl][hz:TZero P T z](k:Tri w0 K n ((d, .agg ys.toArray)::L) H)(hp:pev L parts vs:=by exact Wpe)(hf:fillL (fun i=>pl[i]?) z vs=some ys:=by rfl)(hn:Nat.blt d n=true:=by rfl):Tri w0 (OpG P ⟨some d, .build T parts.toArray,ty,pos,aft,g⟩ K Q) n L H:=o_build (hp:=hp) (hf:=hf) (hn:=hn) (k:=k)
theorem Zbs {s t e:TypeId}{x:Operand}{u:Value}{l:List UInt8}[hs:TSlice P s e][ht:TStr P t](k:Tri w0 K n ((d, .string ⟨l.toArray⟩)::L) H)(he:P.underlying e=some (.int .u8):=by rfl)(hx:ev L x=some u:=by rfl)(hr: ∀w,St w0 w H→RdW w u l.length (l.map fun c=> .int .u8 (c.toNat:Int)):=by(first | rfl | assumption))(hn:Nat.blt d n=true:=by rfl):Tri w0 (OpG P ⟨some d, .convert s t x,ty,pos,aft,g⟩ K Q) n L H:=o_bytesStr (he:=he) (hx:=hx) (hr:=hr) (hn:=hn) (k:=k)
theorem Zcf {f:FuncId}{x:Operand}{args:List Operand}{ts:Array TypeId}{vs cs:List Value}{Pre:List Atom}{R:Value→List Atom→Prop}[TFn P f](hs:Spec P f (vs++cs).toArray Pre R)(k: ∀v Hq,R v Hq→Tri w0 K n ((d,v)::L) (Hq++H'))(hx:ev L x=some (.func (.func f) #[] cs.toArray):=by rfl)(hargs:evs L args vs:=by exact Wev)(p:Pulls H Pre H':=by exact Wps)(hn:Nat.blt d n=true:=by rfl):Tri w0 (OpG P ⟨some d, .call { callee:= .value x,args:=args.toArray,argTypes:=ts },ty,pos,aft,g⟩ K Q) n L H:=o_callF (hx:=hx) (hs:=hs) (hargs:=hargs) (p:=p) (hn:=hn) (k:=k)
theorem Zcr {f:FuncId}{args:List Operand}{ts:Array TypeId}{vs:List Value}{Pre:World→Prop}{R:Value→List Atom→Prop}[TFn P f](hs:SpecR P f vs.toArray Pre R)(k: ∀v H',R v H'→Tri w0 K n ((d,v)::L) (H'++H))(hargs:evs L args vs:=by exact Wev)(hpre: ∀w,St w0 w H→Pre w:=by exact fun _ _=>trivial)(hn:Nat.blt d n=true:=by rfl):Tri w0 (OpG P ⟨some d, .call { callee:= .value (.func f),args:=args.toArray,argTypes:=ts },ty,pos,aft,g⟩ K Q) n L H:=o_callR (hs:=hs) (hargs:=hargs) (hpre:=hpre) (hn:=hn) (k:=k)
theorem Zcs {f:FuncId}{args:List Operand}{ts:Array TypeId}{vs:List Value}{Pre:List Atom}{R:Value→List Atom→Prop}[TFn P f](hs:Spec P f vs.toArray Pre R)(k: ∀v Hq,R v Hq→Tri w0 K n ((d,v)::L) (Hq++H'))(hargs:evs L args vs:=by exact Wev)(p:Pulls H Pre H':=by exact Wps)(hn:Nat.blt d n=true:=by rfl):Tri w0 (OpG P ⟨some d, .call { callee:= .value (.func f),args:=args.toArray,argTypes:=ts },ty,pos,aft,g⟩ K Q) n L H:=o_callS (hs:=hs) (hargs:=hargs) (p:=p) (hn:=hn) (k:=k)
theorem Zcv {f:FuncId}{args:List Operand}{ts:Array TypeId}{vs:List Value}{Pre:World→Prop}{v:Value}[TFn P f](hs:SpecR P f vs.toArray Pre (fun r H'=>r=v∧H'= []))(k:Tri w0 K n ((d,v)::L) H)(hargs:evs L args vs:=by exact Wev)(hpre: ∀w,St w0 w H→Pre w:=by exact fun _ _=>trivial)(hn:Nat.blt d n=true:=by rfl):Tri w0 (OpG P ⟨some d, .call { callee:= .value (.func f),args:=args.toArray,argTypes:=ts },ty,pos,aft,g⟩ K Q) n L H:=o_callV (hs:=hs) (hargs:=hargs) (hpre:=hpre) (hn:=hn) (k:=k)
theorem Zcw {f:FuncId}{args:List Operand}{ts:Array TypeId}{vs:List Value}{Pre:List Atom}{R:Value→List Atom→Prop}[TFn P f](hs:SpecW P w0 f vs.toArray Pre R)(k: ∀v Hq,R v Hq→Tri w0 K n ((d,v)::L) (Hq++H'))(hargs:evs L args vs:=by exact Wev)(p:Pulls H Pre H':=by exact Wps)(hn:Nat.blt d n=true:=by rfl):Tri w0 (OpG P ⟨some d, .call { callee:= .value (.func f),args:=args.toArray,argTypes:=ts },ty,pos,aft,g⟩ K Q) n L H:=o_callW (hs:=hs) (hargs:=hargs) (p:=p) (hn:=hn) (k:=k)
theorem Zocap {T e:TypeId}{x:Operand}{A:Option Addr}{m c:Nat}[ht:TSlice P T e](k:Tri w0 K n ((d, .int .i64 (c:Int))::L) H)(hx:ev L x=some (.slice A m c):=by rfl)(hn:Nat.blt d n=true:=by rfl):Tri w0 (OpG P ⟨some d, .call { callee:= .builtin .cap,args:= #[x],argTypes:= #[T] },ty,pos,aft,g⟩ K Q) n L H:=o_cap (hx:=hx) (hn:=hn) (k:=k)
theorem Zoclear {t e T':TypeId}{size bytes:Nat}{z:List Value}{x:Operand}{b o' m c:Nat}{cur:List Value}[ht:TSlice P t e][he:TElem P e size bytes z](k:Tri w0 K n L (blk b T' (cur.take o'++(List.replicate m z).flatten++cur.drop (o'+m*size))::H'))(hx:ev L x=some (.slice (some ⟨b,o',none⟩) m c):=by rfl)(p:Pull H (blk b T' cur) H':=by exact Wp)(hfit:o'+m*size≤cur.length:=by rfl)(h1: ∀y∈z,y.oneCell'=true:=by rfl):Tri w0 (OpG P ⟨none, .call { callee:= .builtin .clear,args:= #[x],argTypes:= #[t] },ty,pos,aft,g⟩ K Q) n L H:=o_clear (hx:=hx) (p:=p) (hfit:=hfit) (h1:=h1) (k:=k)
theorem Zoclear0 {t e:TypeId}{size bytes:Nat}{z:List Value}{x:Operand}{A:Option Addr}{c:Nat}[ht:TSlice P t e][he:TElem P e size bytes z](k:Tri w0 K n L H)(hx:ev L x=some (.slice A 0 c):=by rfl):Tri w0 (OpG P ⟨none, .call { callee:= .builtin .clear,args:= #[x],argTypes:= #[t] },ty,pos,aft,g⟩ K Q) n L H:=o_clear0 (hx:=hx) (k:=k)
theorem ZoconvSS {s e:TypeId}{x:Operand}{v:Value}{m size:Nat}{xs:List Value}[hs:TSlice P s e](k:Tri w0 K n ((d,v)::L) (ro v m xs::H'))(he:P.underlying e=some (.int .u8):=by rfl)(hx:ev L x=some v:=by rfl)(p:Pull H (own e size v m xs) H':=by exact Wp)(hm:0<m:=by omega)(hn:Nat.blt d n=true:=by rfl):Tri w0 (OpG P ⟨some d, .convert s s x,ty,pos,aft,g⟩ K Q) n L H:=o_convSS (he:=he) (hx:=hx) (p:=p) (hm:=hm) (hn:=hn) (k:=k)
theorem ZocopyB {t e T':TypeId}{x y:Operand}{b o' dl dc:Nat}{u:Value}{m q:Nat}{cur news:List Value}[ht:TSlice P t e][hs:TSize P e 1](k:Tri w0 K n ((d, .int .i64 (q:Int))::L) (blk b T' (cur.take o'++news.take q++cur.drop (o'+q))::H'))(hx:ev L x=some (.slice (some ⟨b,o',none⟩) dl dc):=by rfl)(hy:ev L y=some u:=by rfl)(p:Pull H (blk b T' cur) H':=by exact Wp)(hr: ∀w,St w0 w H→RdW w u m news:=by(first | rfl | assumption))(hl:news.length=m:=by(first | rfl | assumption | (simp;omega) | simp))(hq:q=min m dl:=by rfl)(hfit:o'+q≤cur.length:=by rfl)(h1: ∀y∈news,y.oneCell'=true:=by rfl)(hn:Nat.blt d n=true:=by rfl):Tri w0 (OpG P ⟨some d, .call { callee:= .builtin .copy,args:= #[x,y],argTypes:= #[t,t] },ty,pos,aft,g⟩ K Q) n L H:=o_copyB (hx:=hx) (hy:=hy) (p:=p) (hr:=hr) (hl:=hl) (hq:=hq) (hfit:=hfit) (h1:=h1) (hn:=hn) (k:=k)
theorem ZocopyG {t e T':TypeId}{size:Nat}{x y:Operand}{b o' dl dc:Nat}{u:Value}{m q:Nat}{cur news:List Value}[ht:TSlice P t e][hs:TSize P e size](k:Tri w0 K n ((d, .int .i64 (q:Int))::L) (blk b T' (cur.take o'++news.take (q*size)++cur.drop (o'+q*size))::H'))(hx:ev L x=some (.slice (some ⟨b,o',none⟩) dl dc):=by rfl)(hy:ev L y=some u:=by rfl)(p:Pull H (blk b T' cur) H':=by exact Wp)(hr: ∀w,St w0 w H→RdW w u m news:=by(first | rfl | assumption))(hl:q*size≤news.length:=by(first | rfl | assumption | (simp;omega) | simp))(hq:q=min m dl:=by omega)(hfit:o'+q*size≤cur.length:=by rfl)(h1: ∀y∈news,y.oneCell'=true:=by rfl)(hn:Nat.blt d n=true:=by rfl):Tri w0 (OpG P ⟨some d, .call { callee:= .builtin .copy,args:= #[x,y],argTypes:= #[t,t] },ty,pos,aft,g⟩ K Q) n L H:=o_copyG (hx:=hx) (hy:=hy) (p:=p) (hr:=hr) (hl:=hl) (hq:=hq) (hfit:=hfit) (h1:=h1) (hn:=hn) (k:=k)
theorem ZoeqlA {t1 t2:TypeId}{z:List Value}{x y:Operand}{xs ys:List Value}{r:Bool}[ht:TEq P t1 z](k:Tri w0 K n ((d, .bool r)::L) H)(hx:ev L x=some (.agg xs.toArray):=by rfl)(hy:ev L y=some (.agg ys.toArray):=by rfl)(hax:Alk z xs:=by rfl)(hay:Alk z ys:=by rfl)(hr:r=true↔xs=ys:=by(first | rfl | assumption))(hn:Nat.blt d n=true:=by rfl):Tri w0 (OpG P ⟨some d, .binOp .eql t1 x y t2,ty,pos,aft,g⟩ K Q) n L H:=o_eqlA (hx:=hx) (hy:=hy) (hax:=hax) (hay:=hay) (hr:=hr) (hn:=hn) (k:=k)
theorem ZoeqlSN {t e t2:TypeId}{x y:Operand}{v:Value}{m:Nat}{xs:List Value}[ht:TSlice P t e](k: ∀b:Bool,(b=true→xs= [])→Tri w0 K n ((d, .bool b)::L) H)(hx:ev L x=some v:=by rfl)(hy:ev L y=some (.slice none 0 0):=by rfl)(hr: ∀w,St w0 w H→RdW w v m xs:=by(first | rfl | assumption))(hn:Nat.blt d n=true:=by rfl):Tri w0 (OpG P ⟨some d, .binOp .eql t x y t2,ty,pos,aft,g⟩ K Q) n L H:=o_eqlSN (hx:=hx) (hy:=hy) (hr:=hr) (hn:=hn) (k:=k)
theorem Zofield {T:TypeId}{f off:Nat}{x:Operand}{fs:Array Field}{fd:Field}(t:TypeId){cs:List Value}{v:Value}[hp:TPlain P t](k:Tri w0 K n ((d,v)::L) H)(hu:P.underlying T=some (.struct fs):=by rfl)(hfd:fs[f]? =some fd:=by rfl)(ht:fd.type=t:=by rfl)(ho:fd.offset=off:=by rfl)(hx:ev L x=some (.agg cs.toArray):=by rfl)(hv:cs[off]? =some v:=by rfl)(hn:Nat.blt d n=true:=by rfl):Tri w0 (OpG P ⟨some d, .field T x f,ty,pos,aft,g⟩ K Q) n L H:=o_field (t:=t) (hu:=hu) (hfd:=hfd) (ht:=ht) (ho:=ho) (hx:=hx) (hv:=hv) (hn:=hn) (k:=k)
theorem Zoindex {T e:TypeId}{m:Nat}{x y:Operand}{cs:List Value}{ik:IntKind}{i:Int}{j:Nat}{v:Value}[hT:TArr P T m e 1][hE:TPlain P e](k:Tri w0 K n ((d,v)::L) H)(hx:ev L x=some (.agg cs.toArray):=by rfl)(hy:ev L y=some (.int ik i):=by rfl)(hj:i=(j:Int):=by(first | rfl | exact(Int.toNat_of_nonneg (by omega)).symm))(hlt:j<m:=by(first | omega | assumption))(hv:cs[j]? =some v:=by rfl)(hn:Nat.blt d n=true:=by rfl):Tri w0 (OpG P ⟨some d, .index T x y,ty,pos,aft,g⟩ K Q) n L H:=o_index (hx:=hx) (hy:=hy) (hj:=hj) (hlt:=hlt) (hv:=hv) (hn:=hn) (k:=k)
theorem Zia {T e:TypeId}{m size:Nat}{x y:Operand}{b o':Nat}{ik:IntKind}{i:Int}{j:Nat}[hT:TArr P T m e size](k:Tri w0 K n ((d, .pointer (some ⟨b,o'+j*size,none⟩))::L) H)(hx:ev L x=some (.pointer (some ⟨b,o',none⟩)):=by rfl)(hy:ev L y=some (.int ik i):=by rfl)(hj:i=(j:Int):=by(first | rfl | exact(Int.toNat_of_nonneg (by omega)).symm))(hlt:j<m:=by(first | omega | assumption))(hn:Nat.blt d n=true:=by rfl):Tri w0 (OpG P ⟨some d, .indexAddr T x y,ty,pos,aft,g⟩ K Q) n L H:=o_ixArr (hx:=hx) (hy:=hy) (hj:=hj) (hlt:=hlt) (hn:=hn) (k:=k)
theorem Zix {T e e':TypeId}{size size':Nat}{x y:Operand}{v:Value}{m:Nat}{xs:List Value}{ik:IntKind}{i:Int}{j:Nat}[hT:TSlice P T e][hs:TSize P e size](k:Tri w0 K n ((d, .pointer (some (eaddr v (j*size))))::L) H)(hx:ev L x=some v:=by rfl)(hy:ev L y=some (.int ik i):=by rfl)(p:Pull H (own e' size' v m xs) H':=by exact Wp)(hj:i=(j:Int):=by(first | rfl | exact(Int.toNat_of_nonneg (by omega)).symm))(hlt:j<m:=by(first | omega | assumption))(hn:Nat.blt d n=true:=by rfl):Tri w0 (OpG P ⟨some d, .indexAddr T x y,ty,pos,aft,g⟩ K Q) n L H:=o_ixOwn (hx:=hx) (hy:=hy) (p:=p) (hj:=hj) (hlt:=hlt) (hn:=hn) (k:=k)
theorem Zir {T e:TypeId}{size:Nat}{x y:Operand}{h0:PH}{v:Value}{m:Nat}{xs:List Value}{ik:IntKind}{i:Int}{j:Nat}[hT:TSlice P T e][hs:TSize P e size](k:Tri w0 K n ((d, .pointer (some (eaddr v (j*size))))::L) H)(hx:ev L x=some v:=by rfl)(hy:ev L y=some (.int ik i):=by rfl)(hr:Rd h0 v m xs:=by(first | rfl | assumption))(hj:i=(j:Int):=by(first | rfl | exact(Int.toNat_of_nonneg (by omega)).symm))(hlt:j<m:=by(first | omega | assumption))(hl:j*size<xs.length:=by(first | rfl | assumption | (simp;omega) | simp))(hn:Nat.blt d n=true:=by rfl):Tri w0 (OpG P ⟨some d, .indexAddr T x y,ty,pos,aft,g⟩ K Q) n L H:=o_ixRd (hx:=hx) (hy:=hy) (hr:=hr) (hj:=hj) (hlt:=hlt) (hl:=hl) (hn:=hn) (k:=k)
theorem Zis {T e:TypeId}{size:Nat}{x y:Operand}{b o' m c:Nat}{ik:IntKind}{i:Int}{j:Nat}[hT:TSlice P T e][hs:TSize P e size](k:Tri w0 K n ((d, .pointer (some ⟨b,o'+j*size,none⟩))::L) H)(hx:ev L x=some (.slice (some ⟨b,o',none⟩) m c):=by rfl)(hy:ev L y=some (.int ik i):=by rfl)(hj:i=(j:Int):=by(first | rfl | exact(Int.toNat_of_nonneg (by omega)).symm))(hlt:j<m:=by(first | omega | assumption))(hn:Nat.blt d n=true:=by rfl):Tri w0 (OpG P ⟨some d, .indexAddr T x y,ty,pos,aft,g⟩ K Q) n L H:=o_ixSl (hx:=hx) (hy:=hy) (hj:=hj) (hlt:=hlt) (hn:=hn) (k:=k)
theorem ZoixW {T e:TypeId}{size:Nat}{x y:Operand}{v:Value}{m:Nat}{xs:List Value}{ik:IntKind}{i:Int}{j:Nat}[hT:TSlice P T e][hs:TSize P e size](k:Tri w0 K n ((d, .pointer (some (eaddr v (j*size))))::L) H)(hx:ev L x=some v:=by rfl)(hy:ev L y=some (.int ik i):=by rfl)(hr: ∀w,St w0 w H→RdW w v m xs:=by(first | rfl | assumption))(hj:i=(j:Int):=by(first | rfl | exact(Int.toNat_of_nonneg (by omega)).symm))(hlt:j<m:=by(first | omega | assumption))(hl:j*size<xs.length:=by(first | rfl | assumption | (simp;omega) | simp))(hn:Nat.blt d n=true:=by rfl):Tri w0 (OpG P ⟨some d, .indexAddr T x y,ty,pos,aft,g⟩ K Q) n L H:=o_ixW (hx:=hx) (hy:=hy) (hr:=hr) (hj:=hj) (hlt:=hlt) (hl:=hl) (hn:=hn) (k:=k)
theorem Zlr2 {T e:TypeId}{x:Operand}{h0:PH}{v:Value}{m:Nat}{xs:List Value}[TSlice P T e](k:Tri w0 K n ((d, .int .i64 (m:Int))::L) H)(hx:ev L x=some v:=by rfl)(hr:Rd h0 v m xs:=by(first | rfl | assumption))(hn:Nat.blt d n=true:=by rfl):Tri w0 (OpG P ⟨some d, .call { callee:= .builtin .len,args:= #[x],argTypes:= #[T] },ty,pos,aft,g⟩ K Q) n L H:=o_lenRd (hx:=hx) (hr:=hr) (hn:=hn) (k:=k)
theorem Zli {t e:TypeId}{size bytes m:Nat}{z ys:List Value}{parts:List (Nat×Operand)}{vs:List (Nat×Value)}[ht:TSlice P t e][he:TElem P e size bytes z](k: ∀v,Tri w0 K n ((d,v)::L) (own e size v m ys::H))(hp:pev L parts vs:=by exact Wpe)(hm:Nat.ble (m*size) 16777216=true:=by rfl)(hf:fillL (fun i=>some (i*size,size)) (List.replicate m z).flatten vs=some ys:=by rfl)(hn:Nat.blt d n=true:=by rfl):Tri w0 (OpG P ⟨some d, .buildSlice t m parts.toArray,ty,pos,aft,g⟩ K Q) n L H:=o_litSl (hp:=hp) (hm:=hm) (hf:=hf) (hn:=hn) (k:=k)
theorem Zl {T T':TypeId}{x:Operand}{b i:Nat}{cs:List Value}{v:Value}[TPlain P T](k:Tri w0 K n ((d,v)::L) H)(hx:ev L x=some (.pointer (some ⟨b,i,none⟩)):=by rfl)(p:Pull H (blk b T' cs) H':=by exact Wp)(hv:cs[i]? =some v:=by rfl)(hn:Nat.blt d n=true:=by rfl):Tri w0 (OpG P ⟨some d, .load T x,ty,pos,aft,g⟩ K Q) n L H:=o_load (hx:=hx) (p:=p) (hv:=hv) (hn:=hn) (k:=k)
theorem Zlg {T T':TypeId}{sz:Nat}{x:Operand}{b i:Nat}{cs ys:List Value}[TAgg P T sz](k:Tri w0 K n ((d, .agg ys.toArray)::L) H)(hx:ev L x=some (.pointer (some ⟨b,i,none⟩)):=by rfl)(p:Pull H (blk b T' cs) H':=by exact Wp)(hv:(cs.drop i).take sz=ys:=by rfl)(hl:ys.length=sz:=by(first | rfl | assumption | (simp;omega) | simp))(hn:Nat.blt d n=true:=by rfl):Tri w0 (OpG P ⟨some d, .load T x,ty,pos,aft,g⟩ K Q) n L H:=o_loadAgg (hx:=hx) (p:=p) (hv:=hv) (hl:=hl) (hn:=hn) (k:=k)
theorem Zlq {T e:TypeId}{sz m i size:Nat}{x:Operand}{u:Value}{xs ys:List Value}[TAgg P T sz](k:Tri w0 K n ((d, .agg ys.toArray)::L) H)(hx:ev L x=some (.pointer (some (eaddr u i))):=by rfl)(p:Pull H (own e size u m xs) H':=by exact Wp)(hv:(xs.drop i).take sz=ys:=by rfl)(hl:ys.length=sz:=by(first | rfl | assumption | (simp;omega) | simp))(hn:Nat.blt d n=true:=by rfl):Tri w0 (OpG P ⟨some d, .load T x,ty,pos,aft,g⟩ K Q) n L H:=o_loadAggOwn (hx:=hx) (p:=p) (hv:=hv) (hl:=hl) (hn:=hn) (k:=k)
theorem Zlh {T:TypeId}{sz:Nat}{x:Operand}{h0:PH}{u:Value}{m i:Nat}{xs ys:List Value}[TAgg P T sz](k:Tri w0 K n ((d, .agg ys.toArray)::L) H)(hx:ev L x=some (.pointer (some (eaddr u i))):=by rfl)(p:Pull H (Ex h0) H':=by exact Wp)(hr:Rd h0 u m xs:=by(first | rfl | assumption))(hv:(xs.drop i).take sz=ys:=by rfl)(hl:ys.length=sz:=by(first | rfl | assumption | (simp;omega) | simp))(hn:Nat.blt d n=true:=by rfl):Tri w0 (OpG P ⟨some d, .load T x,ty,pos,aft,g⟩ K Q) n L H:=o_loadAggRd (hx:=hx) (p:=p) (hr:=hr) (hv:=hv) (hl:=hl) (hn:=hn) (k:=k)
theorem ZoloadAggW {T:TypeId}{sz:Nat}{x:Operand}{u:Value}{m i:Nat}{xs ys:List Value}[TAgg P T sz](k:Tri w0 K n ((d, .agg ys.toArray)::L) H)(hx:ev L x=some (.pointer (some (eaddr u i))):=by rfl)(hr: ∀w,St w0 w H→RdW w u m xs:=by(first | rfl | assumption))(hv:(xs.drop i).take sz=ys:=by rfl)(hl:ys.length=sz:=by(first | rfl | assumption | (simp;omega) | simp))(hn:Nat.blt d n=true:=by rfl):Tri w0 (OpG P ⟨some d, .load T x,ty,pos,aft,g⟩ K Q) n L H:=o_loadAggW (hx:=hx) (hr:=hr) (hv:=hv) (hl:=hl) (hn:=hn) (k:=k)
theorem Zla {T T':TypeId}{sz:Nat}{x:Operand}{b:Nat}{cs:List Value}[TAgg P T sz](k:Tri w0 K n ((d, .agg cs.toArray)::L) H)(hx:ev L x=some (.pointer (some ⟨b,0,none⟩)):=by rfl)(p:Pull H (blk b T' cs) H':=by exact Wp)(hl:cs.length=sz:=by(first | rfl | assumption | (simp;omega) | simp))(hn:Nat.blt d n=true:=by rfl):Tri w0 (OpG P ⟨some d, .load T x,ty,pos,aft,g⟩ K Q) n L H:=o_loadAll (hx:=hx) (p:=p) (hl:=hl) (hn:=hn) (k:=k)
theorem Zlo {T e:TypeId}{x:Operand}{u v:Value}{m j size:Nat}{xs:List Value}[TPlain P T](k:Tri w0 K n ((d,v)::L) H)(hx:ev L x=some (.pointer (some (eaddr u j))):=by rfl)(p:Pull H (own e size u m xs) H':=by exact Wp)(hv:xs[j]? =some v:=by rfl)(hn:Nat.blt d n=true:=by rfl):Tri w0 (OpG P ⟨some d, .load T x,ty,pos,aft,g⟩ K Q) n L H:=o_loadOwn (hx:=hx) (p:=p) (hv:=hv) (hn:=hn) (k:=k)
theorem Zlr {T:TypeId}{x:Operand}{h0:PH}{u v:Value}{m j:Nat}{xs:List Value}[TPlain P T](k:Tri w0 K n ((d,v)::L) H)(hx:ev L x=some (.pointer (some (eaddr u j))):=by rfl)(p:Pull H (Ex h0) H':=by exact Wp)(hr:Rd h0 u m xs:=by(first | rfl | assumption))(hv:xs[j]? =some v:=by rfl)(hn:Nat.blt d n=true:=by rfl):Tri w0 (OpG P ⟨some d, .load T x,ty,pos,aft,g⟩ K Q) n L H:=o_loadRd (hx:=hx) (p:=p) (hr:=hr) (hv:=hv) (hn:=hn) (k:=k)
theorem ZoloadW {T:TypeId}{x:Operand}{u v:Value}{m j:Nat}{xs:List Value}[TPlain P T](k:Tri w0 K n ((d,v)::L) H)(hx:ev L x=some (.pointer (some (eaddr u j))):=by rfl)(hr: ∀w,St w0 w H→RdW w u m xs:=by(first | rfl | assumption))(hv:xs[j]? =some v:=by rfl)(hn:Nat.blt d n=true:=by rfl):Tri w0 (OpG P ⟨some d, .load T x,ty,pos,aft,g⟩ K Q) n L H:=o_loadW (hx:=hx) (hr:=hr) (hv:=hv) (hn:=hn) (k:=k)
theorem Zomake1 {t e:TypeId}{bytes:Nat}{zc:Value}{x y:Operand}{ik jk:IntKind}{i j:Int}{m:Nat}[ht:TSlice P t e][he:TElem P e 1 bytes [zc]](k: ∀b,Tri w0 K n ((d, .slice (some ⟨b,0,none⟩) m m)::L) (blk b e (List.replicate m zc)::H))(hx:ev L x=some (.int ik i):=by rfl)(hy:ev L y=some (.int jk j):=by rfl)(hi:i=(m:Int):=by omega)(hj:j=(m:Int):=by(first | rfl | exact(Int.toNat_of_nonneg (by omega)).symm))(hb:m*bytes≤140737488355328:=by omega)(hn:Nat.blt d n=true:=by rfl):Tri w0 (OpG P ⟨some d, .makeSlice t x y,ty,pos,aft,g⟩ K Q) n L H:=o_make1 (hx:=hx) (hy:=hy) (hi:=hi) (hj:=hj) (hb:=hb) (hn:=hn) (k:=k)
theorem ZomakeFunc {f:FuncId}{cap:List Operand}{vs:List Value}(k:Tri w0 K n ((d, .func (.func f) #[] vs.toArray)::L) H)(hc:evs L cap vs:=by rfl)(hn:Nat.blt d n=true:=by rfl):Tri w0 (OpG P ⟨some d, .makeFunc (.func f) #[] cap.toArray,ty,pos,aft,g⟩ K Q) n L H:=o_makeFunc (hc:=hc) (hn:=hn) (k:=k)
theorem Zooverlaps {f : FuncId} {fn : Func} {t tr e TA TB : TypeId} {size va oa la ca vb ob lb cb : Nat} {x y : Operand} {ts : Array TypeId} {csA csB : List Value} [ht : TSlice P t e] [hs : TSize P e size] (k : Tri w0 K n ((d, .bool false) :: L) H) (hf : P.funcs[f]? = some fn := by rfl) (hname : (fn.name == "runtime.NumGoroutine") = false := by kernel_rfl) (hbo : fn.body.isNone = true := by kernel_rfl) (hfn : Extern.findNext fn = none := by kernel_rfl) (hfi : Extern.find fn = some (Extern.SlicesOverlaps.overlaps #[t, t] #[tr]) := by kernel_rfl) (hx : ev L x = some (.slice (some ⟨va, oa, none⟩) la ca) := by rfl) (hy : ev L y = some (.slice (some ⟨vb, ob, none⟩) lb cb) := by rfl) (pA : Pull H (blk va TA csA) H1 := by exact Wp) (pB : Pull H1 (blk vb TB csB) H2 := by exact Wp) (hB : 0 < csB.length := by kernel_rfl) (hn : Nat.blt d n = true := by rfl) : Tri w0 (OpG P ⟨some d, .call { callee := .value (.func f), args := #[x, y], argTypes := ts }, ty, pos, aft, g⟩ K Q) n L H := o_overlaps (hf := hf) (hname := hname) (hbo := hbo) (hfn := hfn) (hfi := hfi) (hx := hx) (hy := hy) (pA := pA) (pB := pB) (hB := hB) (hn := hn) (k := k)
theorem Zsl {T e:TypeId}{size:Nat}{x:Operand}{ol oh:Option Operand}{v:Value}{m lo hi:Nat}{xs:List Value}{vl vh:Option Value}[hT:TSlice P T e][hs:TSize P e size](k:Tri w0 K n ((d,subv v size lo hi)::L) H)(hx:ev L x=some v:=by rfl)(hr: ∀w,St w0 w H→RdW w v m xs:=by(first | rfl | assumption))(hol: ∀a,Has a n L→ol.map a.eval=vl:=by(first | exact fun _ _=>rfl | exact fun a ha=>congrArg some (ha.eval rfl)))(hoh: ∀a,Has a n L→oh.map a.eval=vh:=by(first | exact fun _ _=>rfl | exact fun a ha=>congrArg some (ha.eval rfl)))(hlo:(∃ik,vl=some (.int ik (lo:Int)))∨vl=none∧lo=0:=by(first | exact .inr ⟨rfl,rfl⟩ | exact .inl ⟨_,rfl⟩ | exact .inl ⟨_,(by congr 2;omega)⟩))(hhi:(∃jk,vh=some (.int jk (hi:Int)))∨vh=none∧hi=m:=by(first | exact .inr ⟨rfl,rfl⟩ | exact .inl ⟨_,rfl⟩ | exact .inl ⟨_,(by congr 2;omega)⟩))(hlh:lo≤hi:=by omega)(hhm:hi≤m:=by omega)(hn:Nat.blt d n=true:=by rfl):Tri w0 (OpG P ⟨some d, .slice T x ol oh none,ty,pos,aft,g⟩ K Q) n L H:=o_slice (hx:=hx) (hr:=hr) (hol:=hol) (hoh:=hoh) (hlo:=hlo) (hhi:=hhi) (hlh:=hlh) (hhm:=hhm) (hn:=hn) (k:=k)
theorem Zoslice3 {T e:TypeId}{size:Nat}{x y z:Operand}{ol:Option Operand}{A:Option Addr}{m c lo hi mx:Nat}{vl:Option Value}{jk kk:IntKind}[hT:TSlice P T e][hs:TSize P e size](k:Tri w0 K n ((d, .slice (if mx=lo then A else A.map (·.add (lo*size))) (hi-lo) (mx-lo))::L) H)(hx:ev L x=some (.slice A m c):=by rfl)(hol: ∀a,Has a n L→ol.map a.eval=vl:=by(first | exact fun _ _=>rfl | exact fun a ha=>congrArg some (ha.eval rfl)))(hlo:(∃ik,vl=some (.int ik (lo:Int)))∨vl=none∧lo=0:=by(first | exact .inr ⟨rfl,rfl⟩ | exact .inl ⟨_,rfl⟩ | exact .inl ⟨_,(by congr 2;omega)⟩))(hy:ev L y=some (.int jk (hi:Int)):=by rfl)(hz:ev L z=some (.int kk (mx:Int)):=by rfl)(hlh:lo≤hi:=by omega)(hhm:hi≤mx:=by omega)(hmc:mx≤c:=by omega)(hn:Nat.blt d n=true:=by rfl):Tri w0 (OpG P ⟨some d, .slice T x ol (some y) (some z),ty,pos,aft,g⟩ K Q) n L H:=o_slice3 (hx:=hx) (hol:=hol) (hlo:=hlo) (hy:=hy) (hz:=hz) (hlh:=hlh) (hhm:=hhm) (hmc:=hmc) (hn:=hn) (k:=k)
theorem ZosliceB {T e:TypeId}{size:Nat}{x:Operand}{ol oh:Option Operand}{b o' m c lo hi:Nat}{vl vh:Option Value}[hT:TSlice P T e][hs:TSize P e size](k:Tri w0 K n ((d, .slice (some ⟨b,o'+lo*size,none⟩) (hi-lo) (c-lo))::L) H)(hx:ev L x=some (.slice (some ⟨b,o',none⟩) m c):=by rfl)(hol: ∀a,Has a n L→ol.map a.eval=vl:=by(first | exact fun _ _=>rfl | exact fun a ha=>congrArg some (ha.eval rfl)))(hoh: ∀a,Has a n L→oh.map a.eval=vh:=by(first | exact fun _ _=>rfl | exact fun a ha=>congrArg some (ha.eval rfl)))(hlo:(∃ik,vl=some (.int ik (lo:Int)))∨vl=none∧lo=0:=by(first | exact .inr ⟨rfl,rfl⟩ | exact .inl ⟨_,rfl⟩ | exact .inl ⟨_,(by congr 2;omega)⟩))(hhi:(∃jk,vh=some (.int jk (hi:Int)))∨vh=none∧hi=m:=by(first | exact .inr ⟨rfl,rfl⟩ | exact .inl ⟨_,rfl⟩ | exact .inl ⟨_,(by congr 2;omega)⟩))(hlh:lo≤hi:=by omega)(hhm:hi≤c:=by omega)(hne:lo<c:=by omega)(hn:Nat.blt d n=true:=by rfl):Tri w0 (OpG P ⟨some d, .slice T x ol oh none,ty,pos,aft,g⟩ K Q) n L H:=o_sliceB (hx:=hx) (hol:=hol) (hoh:=hoh) (hlo:=hlo) (hhi:=hhi) (hlh:=hlh) (hhm:=hhm) (hne:=hne) (hn:=hn) (k:=k)
theorem ZosliceH {T e:TypeId}{size:Nat}{x:Operand}{ol oh:Option Operand}{A:Option Addr}{m c lo hi:Nat}{vl vh:Option Value}[hT:TSlice P T e][hs:TSize P e size](k:Tri w0 K n ((d, .slice (if c=lo then A else A.map (·.add (lo*size))) (hi-lo) (c-lo))::L) H)(hx:ev L x=some (.slice A m c):=by rfl)(hol: ∀a,Has a n L→ol.map a.eval=vl:=by(first | exact fun _ _=>rfl | exact fun a ha=>congrArg some (ha.eval rfl)))(hoh: ∀a,Has a n L→oh.map a.eval=vh:=by(first | exact fun _ _=>rfl | exact fun a ha=>congrArg some (ha.eval rfl)))(hlo:(∃ik,vl=some (.int ik (lo:Int)))∨vl=none∧lo=0:=by(first | exact .inr ⟨rfl,rfl⟩ | exact .inl ⟨_,rfl⟩ | exact .inl ⟨_,(by congr 2;omega)⟩))(hhi:(∃jk,vh=some (.int jk (hi:Int)))∨vh=none∧hi=m:=by(first | exact .inr ⟨rfl,rfl⟩ | exact .inl ⟨_,rfl⟩ | exact .inl ⟨_,(by congr 2;omega)⟩))(hlh:lo≤hi:=by omega)(hhm:hi≤c:=by omega)(hn:Nat.blt d n=true:=by rfl):Tri w0 (OpG P ⟨some d, .slice T x ol oh none,ty,pos,aft,g⟩ K Q) n L H:=o_sliceH (hx:=hx) (hol:=hol) (hoh:=hoh) (hlo:=hlo) (hhi:=hhi) (hlh:=hlh) (hhm:=hhm) (hn:=hn) (k:=k)
theorem ZS {T T':TypeId}{x y:Operand}{b i:Nat}{cs:List Value}{v:Value}[_hT:TPlain P T][hz:TSize P T 1](k:Tri w0 K n L (blk b T' (cs.set i v)::H'))(hx:ev L x=some (.pointer (some ⟨b,i,none⟩)):=by rfl)(hy:ev L y=some v:=by rfl)(h1:v.oneCell'=true:=by rfl)(p:Pull H (blk b T' cs) H':=by exact Wp)(hi:i<cs.length:=by(exact Nat.le_of_ble_eq_true rfl)):Tri w0 (OpG P ⟨none, .store T x y,ty,pos,aft,g⟩ K Q) n L H:=o_store (hx:=hx) (hy:=hy) (h1:=h1) (p:=p) (hi:=hi) (k:=k)
theorem ZSg {T T':TypeId}{sz:Nat}{x y:Operand}{b i:Nat}{cs ys:List Value}[hT:TAgg P T sz](k:Tri w0 K n L (blk b T' (cs.take i++ys++cs.drop (i+sz))::H'))(hx:ev L x=some (.pointer (some ⟨b,i,none⟩)):=by rfl)(hy:ev L y=some (.agg ys.toArray):=by rfl)(hl:ys.length=sz:=by rfl)(h1: ∀v∈ys,v.oneCell'=true:=by rfl)(p:Pull H (blk b T' cs) H':=by exact Wp)(hi:i+sz≤cs.length:=by omega):Tri w0 (OpG P ⟨none, .store T x y,ty,pos,aft,g⟩ K Q) n L H:=o_storeAgg (hx:=hx) (hy:=hy) (hl:=hl) (h1:=h1) (p:=p) (hi:=hi) (k:=k)
theorem ZSa {T T':TypeId}{sz:Nat}{x y:Operand}{b:Nat}{cs ys:List Value}[TAgg P T sz](k:Tri w0 K n L (blk b T' ys::H'))(hx:ev L x=some (.pointer (some ⟨b,0,none⟩)):=by rfl)(hy:ev L y=some (.agg ys.toArray):=by rfl)(p:Pull H (blk b T' cs) H':=by exact Wp)(hl:ys.length=sz:=by rfl)(hc:cs.length=sz:=by rfl)(h1: ∀v∈ys,v.oneCell'=true:=by rfl):Tri w0 (OpG P ⟨none, .store T x y,ty,pos,aft,g⟩ K Q) n L H:=o_storeAll (hx:=hx) (hy:=hy) (p:=p) (hl:=hl) (hc:=hc) (h1:=h1) (k:=k)
theorem Tri.isOp (h:Tri w0 (OpG P o K Q) n L H):Tri w0 (OpG P o K Q) n L H:=h
theorem Tri.isBin {dd:Option Nat}{b:BinOp}{t1 t2:TypeId}{x y:Operand}(h:Tri w0 (OpG P ⟨dd, .binOp b t1 x y t2,ty,pos,aft,g⟩ K Q) n L H):Tri w0 (OpG P ⟨dd, .binOp b t1 x y t2,ty,pos,aft,g⟩ K Q) n L H:=h
theorem Wop {X G:Prop}(k:X)(h:(True→X)→G:=by intro kW;((with_reducible refine Tri.isOp ?_);first | ((with_reducible refine Tri.isBin ?_);first | ((with_reducible apply o_add64);(case hx=>rfl);(case hy=>rfl);(case hn=>rfl);(case hb=>omega)) | ((with_reducible apply o_add);(case hx=>rfl);(case hy=>rfl);(case hn=>rfl)) | ((with_reducible apply o_sub64);(case hx=>rfl);(case hy=>rfl);(case hn=>rfl);(case hb=>omega)) | ((with_reducible apply o_sub);(case hx=>rfl);(case hy=>rfl);(case hn=>rfl)) | ((with_reducible apply o_mul64);(case hx=>rfl);(case hy=>rfl);(case hn=>rfl);(case hb=>omega)) | ((with_reducible apply o_mul);(case hx=>rfl);(case hy=>rfl);(case hn=>rfl)) | ((with_reducible apply o_lss);(case hx=>rfl);(case hy=>rfl);(case hn=>rfl)) | ((with_reducible apply o_leq);(case hx=>rfl);(case hy=>rfl);(case hn=>rfl)) | ((with_reducible apply o_gtr);(case hx=>rfl);(case hy=>rfl);(case hn=>rfl)) | ((with_reducible apply o_geq);(case hx=>rfl);(case hy=>rfl);(case hn=>rfl)) | ((with_reducible apply o_eql);(case hx=>rfl);(case hy=>rfl);(case hn=>rfl)) | ((with_reducible apply o_neq);(case hx=>rfl);(case hy=>rfl);(case hn=>rfl)) | ((with_reducible apply o_rem);(case hx=>rfl);(case hy=>rfl);(case hn=>rfl);(case hi=>omega);(case hj=>omega)) | ((with_reducible apply o_remT);(case hx=>rfl);(case hy=>rfl);(case hn=>rfl);(case hj=>omega)) | ((with_reducible apply o_quo);(case hx=>rfl);(case hy=>rfl);(case hn=>rfl);(case hi=>omega);(case hj=>omega)) | ((with_reducible apply o_shr);(case hx=>rfl);(case hy=>rfl);(case hn=>rfl);(case hj=>omega)) | ((with_reducible apply o_shl);(case hx=>rfl);(case hy=>rfl);(case hn=>rfl);(case hj=>omega)) | ((with_reducible apply o_and);(case hx=>rfl);(case hy=>rfl);(case hn=>rfl)) | ((with_reducible apply o_or);(case hx=>rfl);(case hy=>rfl);(case hn=>rfl)) | ((with_reducible apply o_xor);(case hx=>rfl);(case hy=>rfl);(case hn=>rfl)) | ((with_reducible apply o_eqlB);(case hx=>rfl);(case hy=>rfl);(case hn=>rfl)) | ((with_reducible apply o_neqB);(case hx=>rfl);(case hy=>rfl);(case hn=>rfl)) | ((with_reducible apply o_eqlN);(case hx=>rfl);(case hy=>rfl);(case hn=>rfl)) | ((with_reducible apply o_neqN);(case hx=>rfl);(case hy=>rfl);(case hn=>rfl)) | ((with_reducible apply o_eqlS);(case hx=>rfl);(case hy=>rfl);(case hn=>rfl)) | ((with_reducible apply o_neqS);(case hx=>rfl);(case hy=>rfl);(case hn=>rfl))) | (first | ((with_reducible apply o_move);(case hx=>rfl);(case hn=>rfl)) | ((with_reducible apply o_assign);(case hx=>rfl);(case hn=>rfl)) | ((with_reducible apply o_pickT);(case hc=>rfl);(case hb=>with_reducible rfl);(case hx=>rfl);(case hn=>rfl)) | ((with_reducible apply o_pickF);(case hc=>rfl);(case hb=>with_reducible rfl);(case hy=>rfl);(case hn=>rfl)) | ((with_reducible apply o_notD);(case hx=>rfl);(case hn=>rfl)) | ((with_reducible apply o_not);(case hx=>rfl);(case hn=>rfl)) | ((with_reducible apply o_neg);(case hx=>rfl);(case hn=>rfl)) | ((with_reducible apply o_com);(case hx=>rfl);(case hn=>rfl)) | ((with_reducible apply o_convI);(case hx=>rfl);(case hn=>rfl);(case hw=>first | decide | (exact wrap_i64 (by omega)) | (exact wrap_u8 (by omega)) | (exact wrap_u16 (by omega)) | (exact wrap_u32 (by omega)) | (exact wrap_u64 (by omega)))) | ((with_reducible apply o_conv8);(case hx=>rfl);(case hn=>rfl)) | ((with_reducible apply o_conv32);(case hx=>rfl);(case hn=>rfl)) | ((with_reducible apply o_conv64);(case hx=>rfl);(case hn=>rfl)) | ((with_reducible apply o_conv);(case hx=>rfl);(case hn=>rfl)) | ((with_reducible apply o_extract);(case hx=>rfl);(case hv=>rfl);(case hn=>rfl)) | ((with_reducible apply o_nilCheck);(case hx=>rfl);(case hn=>rfl)) | ((with_reducible apply o_fieldAddr);(case hx=>rfl);(case hn=>rfl)) | ((with_reducible apply o_fieldE);(case hx=>rfl);(case hn=>rfl)) | ((with_reducible apply o_load);(case hx=>rfl);(case p=>exact Wp);(case hv=>rfl);(case hn=>rfl)) | ((with_reducible apply o_len);(case hx=>rfl);(case hn=>rfl)) | ((with_reducible apply o_lenOwn);(case hx=>rfl);(case p=>exact Wp);(case hn=>rfl)) | ((with_reducible apply o_ixArr);(case hx=>rfl);(case hy=>rfl);(case hj=>first | rfl | exact(Int.toNat_of_nonneg (by omega)).symm);(case hlt=>first | omega | assumption);(case hn=>rfl)) | ((with_reducible apply o_ixSl);(case hx=>rfl);(case hy=>rfl);(case hj=>first | rfl | exact(Int.toNat_of_nonneg (by omega)).symm);(case hlt=>first | omega | assumption);(case hn=>rfl)) | ((with_reducible apply o_min);(case hx=>rfl);(case hy=>rfl);(case hn=>rfl)) | ((with_reducible apply o_max);(case hx=>rfl);(case hy=>rfl);(case hn=>rfl)) | ((with_reducible apply o_build0);(case hn=>rfl)) | ((with_reducible apply o_index);(case hx=>rfl);(case hy=>rfl);(case hj=>first | rfl | exact(Int.toNat_of_nonneg (by omega)).symm);(case hlt=>first | omega | assumption);(case hv=>rfl);(case hn=>rfl)) | ((with_reducible apply o_ixArr (j:=0));(case hx=>rfl);(case hy=>rfl);(case hj=>rfl);(case hlt=>first | omega | assumption);(case hn=>rfl)) | ((with_reducible apply o_ixArr (j:=1));(case hx=>rfl);(case hy=>rfl);(case hj=>rfl);(case hlt=>first | omega | assumption);(case hn=>rfl)) | ((with_reducible apply o_ixArr (j:=2));(case hx=>rfl);(case hy=>rfl);(case hj=>rfl);(case hlt=>first | omega | assumption);(case hn=>rfl)) | ((with_reducible apply o_ixArr (j:=3));(case hx=>rfl);(case hy=>rfl);(case hj=>rfl);(case hlt=>first | omega | assumption);(case hn=>rfl))));exact kW trivial):G:=h fun _=>k
theorem Wct {X G:Prop}(k:X)(h:(True→X)→G:=by intro kW;(first | (with_reducible refine Tri.region ?_) | (with_reducible refine Tri.nil ?_) | ((with_reducible apply Tri.op);(case hg=>rfl)) | (with_reducible refine Tri.thenN ?_) | (with_reducible refine Tri.blockN ?_) | (with_reducible refine Tri.thenR ?_) | (with_reducible refine Tri.blockR ?_) | (with_reducible refine Tri.thenE ?_) | (with_reducible refine Tri.blockE ?_) | ((with_reducible apply Tri.blockE');(case hne=>rfl)) | (with_reducible refine Tri.skip ?_) | (with_reducible refine Tri.exit ?_) | (with_reducible refine Tri.ret ?_) | ((with_reducible apply Tri.condT);(case hc=>rfl);(case hb=>with_reducible rfl)) | ((with_reducible apply Tri.condF);(case hc=>rfl);(case hb=>with_reducible rfl)) | ((with_reducible apply Tri.opYes);(case hg=>rfl);(case hy=>rfl);(case hb=>with_reducible rfl)) | ((with_reducible apply Tri.opNo (c:=true));(case hg=>rfl);(case hd=>rfl);(case hn=>rfl);(case hy=>rfl);(case hb=>with_reducible rfl);(case hc=>rfl)) | ((with_reducible apply Tri.opNo (c:=false));(case hg=>rfl);(case hd=>rfl);(case hn=>rfl);(case hy=>rfl);(case hb=>with_reducible rfl);(case hc=>rfl)) | ((with_reducible apply Tri.opNoU);(case hg=>rfl);(case hyu=>rfl);(case hd=>rfl);(case hn=>rfl)) | (with_reducible refine TriR.region ?_) | (with_reducible refine TriR.nil ?_) | (with_reducible refine TriR.skip ?_) | (with_reducible refine TriR.exit ?_) | (with_reducible refine TriR.ret ?_) | ((with_reducible apply TriR.op);(case hg=>rfl);(case hnd=>rfl)) | ((with_reducible apply TriR.condT);(case hc=>rfl);(case hb=>with_reducible rfl)) | ((with_reducible apply TriR.condF);(case hc=>rfl);(case hb=>with_reducible rfl)) | ((with_reducible apply TriR.opYes);(case hg=>rfl);(case hy=>rfl);(case hb=>with_reducible rfl);(case hnd=>rfl)) | ((with_reducible apply TriR.opNo (c:=true));(case hg=>rfl);(case hd=>rfl);(case hn=>rfl);(case hy=>rfl);(case hb=>with_reducible rfl);(case hc=>rfl)) | ((with_reducible apply TriR.opNo (c:=false));(case hg=>rfl);(case hd=>rfl);(case hn=>rfl);(case hy=>rfl);(case hb=>with_reducible rfl);(case hc=>rfl)) | ((with_reducible apply TriR.opNoU);(case hg=>rfl);(case hyu=>rfl);(case hd=>rfl);(case hn=>rfl)));exact kW trivial):G:=h fun _=>k
theorem Ws {X G:Prop}(k:X)(h:(True→X)→G:=by intro kW;(repeat (first | (refine Wop ?_) | (refine Wct ?_) | (with_reducible refine Tri.seq ?_) | (with_reducible refine Tri.block ?_) | (with_reducible refine TriR.seq ?_) | (with_reducible refine TriR.block ?_)));exact kW trivial):G:=h fun _=>k
theorem Wr {X G:Prop}(k:X)(h:(True→X)→G:=by intro kW;(repeat (first | (refine Wop ?_) | ((with_reducible apply o_store);(case hx=>rfl);(case hy=>rfl);(case h1=>rfl);(case p=>exact Wp);(case hi=>(exact Nat.le_of_ble_eq_true rfl))) | (refine Wct ?_) | (with_reducible refine Tri.seq ?_) | (with_reducible refine Tri.block ?_) | (with_reducible refine TriR.seq ?_) | (with_reducible refine TriR.block ?_)));exact kW trivial):G:=h fun _=>k
theorem Wo {X G:Prop}(k:X)(h:(True→X)→G:=by intro kW;(repeat (first | (refine Wop ?_) | (refine Wct ?_)));exact kW trivial):G:=h fun _=>k
theorem Wqs {X G:Prop}(k:X)(h:(True→X)→G:=by intro kW;(repeat (first | (with_reducible refine TriQ.nil ?_) | ((first | ((with_reducible apply TriQ.op);(case hg=>rfl)) | ((with_reducible apply TriQ.opYes);(case hg=>rfl);(case hy=>rfl);(case hb=>with_reducible rfl)));(case hd=>rfl);(case hn=>rfl);(case h=>(intro K hK;(refine Wop ?_);exact hK))) | ((with_reducible apply TriQ.opNo (c:=true));(case hg=>rfl);(case hy=>rfl);(case hb=>with_reducible rfl);(case hc=>rfl);(case hd=>rfl);(case hn=>rfl)) | ((with_reducible apply TriQ.opNo (c:=false));(case hg=>rfl);(case hy=>rfl);(case hb=>with_reducible rfl);(case hc=>rfl);(case hd=>rfl);(case hn=>rfl)) | ((with_reducible apply TriQ.opNoU);(case hg=>rfl);(case hyu=>rfl);(case hd=>rfl);(case hn=>rfl))));exact kW trivial):G:=h fun _=>k
theorem Wap {X G:Prop}(k:X)(h:(True→X)→G:=by intro kW;(try dsimp only [cA,nA]);exact kW trivial):G:=h fun _=>k
def Qs (is:List Nat)(X G:Prop):Prop:=(True→X)→G
theorem Qs.nil {X:Prop}:Qs [] X X:=fun k=>k trivial
section
variable {ops:Array Oper} {Hs F:List Atom} {m:Nat} {ls:Array Bool} {i:Nat} {is:List Nat} {X:Prop} {v:Value} {j:Nat} {b b' c:Bool}
theorem Qs.q (ho:ops.toList[i]? =some o)(hg:o.guard=none)(hB:takeB ops ls i=true)(hd:o.dst=some d)(hn:Nat.blt d n=true)(h: ∀(F:List Atom) (K:Act→World→Prop),Tri w0 K n ((d,v)::L) (Hs++F)→Tri w0 (OpG P o K (fun _ _ _=>False)) n L (Hs++F))(k:Qs is X (TriM P w0 ops Q Hs m (ls.setIfInBounds i true) n ((d,v)::L) F)):Qs (i::is) X (TriM P w0 ops Q Hs (m+1) ls n L F):=fun x=>TriM.q i ho hg hB hd hn h (k x)
theorem Qs.y (ho:ops.toList[i]? =some o)(hg:o.guard=some (j,b))(hyl:yl L ops j=some b')(hb:b'=b)(hB:takeB ops ls i=true)(hd:o.dst=some d)(hn:Nat.blt d n=true)(h: ∀(F:List Atom) (K:Act→World→Prop),Tri w0 K n ((d,v)::L) (Hs++F)→Tri w0 (OpG P o K (fun _ _ _=>False)) n L (Hs++F))(k:Qs is X (TriM P w0 ops Q Hs m (ls.setIfInBounds i true) n ((d,v)::L) F)):Qs (i::is) X (TriM P w0 ops Q Hs (m+1) ls n L F):=fun x=>TriM.qYes i ho hg hyl hb hB hd hn h (k x)
theorem Qs.no (ho:ops.toList[i]? =some o)(hg:o.guard=some (j,b))(hyl:yl L ops j=some b')(hb:b'=c)(hc:(c !=b)=true)(hB:takeB ops ls i=true)(hd:o.dst=some d)(hn:Nat.blt d n=true)(k:Qs is X (TriM P w0 ops Q Hs m (ls.setIfInBounds i true) n ((d,undef)::L) F)):Qs (i::is) X (TriM P w0 ops Q Hs (m+1) ls n L F):=fun x=>TriM.qNo (c:=c) i ho hg hyl hb hc hB hd hn (k x)
theorem Qs.u (ho:ops.toList[i]? =some o)(hg:o.guard=some (j,b))(hyu:yu L ops j=true)(hB:takeB ops ls i=true)(hd:o.dst=some d)(hn:Nat.blt d n=true)(k:Qs is X (TriM P w0 ops Q Hs m (ls.setIfInBounds i true) n ((d,undef)::L) F)):Qs (i::is) X (TriM P w0 ops Q Hs (m+1) ls n L F):=fun x=>TriM.qNoU i ho hg hyu hB hd hn (k x)
theorem Wq (is:List Nat){X G:Prop}(k:X)(h:Qs is X G:=by(repeat (first | ((first | ((with_reducible apply Qs.q);(case ho=>rfl);(case hg=>rfl)) | ((with_reducible apply Qs.y);(case ho=>rfl);(case hg=>rfl);(case hyl=>rfl);(case hb=>with_reducible rfl)));(case hB=>kernel_rfl);(case hd=>rfl);(case hn=>rfl);(case h=>(intro F K hK;(try dsimp only [cA,nA]);(refine Wop ?_);exact hK))) | ((with_reducible apply Qs.no (c:=true));(case ho=>rfl);(case hg=>rfl);(case hyl=>rfl);(case hb=>with_reducible rfl);(case hc=>rfl);(case hB=>kernel_rfl);(case hd=>rfl);(case hn=>rfl)) | ((with_reducible apply Qs.no (c:=false));(case ho=>rfl);(case hg=>rfl);(case hyl=>rfl);(case hb=>with_reducible rfl);(case hc=>rfl);(case hB=>kernel_rfl);(case hd=>rfl);(case hn=>rfl)) | ((with_reducible apply Qs.u);(case ho=>rfl);(case hg=>rfl);(case hyu=>rfl);(case hB=>kernel_rfl);(case hd=>rfl);(case hn=>rfl))));exact Qs.nil):G:=h fun _=>k
variable {s:Nat} {Hk:List Atom}
theorem Qn.q (ho:ops.toList[i]? =some o)(hg:o.guard=none)(hB:takeN ops ls s i=true)(hd:o.dst=some d)(hn:Nat.blt d n=true)(h: ∀(F:List Atom) (K:Act→World→Prop),Tri w0 K n ((d,v)::L) (Hs++F)→Tri w0 (OpG P o K (fun _ _ _=>False)) n L (Hs++F))(k:Qs is X (TriN P w0 ops Q s Hk Hs m (ls.setIfInBounds i true) n ((d,v)::L) F)):Qs (i::is) X (TriN P w0 ops Q s Hk Hs (m+1) ls n L F):=fun x=>TriN.q i ho hg hB hd hn h (k x)
theorem Qn.p (ho:ops.toList[i]? =some o)(hg:o.guard=none)(hB:Gv.takeP ops ls s i=true)(hd:o.dst=some d)(hn:Nat.blt d n=true)(h: ∀(F:List Atom) (K:Act→World→Prop),Tri w0 K n ((d,v)::L) (Hk++F)→Tri w0 (OpG P o K (fun _ _ _=>False)) n L (Hk++F))(k:Qs is X (TriN P w0 ops Q s Hk Hs m (ls.setIfInBounds i true) n ((d,v)::L) F)):Qs (i::is) X (TriN P w0 ops Q s Hk Hs (m+1) ls n L F):=fun x=>TriN.p i ho hg hB hd hn h (k x)
theorem Wnq (is:List Nat){X G:Prop}(k:X)(h:Qs is X G:=by(repeat ((with_reducible apply Qn.q);(case ho=>rfl);(case hg=>rfl);(case hB=>kernel_rfl);(case hd=>rfl);(case hn=>rfl);(case h=>(intro F K hK;(try dsimp only [cA,nA]);(refine Wop ?_);exact hK))));exact Qs.nil):G:=h fun _=>k
theorem Wnp (is:List Nat){X G:Prop}(k:X)(h:Qs is X G:=by(repeat ((with_reducible apply Qn.p);(case ho=>rfl);(case hg=>rfl);(case hB=>kernel_rfl);(case hd=>rfl);(case hn=>rfl);(case h=>(intro F K hK;(try dsimp only [cA,nA]);(refine Wop ?_);exact hK))));exact Qs.nil):G:=h fun _=>k
theorem Zm (i:Nat)(ho:ops.toList[i]? =some o:=by rfl)(hg:(match o.guard with | none=>true | some (j,b)=>(match yl L ops j with | some b'=>b'==b | none=>false))=true:=by rfl)(hB:takeB ops ls i=true:=by kernel_rfl)(hd:o.dst=some d:=by rfl)(hn:Nat.blt d n=true:=by rfl)(h: ∀(F:List Atom) (K:Act→World→Prop),Tri w0 K n ((d,v)::L) (Hs++F)→Tri w0 (OpG P o K (fun _ _ _=>False)) n L (Hs++F))(k:TriM P w0 ops Q Hs m (ls.setIfInBounds i true) n ((d,v)::L) F):TriM P w0 ops Q Hs (m+1) ls n L F:=by
 cases hgu:o.guard with
 | none=>exact TriM.q i ho hgu hB hd hn h k
 | some jb=>
  obtain⟨j,b⟩:=jb
  cases hy:yl L ops j with
  | none=>rw [hgu] at hg;simp [hy] at hg
  | some b'=>
   rw [hgu] at hg
   simp [hy] at hg
   exact TriM.qYes i ho hgu hy hg hB hd hn h k
theorem Zn (i:Nat)(ho:ops.toList[i]? =some o:=by rfl)(hg:o.guard=none:=by rfl)(hB:takeN ops ls s i=true:=by kernel_rfl)(hd:o.dst=some d:=by rfl)(hn:Nat.blt d n=true:=by rfl)(h: ∀(F:List Atom) (K:Act→World→Prop),Tri w0 K n ((d,v)::L) (Hs++F)→Tri w0 (OpG P o K (fun _ _ _=>False)) n L (Hs++F))(k:TriN P w0 ops Q s Hk Hs m (ls.setIfInBounds i true) n ((d,v)::L) F):TriN P w0 ops Q s Hk Hs (m+1) ls n L F:=TriN.q i ho hg hB hd hn h k
variable {HK:List Atom}
theorem Wal {α:Type}{a b c:List α}(h:a++b=c:=by first | (dsimp only [cA,nA] <;>exact rfl) | exact rfl):a++b=c:=h
theorem ZA (i:Nat)(h:Tri w0 (OpG P o (MixK P w0 ops Q Hs m (ls.setIfInBounds i true)) (fun _ _ _=>False)) n L HK)(ho:ops.toList[i]? =some o:=by rfl)(hg:o.guard=none:=by rfl)(hr:Nat.beq (Region.ready .any ops ls).length 1 && (Region.ready .any ops ls).contains i=true:=by kernel_rfl)(hH:Hs++F=HK:=by exact Wal):TriM P w0 ops Q Hs (m+1) ls n L F:=TriM.a (i:=i) (ho:=ho) (hg:=hg) (hr:=hr) (h:=by rw [hH];exact h)
theorem ZAy (i:Nat)(h:Tri w0 (OpG P o (MixK P w0 ops Q Hs m (ls.setIfInBounds i true)) (fun _ _ _=>False)) n L HK)(ho:ops.toList[i]? =some o:=by rfl)(hg:o.guard=some (j,b):=by rfl)(hyl:yl L ops j=some b':=by rfl)(hb:b'=b:=by with_reducible rfl)(hr:decide (Region.ready .any ops ls= [i])=true:=by kernel_rfl)(hH:Hs++F=HK:=by exact Wal):TriM P w0 ops Q Hs (m+1) ls n L F:=TriM.aY (i:=i) (ho:=ho) (hg:=hg) (hyl:=hyl) (hb:=hb) (hr:=hr) (h:=by rw [hH];exact h)
theorem ZA2 (i j:Nat){oi oj:Oper}(hi:Tri w0 (OpG P oi (MixK P w0 ops Q Hs m (ls.setIfInBounds i true)) (fun _ _ _=>False)) n L HK)(hj:Tri w0 (OpG P oj (MixK P w0 ops Q Hs m (ls.setIfInBounds j true)) (fun _ _ _=>False)) n L HK)(hoi:ops.toList[i]? =some oi:=by rfl)(hoj:ops.toList[j]? =some oj:=by rfl)(hgi:oi.guard=none:=by rfl)(hgj:oj.guard=none:=by rfl)(hr:decide (Region.ready .any ops ls= [i,j])=true:=by kernel_rfl)(hH:Hs++F=HK:=by exact Wal):TriM P w0 ops Q Hs (m+1) ls n L F:=TriM.a2 i j hoi hoj hgi hgj hr (by rw [hH];exact hi) (by rw [hH];exact hj)
theorem Zw (h:TriM P w0 ops Q Hs m ls n L F)(p:Pulls H Hs F:=by exact Wps):Tri w0 (MixK P w0 ops Q Hs m ls) n L H:=TriM.back p h
theorem ZE (h:Tri w0 (Q .normal) n L HK)(hr:(Region.ready .any ops ls).isEmpty=true:=by kernel_rfl)(hH:Hs++F=HK:=by exact Wal):TriM P w0 ops Q Hs 0 ls n L F:=TriM.nil hr (by rw [hH];exact h)
theorem Znl (h:Tri w0 (OpG P o (MixK P w0 ops Q Hk m (ls.setIfInBounds s true)) (fun _ _ _=>False)) n L HK)(ho:ops.toList[s]? =some o:=by rfl)(hg:o.guard=none:=by rfl)(hr:decide (Region.ready .any ops ls= [s])=true:=by kernel_rfl)(hH:Hs++F=HK:=by exact Wal):TriN P w0 ops Q s Hk Hs (m+1) ls n L F:=TriN.less ho hg hr (by rw [hH];exact h)
theorem Zna (i:Nat)(h:Tri w0 (OpG P o (MixN P w0 ops Q s Hk Hs m (ls.setIfInBounds i true)) (fun _ _ _=>False)) n L HK)(ho:ops.toList[i]? =some o:=by rfl)(hg:o.guard=none:=by rfl)(hr:decide (Region.ready .any ops ls= [i]) && (!(i==s) && !(ls.getD s false))=true:=by kernel_rfl)(hH:Hs++F=HK:=by exact Wal):TriN P w0 ops Q s Hk Hs (m+1) ls n L F:=TriN.a i ho hg hr (by rw [hH];exact h)
theorem Znb (h:TriN P w0 ops Q s Hk Hs m ls n L F)(hp: ∃X,Hs=Hk++X:=by exact⟨_,rfl⟩)(p:Pulls H Hs F:=by exact Wps):Tri w0 (MixN P w0 ops Q s Hk Hs m ls) n L H:=TriN.back hp p h
end
def AtH (Hs:List Atom)(X G:Prop):Prop:=(True→X)→G
theorem AtH.m {Hs F:List Atom}{id mm:Nat}{l:List Oper}[hm:TMixed P](p:Pulls H Hs F)(hl:l.length=mm):AtH Hs (TriM P w0 l.toArray Q Hs mm (Array.replicate mm false) n L F) (Tri w0 ((Code.region id l.toArray true).wp P Q) n L H):=fun h=>Tri.mix Hs p (by rw [hl];exact h trivial)
theorem AtH.r {Hs F:List Atom}{id mm:Nat}{l:List Oper}[hm:TMixed P](p:Pulls H Hs F)(hnd:l.all nodefer=true)(hl:l.length=mm):AtH Hs (TriM P w0 l.toArray Q Hs mm (Array.replicate mm false) n L F) (Tri w0 (Code.wr rO P (Code.region id l.toArray true) Q) n L H):=fun h=>TriR.mix Hs p hnd (by rw [hl];exact h trivial)
theorem Wm (Hs:List Atom){X G:Prop}(k:X)(h:AtH Hs X G:=by(first | with_reducible apply AtH.m | ((with_reducible apply AtH.r);(case hnd=>rfl)));(case p=>exact Wps);(case hl=>first | (dsimp only [List.length] <;>exact rfl) | exact rfl)):G:=h fun _=>k
theorem Znm (s:Nat)(Hk Hs:List Atom){id mm:Nat}{l:List Oper}{F:List Atom}[hm:TMixed P](h:TriN P w0 l.toArray Q s Hk Hs mm (Array.replicate mm false) n L F)(hp: ∃X,Hs=Hk++X:=by exact⟨_,rfl⟩)(p:Pulls H Hs F:=by exact Wps)(hl:l.length=mm:=by first | (dsimp only [List.length] <;>exact rfl) | exact rfl):Tri w0 ((Code.region id l.toArray true).wp P Q) n L H:=Tri.mixN s Hk Hs hp p (by rw [hl];exact h)
theorem Zag {α:Type}{m:α→Nat}{Lx:α→Slots}{Hx:α→List Atom}{mx:Nat}(y:α)(hL:SubL L (Lx y):=by exact Wsl)(p:Pulls H (Hx y) R:=by(try dsimp only);exact Wps)(hm:m y<mx:=by(try dsimp only);omega):Tri w0 (fun a w=> ∃y,m y<mx∧Has a n (Lx y)∧St w0 w (Hx y)) n L H:=Tri.again y hm hL p
theorem Zrc {α:Type}{Lx:α→Slots}{Hx:α→List Atom}(y:α)(hL:SubL L (Lx y):=by exact Wsl)(p:Pulls H (Hx y) R:=by(try dsimp only);exact Wps):Tri w0 (fun a w=> ∃y,Has a n (Lx y)∧St w0 w (Hx y)) n L H:=Tri.reach y hL p
section
variable {α:Type} (m:α→Nat) (Lx:α→Slots) (Hx:α→List Atom) (x0:α)
def AtL {α:Type}(m:α→Nat)(Lx:α→Slots)(Hx:α→List Atom)(x0:α)(X G:Prop):Prop:=(True→X)→G
theorem AtL.l {c:Code}(hL:SubL L (Lx x0))(hH: ∀w,St w0 w H→St w0 w (Hx x0)):AtL m Lx Hx x0 (∀x mx,mx=m x→Tri w0 (c.wp P (Exit.then (fun a w=> ∃y,m y<mx∧Has a n (Lx y)∧St w0 w (Hx y)) Q)) n (Lx x) (Hx x)) (Tri w0 ((Code.loop c).wp P Q) n L H):=fun h=>Tri.loop m Lx Hx x0 hL hH (h trivial)
theorem AtL.r {c:Code}(hL:SubL L (Lx x0))(hH: ∀w,St w0 w H→St w0 w (Hx x0)):AtL m Lx Hx x0 (∀x mx,mx=m x→Tri w0 (Code.wr rO P c (Exit.then (fun a w=> ∃y,m y<mx∧Has a n (Lx y)∧St w0 w (Hx y)) Q)) n (Lx x) (Hx x)) (Tri w0 (Code.wr rO P (Code.loop c) Q) n L H):=fun h=>TriR.loop m Lx Hx x0 hL hH (h trivial)
theorem Wl {X G:Prop}(k:X)(h:AtL m Lx Hx x0 X G:=by(first | with_reducible apply AtL.l | with_reducible apply AtL.r);(case hL=>exact Wsl);(case hH=>((try dsimp only);apply St.all;exact Wps))):G:=h fun _=>k
end
def AtS {α:Type}(Lx:α→Slots)(Hx:α→List Atom)(X Y G:Prop):Prop:=(True→X)→(True→Y)→G
theorem AtS.m {α:Type}{c e:Code}{Lx:α→Slots}{Hx:α→List Atom}:AtS Lx Hx (Tri w0 (c.wp P (Exit.then (fun a w=> ∃y,Has a n (Lx y)∧St w0 w (Hx y)) Q)) n L H) (∀x,Tri w0 (e.wp P Q) n (Lx x) (Hx x)) (Tri w0 ((Code.seq c e).wp P Q) n L H):=fun h1 h2=>Tri.seqMeet Lx Hx (h1 trivial) (h2 trivial)
theorem AtS.r {α:Type}{c e:Code}{Lx:α→Slots}{Hx:α→List Atom}:AtS Lx Hx (Tri w0 (Code.wr rO P c (Exit.then (fun a w=> ∃y,Has a n (Lx y)∧St w0 w (Hx y)) Q)) n L H) (∀x,Tri w0 (Code.wr rO P e Q) n (Lx x) (Hx x)) (Tri w0 (Code.wr rO P (Code.seq c e) Q) n L H):=fun h1 h2=>TriR.seqMeet Lx Hx (h1 trivial) (h2 trivial)
theorem Wme {α:Type}(Lx:α→Slots)(Hx:α→List Atom){X Y G:Prop}(x:X)(y:Y)(h:AtS Lx Hx X Y G:=by(first | exact AtS.m | exact AtS.r)):G:=h (fun _=>x) (fun _=>y)
def At2 (X Y G:Prop):Prop:=(True→X)→(True→Y)→G
theorem Wcd {X Y G:Prop}(x:X)(y:Y)(h:At2 X Y G:=by(intro kX kY;first | (with_reducible apply Tri.condD) | (with_reducible apply TriR.condD));(case hc=>rfl);(case ht=>exact kX trivial);(case hf=>exact kY trivial)):G:=h (fun _=>x) (fun _=>y)
theorem Wcb {X Y G:Prop}(x:X)(y:Y)(h:At2 X Y G:=by(intro kX kY;first | (with_reducible apply Tri.cond) | (with_reducible apply TriR.cond));(case hc=>rfl);(case ht=>exact kX trivial);(case hf=>exact kY trivial)):G:=h (fun _=>x) (fun _=>y)
theorem ZcB (k:Nat){b:Bool}(ht:b=true→Tri w0 G n ((k, .bool true)::L) H)(hf:b=false→Tri w0 G n ((k, .bool false)::L) H)(h:look L k=some (.bool b):=by rfl):Tri w0 G n L H:=Tri.casesB k h ht hf
theorem Wbx {X G:Prop}(k:X)(h:(True→X)→G:=by intro kW;(first | ((with_reducible apply o_boxA);(case hx=>rfl);(case hn=>rfl)) | ((with_reducible apply o_box1);(case hx=>rfl);(case h1=>rfl);(case hn=>rfl)));exact kW trivial):G:=h fun _=>k
theorem Zd {f:FuncId}{args:List Operand}{ts:Array TypeId}{vs:List Value}{Pre HL HK:List Atom}{V:Value}[TFn P f](hs:Spec P f vs.toArray Pre (fun r H'=>r=V∧H'=HL))(k:Tri w0 K n ((d,V)::L) HK)(hargs:evs L args vs:=by exact Wev)(p:Pulls H Pre H':=by exact Wps)(hn:Nat.blt d n=true:=by rfl)(hH:HL++H'=HK:=by exact Wal):Tri w0 (OpG P ⟨some d, .call { callee:= .value (.func f),args:=args.toArray,argTypes:=ts },ty,pos,aft,g⟩ K Q) n L H:=
 o_callS hs hargs p hn (fun v Hq hq=>by obtain⟨rfl,rfl⟩:=hq;rw [hH];exact k)
theorem Wres {rs:List ResultVar}{vs:List Value}(h:ResL P L H rs vs:=by first | exact ResL.cons (Res1.tmp rfl) ResL.nil | exact ResL.cons (Res1.tmp rfl) (ResL.cons (Res1.tmp rfl) ResL.nil) | exact ResL.nil | exact ResL.cons (Res1.tmp rfl) (ResL.cons (Res1.tmp rfl) (ResL.cons (Res1.tmp rfl) ResL.nil)) | (repeat (first | exact ResL.nil | (apply ResL.cons;(case a=>(first | exact Res1.tmp rfl | (apply Res1.cell;rfl;exact Wp;rfl) | (apply Res1.agg;rfl;exact Wp;rfl;rfl))))))):ResL P L H rs vs:=h
theorem Zat (A B:Atom)(k:Tri w0 G n L (B::H'))(p:Pull H A H':=by exact Wp)(e:A=B:=by rfl):Tri w0 G n L H:=Tri.eqA p e k
theorem Zqo {ops:Array Oper}{rest:List Oper}{v:Value}(hg:(match o.guard with | none=>true | some (j,b)=>(match yl L ops j with | some b'=>b'==b | none=>false))=true:=by rfl)(hd:o.dst=some d:=by rfl)(hn:Nat.blt d n=true:=by rfl)(h: ∀K:Act→World→Prop,Tri w0 K n ((d,v)::L) H→Tri w0 (OpG P o K (fun _ _ _=>False)) n L H)(k:TriQ P w0 ops Q rest n ((d,v)::L) H):TriQ P w0 ops Q (o::rest) n L H:=by
 cases hgu:o.guard with
 | none=>exact TriQ.op hgu hd hn h k
 | some jb=>
  obtain⟨j,b⟩:=jb
  cases hy:yl L ops j with
  | none=>rw [hgu] at hg;simp [hy] at hg
  | some b'=>
   rw [hgu] at hg
   simp [hy] at hg
   exact TriQ.opYes hgu hy hg hd hn h k
theorem Zfn {m:Nat}{fn:Func}{rs:List ResultVar}{vs:List Value}{Rr:Value→List Atom→Prop}{F R:List Atom}{e:Exit}(Hn:List Atom)(hr:fn.results=rs.toArray:=by rfl)(he:e= .ret∨e= .normal:=by first | exact .inl rfl | exact .inr rfl)(h:ResL P L H rs vs:=by exact Wres)(p:Pulls H (Hn++F) R:=by exact Wps)(hq:Rr (tupled vs) Hn):Tri w0 (bodyPost P fn (Ret (fun v w'=> ∃H',Rr v H'∧St w0 w' (H'++F))) e) ⟨m, []⟩ L H:=by
 rcases he with rfl | rfl
 ·exact Tri.fin hr h (fin_R (Rr:=Rr (tupled vs)) p hq)
 ·exact Tri.finN hr h (fin_R (Rr:=Rr (tupled vs)) p hq)
theorem Zfr {m:Nat}{fn:Func}{rs:List ResultVar}{vs:List Value}{V:Value}{F R:List Atom}{e:Exit}(hr:fn.results=rs.toArray:=by rfl)(he:e= .ret∨e= .normal:=by first | exact .inl rfl | exact .inr rfl)(h:ResL P L H rs vs:=by exact Wres)(p:Pulls H ([] ++F) R:=by exact Wps)(hq:tupled vs=V):Tri w0 (bodyPost P fn (Ret (fun v w'=> ∃H',(v=V∧H'= [])∧St w0 w' (H'++F))) e) ⟨m, []⟩ L H:=Zfn [] hr he h p ⟨hq,rfl⟩
theorem Zra {p:Tmp}{T T':TypeId}{b sz:Nat}{ys:List Value}[TAgg P T sz](hl:ys.length=sz)(h1:look L p=some (.pointer (some ⟨b,0,none⟩)):=by rfl)(q:Pull H (blk b T' ys) H':=by exact Wp):Res1 P L H (.cell p T) (.agg ys.toArray):=Res1.agg h1 q (by rw [List.drop_zero];exact List.take_of_length_le (Nat.le_of_eq hl)) hl
end
end Go.Gv
namespace Go.Proofs.YtcglabmlhljkmaaGreat
open Go Go.Gv
set_option maxRecDepth 100000
instance:TPlain Tryz.prog 2:=⟨by kernel_rfl⟩
instance:TInt Tryz.prog 2 .i64:=⟨Tryz.underlying2⟩
instance:TPlain Tryz.prog 3:=⟨by kernel_rfl⟩
instance:TSize Tryz.prog 3 1:=⟨by kernel_rfl⟩
instance:TZero Tryz.prog 3 ([.int .i64 0]):=⟨by kernel_rfl⟩
instance:TElem Tryz.prog 3 1 8 ([.int .i64 0]):=⟨by kernel_rfl,by kernel_rfl⟩
instance:TInt Tryz.prog 3 .i64:=⟨Tryz.underlying3⟩
instance:TPlain Tryz.prog 4:=⟨by kernel_rfl⟩
instance:TSize Tryz.prog 4 1:=⟨by kernel_rfl⟩
instance:TZero Tryz.prog 4 ([.bool false]):=⟨by kernel_rfl⟩
instance:TPlain Tryz.prog 5:=⟨by kernel_rfl⟩
instance:TSize Tryz.prog 5 1:=⟨by kernel_rfl⟩
instance:TElem Tryz.prog 5 1 1 ([.int .u8 0]):=⟨by kernel_rfl,by kernel_rfl⟩
instance:TInt Tryz.prog 5 .u8:=⟨Tryz.underlying5⟩
instance:TPlain Tryz.prog 9:=⟨by kernel_rfl⟩
instance:TStr Tryz.prog 9:=⟨Tryz.underlying9⟩
instance:TPlain Tryz.prog 22:=⟨by kernel_rfl⟩
instance:TInt Tryz.prog 22 .u64:=⟨Tryz.underlying22⟩
instance:TPlain Tryz.prog 23:=⟨by kernel_rfl⟩
instance:TPtr Tryz.prog 23:=⟨by kernel_rfl⟩
instance:TPlain Tryz.prog 24:=⟨by kernel_rfl⟩
instance:TPtr Tryz.prog 24:=⟨by kernel_rfl⟩
instance:TPlain Tryz.prog 29:=⟨by kernel_rfl⟩
instance:TSize Tryz.prog 29 1:=⟨by kernel_rfl⟩
instance:TZero Tryz.prog 29 ([.slice none 0 0]):=⟨by kernel_rfl⟩
instance:TElem Tryz.prog 29 1 24 ([.slice none 0 0]):=⟨by kernel_rfl,by kernel_rfl⟩
instance:TSlice Tryz.prog 29 40:=⟨Tryz.underlying29⟩
instance:TPlain Tryz.prog 32:=⟨by kernel_rfl⟩
instance:TSize Tryz.prog 32 1:=⟨by kernel_rfl⟩
instance:TInt Tryz.prog 32 .u32:=⟨Tryz.underlying32⟩
instance:TAgg Tryz.prog 38 2:=⟨by kernel_rfl,by kernel_rfl⟩
instance:TSize Tryz.prog 38 2:=⟨by kernel_rfl⟩
instance:TZero Tryz.prog 38 ([.int .i64 0, .int .i64 0]):=⟨by kernel_rfl⟩
instance:TElem Tryz.prog 38 2 16 ([.int .i64 0, .int .i64 0]):=⟨by kernel_rfl,by kernel_rfl⟩
instance:TPlaces Tryz.prog 38 [(0,1),(1,1)] :=⟨by kernel_rfl⟩
instance:TField Tryz.prog 38 0 0:=⟨_,_,Tryz.underlying38,rfl,rfl,by kernel_rfl⟩
instance:TField Tryz.prog 38 1 1:=⟨_,_,Tryz.underlying38,rfl,rfl,by kernel_rfl⟩
instance:TEq Tryz.prog 38 ([.int .i64 0, .int .i64 0]):=⟨by kernel_rfl,by kernel_rfl,by kernel_rfl⟩
instance:TAgg Tryz.prog 40 8:=⟨by kernel_rfl,by kernel_rfl⟩
instance:TSize Tryz.prog 40 8:=⟨by kernel_rfl⟩
instance:TZero Tryz.prog 40 ([.int .i64 0, .int .i64 0, .int .i64 0, .int .i64 0, .int .i64 0, .int .i64 0, .int .i64 0, .int .u32 0]):=⟨by kernel_rfl⟩
instance:TElem Tryz.prog 40 8 64 ([.int .i64 0, .int .i64 0, .int .i64 0, .int .i64 0, .int .i64 0, .int .i64 0, .int .i64 0, .int .u32 0]):=⟨by kernel_rfl,by kernel_rfl⟩
instance:TPlaces Tryz.prog 40 [(0,2),(2,1),(3,1),(4,1),(5,1),(6,1),(7,1)] :=⟨by kernel_rfl⟩
instance:TField Tryz.prog 40 0 0:=⟨_,_,Tryz.underlying40,rfl,rfl,by kernel_rfl⟩
instance:TField Tryz.prog 40 1 2:=⟨_,_,Tryz.underlying40,rfl,rfl,by kernel_rfl⟩
instance:TField Tryz.prog 40 2 3:=⟨_,_,Tryz.underlying40,rfl,rfl,by kernel_rfl⟩
instance:TField Tryz.prog 40 3 4:=⟨_,_,Tryz.underlying40,rfl,rfl,by kernel_rfl⟩
instance:TField Tryz.prog 40 4 5:=⟨_,_,Tryz.underlying40,rfl,rfl,by kernel_rfl⟩
instance:TField Tryz.prog 40 5 6:=⟨_,_,Tryz.underlying40,rfl,rfl,by kernel_rfl⟩
instance:TField Tryz.prog 40 6 7:=⟨_,_,Tryz.underlying40,rfl,rfl,by kernel_rfl⟩
instance:TAgg Tryz.prog 43 2:=⟨by kernel_rfl,by kernel_rfl⟩
instance:TZero Tryz.prog 43 ([.int .i64 0, .int .i64 0]):=⟨by kernel_rfl⟩
instance:TPlaces Tryz.prog 43 [(0,1),(1,1)] :=⟨by kernel_rfl⟩
instance:TField Tryz.prog 43 0 0:=⟨_,_,Tryz.underlying43,rfl,rfl,by kernel_rfl⟩
instance:TField Tryz.prog 43 1 1:=⟨_,_,Tryz.underlying43,rfl,rfl,by kernel_rfl⟩
instance:TPlain Tryz.prog 44:=⟨by kernel_rfl⟩
instance:TSize Tryz.prog 44 1:=⟨by kernel_rfl⟩
instance:TZero Tryz.prog 44 ([.int .i64 0]):=⟨by kernel_rfl⟩
instance:TPlain Tryz.prog 57:=⟨by kernel_rfl⟩
instance:TSize Tryz.prog 57 1:=⟨by kernel_rfl⟩
instance:TZero Tryz.prog 57 ([.slice none 0 0]):=⟨by kernel_rfl⟩
instance:TElem Tryz.prog 57 1 24 ([.slice none 0 0]):=⟨by kernel_rfl,by kernel_rfl⟩
instance:TSlice Tryz.prog 57 3:=⟨Tryz.underlying57⟩
instance:TAgg Tryz.prog 58 512:=⟨by kernel_rfl,by kernel_rfl⟩
instance:TZero Tryz.prog 58 (List.replicate 512 (.bool false)):=⟨by kernel_rfl⟩
instance:TEq Tryz.prog 58 (List.replicate 512 (.bool false)):=⟨by kernel_rfl,by kernel_rfl,by kernel_rfl⟩
instance:TArr Tryz.prog 58 512 4 1:=⟨Tryz.underlying58,by kernel_rfl⟩
instance:TAgg Tryz.prog 60 513:=⟨by kernel_rfl,by kernel_rfl⟩
instance:TZero Tryz.prog 60 ([.int .i64 0] ++(List.replicate 512 (.bool false))):=⟨by kernel_rfl⟩
instance:TPlaces Tryz.prog 60 [(0,1),(1,512)] :=⟨by kernel_rfl⟩
instance:TField Tryz.prog 60 0 0:=⟨_,_,Tryz.underlying60,rfl,rfl,by kernel_rfl⟩
instance:TField Tryz.prog 60 1 1:=⟨_,_,Tryz.underlying60,rfl,rfl,by kernel_rfl⟩
instance:TAgg Tryz.prog 70 256:=⟨by kernel_rfl,by kernel_rfl⟩
instance:TZero Tryz.prog 70 (List.replicate 256 (.int .u32 0)):=⟨by kernel_rfl⟩
instance:TArr Tryz.prog 70 256 32 1:=⟨Tryz.underlying70,by kernel_rfl⟩
instance:TPlain Tryz.prog 75:=⟨by kernel_rfl⟩
instance:TPtr Tryz.prog 75:=⟨by kernel_rfl⟩
instance:TPtr Tryz.prog 78:=⟨by kernel_rfl⟩
instance:TAgg Tryz.prog 83 5:=⟨by kernel_rfl,by kernel_rfl⟩
instance:TZero Tryz.prog 83 ([.int .u64 0, .int .i64 0, .int .i64 0, .int .i64 0, .int .i64 0]):=⟨by kernel_rfl⟩
instance:TPlaces Tryz.prog 83 [(0,1),(1,2),(3,1),(4,1)] :=⟨by kernel_rfl⟩
instance:TField Tryz.prog 83 0 0:=⟨_,_,Tryz.underlying83,rfl,rfl,by kernel_rfl⟩
instance:TField Tryz.prog 83 1 1:=⟨_,_,Tryz.underlying83,rfl,rfl,by kernel_rfl⟩
instance:TField Tryz.prog 83 2 3:=⟨_,_,Tryz.underlying83,rfl,rfl,by kernel_rfl⟩
instance:TField Tryz.prog 83 3 4:=⟨_,_,Tryz.underlying83,rfl,rfl,by kernel_rfl⟩
instance:TPlain Tryz.prog 86:=⟨by kernel_rfl⟩
instance:TSize Tryz.prog 86 1:=⟨by kernel_rfl⟩
instance:TSlice Tryz.prog 86 5:=⟨Tryz.underlying86⟩
instance:TPlain Tryz.prog 94:=⟨by kernel_rfl⟩
instance:TSize Tryz.prog 94 1:=⟨by kernel_rfl⟩
instance:TZero Tryz.prog 94 ([.slice none 0 0]):=⟨by kernel_rfl⟩
instance:TSlice Tryz.prog 94 102:=⟨Tryz.underlying94⟩
instance:TSlice Tryz.prog 100 105:=⟨Tryz.underlying100⟩
instance:TAgg Tryz.prog 102 4:=⟨by kernel_rfl,by kernel_rfl⟩
instance:TSize Tryz.prog 102 4:=⟨by kernel_rfl⟩
instance:TZero Tryz.prog 102 ([.int .i64 0, .int .i64 0, .int .i64 0, .string ⟨#[]⟩]):=⟨by kernel_rfl⟩
instance:TElem Tryz.prog 102 4 40 ([.int .i64 0, .int .i64 0, .int .i64 0, .string ⟨#[]⟩]):=⟨by kernel_rfl,by kernel_rfl⟩
instance:TPlaces Tryz.prog 102 [(0,1),(1,1),(2,1),(3,1)] :=⟨by kernel_rfl⟩
instance:TField Tryz.prog 102 0 0:=⟨_,_,Tryz.underlying102,rfl,rfl,by kernel_rfl⟩
instance:TField Tryz.prog 102 1 1:=⟨_,_,Tryz.underlying102,rfl,rfl,by kernel_rfl⟩
instance:TField Tryz.prog 102 2 2:=⟨_,_,Tryz.underlying102,rfl,rfl,by kernel_rfl⟩
instance:TField Tryz.prog 102 3 3:=⟨_,_,Tryz.underlying102,rfl,rfl,by kernel_rfl⟩
instance:TPlain Tryz.prog 103:=⟨by kernel_rfl⟩
instance:TSlice Tryz.prog 103 4:=⟨Tryz.underlying103⟩
instance:TAgg Tryz.prog 105 7:=⟨by kernel_rfl,by kernel_rfl⟩
instance:TSize Tryz.prog 105 7:=⟨by kernel_rfl⟩
instance:TField Tryz.prog 105 1 1:=⟨_,_,Tryz.underlying105,rfl,rfl,by kernel_rfl⟩
instance:TField Tryz.prog 105 2 2:=⟨_,_,Tryz.underlying105,rfl,rfl,by kernel_rfl⟩
instance:TField Tryz.prog 105 3 3:=⟨_,_,Tryz.underlying105,rfl,rfl,by kernel_rfl⟩
instance:TField Tryz.prog 105 5 5:=⟨_,_,Tryz.underlying105,rfl,rfl,by kernel_rfl⟩
instance:TField Tryz.prog 105 6 6:=⟨_,_,Tryz.underlying105,rfl,rfl,by kernel_rfl⟩
instance:TSlice Tryz.prog 109 189:=⟨Tryz.underlying109⟩
instance:TPlain Tryz.prog 123:=⟨by kernel_rfl⟩
instance:TSize Tryz.prog 123 1:=⟨by kernel_rfl⟩
instance:TElem Tryz.prog 123 1 24 ([.slice none 0 0]):=⟨by kernel_rfl,by kernel_rfl⟩
instance:TSlice Tryz.prog 123 38:=⟨Tryz.underlying123⟩
instance:TAgg Tryz.prog 125 4:=⟨by kernel_rfl,by kernel_rfl⟩
instance:TSize Tryz.prog 125 4:=⟨by kernel_rfl⟩
instance:TZero Tryz.prog 125 ([.bool false, .slice none 0 0, .slice none 0 0, .slice none 0 0]):=⟨by kernel_rfl⟩
instance:TElem Tryz.prog 125 4 80 ([.bool false, .slice none 0 0, .slice none 0 0, .slice none 0 0]):=⟨by kernel_rfl,by kernel_rfl⟩
instance:TPlaces Tryz.prog 125 [(0,1),(1,1),(2,1),(3,1)] :=⟨by kernel_rfl⟩
instance:TField Tryz.prog 125 0 0:=⟨_,_,Tryz.underlying125,rfl,rfl,by kernel_rfl⟩
instance:TField Tryz.prog 125 1 1:=⟨_,_,Tryz.underlying125,rfl,rfl,by kernel_rfl⟩
instance:TField Tryz.prog 125 2 2:=⟨_,_,Tryz.underlying125,rfl,rfl,by kernel_rfl⟩
instance:TField Tryz.prog 125 3 3:=⟨_,_,Tryz.underlying125,rfl,rfl,by kernel_rfl⟩
instance:TSlice Tryz.prog 128 125:=⟨Tryz.underlying128⟩
instance:TZero Tryz.prog 146 (List.replicate 256 (.int .u32 0)++([.pointer none, .int .u64 0, .int .i64 0] ++(List.replicate 512 (.bool false)++([.int .i64 0] ++(List.replicate 512 (.bool false)))))):=⟨by kernel_rfl⟩
instance:TPlaces Tryz.prog 146 [(0,256),(256,1),(257,1),(258,513),(771,513)] :=⟨by kernel_rfl⟩
instance:TField Tryz.prog 146 0 0:=⟨_,_,Tryz.underlying146,rfl,rfl,by kernel_rfl⟩
instance:TField Tryz.prog 146 1 256:=⟨_,_,Tryz.underlying146,rfl,rfl,by kernel_rfl⟩
instance:TField Tryz.prog 146 2 257:=⟨_,_,Tryz.underlying146,rfl,rfl,by kernel_rfl⟩
instance:TField Tryz.prog 146 3 258:=⟨_,_,Tryz.underlying146,rfl,rfl,by kernel_rfl⟩
instance:TField Tryz.prog 146 4 771:=⟨_,_,Tryz.underlying146,rfl,rfl,by kernel_rfl⟩
instance:TPlain Tryz.prog 151:=⟨by kernel_rfl⟩
instance:TSize Tryz.prog 151 1:=⟨by kernel_rfl⟩
instance:TSlice Tryz.prog 151 186:=⟨Tryz.underlying151⟩
instance:TZero Tryz.prog 153 ([.slice none 0 0, .slice none 0 0, .bool false, .int .i64 0]):=⟨by kernel_rfl⟩
instance:TPlaces Tryz.prog 153 [(0,1),(1,1),(2,1),(3,1)] :=⟨by kernel_rfl⟩
instance:TField Tryz.prog 153 0 0:=⟨_,_,Tryz.underlying153,rfl,rfl,by kernel_rfl⟩
instance:TField Tryz.prog 153 1 1:=⟨_,_,Tryz.underlying153,rfl,rfl,by kernel_rfl⟩
instance:TField Tryz.prog 153 2 2:=⟨_,_,Tryz.underlying153,rfl,rfl,by kernel_rfl⟩
instance:TField Tryz.prog 153 3 3:=⟨_,_,Tryz.underlying153,rfl,rfl,by kernel_rfl⟩
instance:TAgg Tryz.prog 161 778:=⟨by kernel_rfl,by kernel_rfl⟩
instance:TZero Tryz.prog 161 (List.replicate 256 (.int .u32 0)++([.pointer none, .int .u64 0, .int .i64 0, .int .i64 0, .int .i64 0, .int .i64 0, .int .i64 0] ++(List.replicate 512 (.bool false)++([.pointer none, .bool false, .bool false])))):=⟨by kernel_rfl⟩
instance:TPlaces Tryz.prog 161 [(0,256),(256,1),(257,5),(262,513),(775,1),(776,1),(777,1)] :=⟨by kernel_rfl⟩
instance:TField Tryz.prog 161 0 0:=⟨_,_,Tryz.underlying161,rfl,rfl,by kernel_rfl⟩
instance:TField Tryz.prog 161 1 256:=⟨_,_,Tryz.underlying161,rfl,rfl,by kernel_rfl⟩
instance:TField Tryz.prog 161 2 257:=⟨_,_,Tryz.underlying161,rfl,rfl,by kernel_rfl⟩
instance:TField Tryz.prog 161 3 262:=⟨_,_,Tryz.underlying161,rfl,rfl,by kernel_rfl⟩
instance:TField Tryz.prog 161 4 775:=⟨_,_,Tryz.underlying161,rfl,rfl,by kernel_rfl⟩
instance:TField Tryz.prog 161 5 776:=⟨_,_,Tryz.underlying161,rfl,rfl,by kernel_rfl⟩
instance:TField Tryz.prog 161 6 777:=⟨_,_,Tryz.underlying161,rfl,rfl,by kernel_rfl⟩
instance:TZero Tryz.prog 163 ([.pointer none, .pointer none, .int .i64 0, .int .i64 0, .bool false]):=⟨by kernel_rfl⟩
instance:TPlaces Tryz.prog 163 [(0,1),(1,1),(2,2),(4,1)] :=⟨by kernel_rfl⟩
instance:TField Tryz.prog 163 0 0:=⟨_,_,Tryz.underlying163,rfl,rfl,by kernel_rfl⟩
instance:TField Tryz.prog 163 1 1:=⟨_,_,Tryz.underlying163,rfl,rfl,by kernel_rfl⟩
instance:TField Tryz.prog 163 2 2:=⟨_,_,Tryz.underlying163,rfl,rfl,by kernel_rfl⟩
instance:TField Tryz.prog 163 3 4:=⟨_,_,Tryz.underlying163,rfl,rfl,by kernel_rfl⟩
instance:TAgg Tryz.prog 172 4:=⟨by kernel_rfl,by kernel_rfl⟩
instance:TZero Tryz.prog 172 ([.int .u8 0, .int .i64 0, .int .u64 0, .slice none 0 0]):=⟨by kernel_rfl⟩
instance:TPlaces Tryz.prog 172 [(0,1),(1,1),(2,1),(3,1)] :=⟨by kernel_rfl⟩
instance:TField Tryz.prog 172 0 0:=⟨_,_,Tryz.underlying172,rfl,rfl,by kernel_rfl⟩
instance:TField Tryz.prog 172 1 1:=⟨_,_,Tryz.underlying172,rfl,rfl,by kernel_rfl⟩
instance:TField Tryz.prog 172 2 2:=⟨_,_,Tryz.underlying172,rfl,rfl,by kernel_rfl⟩
instance:TField Tryz.prog 172 3 3:=⟨_,_,Tryz.underlying172,rfl,rfl,by kernel_rfl⟩
instance:TAgg Tryz.prog 186 2:=⟨by kernel_rfl,by kernel_rfl⟩
instance:TSize Tryz.prog 186 2:=⟨by kernel_rfl⟩
instance:TZero Tryz.prog 186 ([.int .i64 0, .slice none 0 0]):=⟨by kernel_rfl⟩
instance:TElem Tryz.prog 186 2 32 ([.int .i64 0, .slice none 0 0]):=⟨by kernel_rfl,by kernel_rfl⟩
instance:TPlaces Tryz.prog 186 [(0,1),(1,1)] :=⟨by kernel_rfl⟩
instance:TField Tryz.prog 186 0 0:=⟨_,_,Tryz.underlying186,rfl,rfl,by kernel_rfl⟩
instance:TField Tryz.prog 186 1 1:=⟨_,_,Tryz.underlying186,rfl,rfl,by kernel_rfl⟩
instance:TAgg Tryz.prog 189 2:=⟨by kernel_rfl,by kernel_rfl⟩
instance:TSize Tryz.prog 189 2:=⟨by kernel_rfl⟩
instance:TZero Tryz.prog 189 ([.bool false, .int .u8 0]):=⟨by kernel_rfl⟩
instance:TElem Tryz.prog 189 2 2 ([.bool false, .int .u8 0]):=⟨by kernel_rfl,by kernel_rfl⟩
instance:TPlaces Tryz.prog 189 [(0,1),(1,1)] :=⟨by kernel_rfl⟩
instance:TField Tryz.prog 189 0 0:=⟨_,_,Tryz.underlying189,rfl,rfl,by kernel_rfl⟩
instance:TField Tryz.prog 189 1 1:=⟨_,_,Tryz.underlying189,rfl,rfl,by kernel_rfl⟩
instance:TPlain Tryz.prog 229:=⟨by kernel_rfl⟩
instance:TZero Tryz.prog 237 ([.slice none 0 0]):=⟨by kernel_rfl⟩
instance:TPlaces Tryz.prog 237 [(0,1)] :=⟨by kernel_rfl⟩
instance:TField Tryz.prog 237 0 0:=⟨_,_,Tryz.underlying237,rfl,rfl,by kernel_rfl⟩
instance:TPlain Tryz.prog 263:=⟨by kernel_rfl⟩
instance:TZero Tryz.prog 265 ([.pointer none, .int .i64 0]):=⟨by kernel_rfl⟩
instance:TPlaces Tryz.prog 265 [(0,1),(1,1)] :=⟨by kernel_rfl⟩
instance:TField Tryz.prog 265 0 0:=⟨_,_,Tryz.underlying265,rfl,rfl,by kernel_rfl⟩
instance:TField Tryz.prog 265 1 1:=⟨_,_,Tryz.underlying265,rfl,rfl,by kernel_rfl⟩
instance:TSlice Tryz.prog 287 29:=⟨Tryz.underlying287⟩
instance:TSlice Tryz.prog 289 123:=⟨Tryz.underlying289⟩
instance:TSlice Tryz.prog 291 57:=⟨Tryz.underlying291⟩
instance:TFn Tryz.prog 15:=⟨_,Tryz.func15,rfl,by kernel_rfl⟩
instance:TFn Tryz.prog 18:=⟨_,Tryz.func18,rfl,by kernel_rfl⟩
instance:TFn Tryz.prog 19:=⟨_,Tryz.func19,rfl,by kernel_rfl⟩
instance:TFn Tryz.prog 21:=⟨_,Tryz.func21,rfl,by kernel_rfl⟩
instance:TFn Tryz.prog 22:=⟨_,Tryz.func22,rfl,by kernel_rfl⟩
instance:TFn Tryz.prog 23:=⟨_,Tryz.func23,rfl,by kernel_rfl⟩
instance:TFn Tryz.prog 24:=⟨_,Tryz.func24,rfl,by kernel_rfl⟩
instance:TFn Tryz.prog 25:=⟨_,Tryz.func25,rfl,by kernel_rfl⟩
instance:TFn Tryz.prog 26:=⟨_,Tryz.func26,rfl,by kernel_rfl⟩
instance:TFn Tryz.prog 27:=⟨_,Tryz.func27,rfl,by kernel_rfl⟩
instance:TFn Tryz.prog 28:=⟨_,Tryz.func28,rfl,by kernel_rfl⟩
instance:TFn Tryz.prog 29:=⟨_,Tryz.func29,rfl,by kernel_rfl⟩
instance:TFn Tryz.prog 30:=⟨_,Tryz.func30,rfl,by kernel_rfl⟩
instance:TFn Tryz.prog 31:=⟨_,Tryz.func31,rfl,by kernel_rfl⟩
instance:TFn Tryz.prog 32:=⟨_,Tryz.func32,rfl,by kernel_rfl⟩
instance:TFn Tryz.prog 33:=⟨_,Tryz.func33,rfl,by kernel_rfl⟩
instance:TFn Tryz.prog 34:=⟨_,Tryz.func34,rfl,by kernel_rfl⟩
instance:TFn Tryz.prog 37:=⟨_,Tryz.func37,rfl,by kernel_rfl⟩
instance:TFn Tryz.prog 38:=⟨_,Tryz.func38,rfl,by kernel_rfl⟩
instance:TFn Tryz.prog 39:=⟨_,Tryz.func39,rfl,by kernel_rfl⟩
instance:TFn Tryz.prog 40:=⟨_,Tryz.func40,rfl,by kernel_rfl⟩
instance:TFn Tryz.prog 41:=⟨_,Tryz.func41,rfl,by kernel_rfl⟩
instance:TFn Tryz.prog 42:=⟨_,Tryz.func42,rfl,by kernel_rfl⟩
instance:TFn Tryz.prog 43:=⟨_,Tryz.func43,rfl,by kernel_rfl⟩
instance:TFn Tryz.prog 44:=⟨_,Tryz.func44,rfl,by kernel_rfl⟩
instance:TFn Tryz.prog 45:=⟨_,Tryz.func45,rfl,by kernel_rfl⟩
instance:TFn Tryz.prog 46:=⟨_,Tryz.func46,rfl,by kernel_rfl⟩
instance:TFn Tryz.prog 47:=⟨_,Tryz.func47,rfl,by kernel_rfl⟩
instance:TFn Tryz.prog 54:=⟨_,Tryz.func54,rfl,by kernel_rfl⟩
instance:TFn Tryz.prog 55:=⟨_,Tryz.func55,rfl,by kernel_rfl⟩
instance:TFn Tryz.prog 56:=⟨_,Tryz.func56,rfl,by kernel_rfl⟩
instance:TFn Tryz.prog 57:=⟨_,Tryz.func57,rfl,by kernel_rfl⟩
instance:TFn Tryz.prog 59:=⟨_,Tryz.func59,rfl,by kernel_rfl⟩
instance:TFn Tryz.prog 61:=⟨_,Tryz.func61,rfl,by kernel_rfl⟩
instance:TFn Tryz.prog 62:=⟨_,Tryz.func62,rfl,by kernel_rfl⟩
instance:TFn Tryz.prog 63:=⟨_,Tryz.func63,rfl,by kernel_rfl⟩
instance:TFn Tryz.prog 65:=⟨_,Tryz.func65,rfl,by kernel_rfl⟩
instance:TFn Tryz.prog 66:=⟨_,Tryz.func66,rfl,by kernel_rfl⟩
instance:TFn Tryz.prog 67:=⟨_,Tryz.func67,rfl,by kernel_rfl⟩
instance:TFn Tryz.prog 68:=⟨_,Tryz.func68,rfl,by kernel_rfl⟩
instance:TFn Tryz.prog 69:=⟨_,Tryz.func69,rfl,by kernel_rfl⟩
instance:TFn Tryz.prog 70:=⟨_,Tryz.func70,rfl,by kernel_rfl⟩
instance:TFn Tryz.prog 71:=⟨_,Tryz.func71,rfl,by kernel_rfl⟩
instance:TFn Tryz.prog 72:=⟨_,Tryz.func72,rfl,by kernel_rfl⟩
instance:TFn Tryz.prog 73:=⟨_,Tryz.func73,rfl,by kernel_rfl⟩
instance:TFn Tryz.prog 74:=⟨_,Tryz.func74,rfl,by kernel_rfl⟩
instance:TFn Tryz.prog 75:=⟨_,Tryz.func75,rfl,by kernel_rfl⟩
instance:TFn Tryz.prog 76:=⟨_,Tryz.func76,rfl,by kernel_rfl⟩
instance:TFn Tryz.prog 77:=⟨_,Tryz.func77,rfl,by kernel_rfl⟩
instance:TFn Tryz.prog 78:=⟨_,Tryz.func78,rfl,by kernel_rfl⟩
instance:TFn Tryz.prog 79:=⟨_,Tryz.func79,rfl,by kernel_rfl⟩
instance:TFn Tryz.prog 80:=⟨_,Tryz.func80,rfl,by kernel_rfl⟩
instance:TFn Tryz.prog 81:=⟨_,Tryz.func81,rfl,by kernel_rfl⟩
instance:TFn Tryz.prog 82:=⟨_,Tryz.func82,rfl,by kernel_rfl⟩
instance:TFn Tryz.prog 83:=⟨_,Tryz.func83,rfl,by kernel_rfl⟩
instance:TFn Tryz.prog 86:=⟨_,Tryz.func86,rfl,by kernel_rfl⟩
instance:TFn Tryz.prog 87:=⟨_,Tryz.func87,rfl,by kernel_rfl⟩
instance:TFn Tryz.prog 88:=⟨_,Tryz.func88,rfl,by kernel_rfl⟩
instance:TFn Tryz.prog 89:=⟨_,Tryz.func89,rfl,by kernel_rfl⟩
instance:TFn Tryz.prog 90:=⟨_,Tryz.func90,rfl,by kernel_rfl⟩
instance:TFn Tryz.prog 91:=⟨_,Tryz.func91,rfl,by kernel_rfl⟩
instance:TFn Tryz.prog 92:=⟨_,Tryz.func92,rfl,by kernel_rfl⟩
instance:TFn Tryz.prog 93:=⟨_,Tryz.func93,rfl,by kernel_rfl⟩
instance:TFn Tryz.prog 94:=⟨_,Tryz.func94,rfl,by kernel_rfl⟩
instance:TFn Tryz.prog 95:=⟨_,Tryz.func95,rfl,by kernel_rfl⟩
instance:TFn Tryz.prog 96:=⟨_,Tryz.func96,rfl,by kernel_rfl⟩
instance:TFn Tryz.prog 97:=⟨_,Tryz.func97,rfl,by kernel_rfl⟩
instance:TFn Tryz.prog 98:=⟨_,Tryz.func98,rfl,by kernel_rfl⟩
instance:TFn Tryz.prog 99:=⟨_,Tryz.func99,rfl,by kernel_rfl⟩
instance:TFn Tryz.prog 101:=⟨_,Tryz.func101,rfl,by kernel_rfl⟩
instance:TFn Tryz.prog 102:=⟨_,Tryz.func102,rfl,by kernel_rfl⟩
instance:TFn Tryz.prog 103:=⟨_,Tryz.func103,rfl,by kernel_rfl⟩
instance:TFn Tryz.prog 104:=⟨_,Tryz.func104,rfl,by kernel_rfl⟩
instance:TFn Tryz.prog 105:=⟨_,Tryz.func105,rfl,by kernel_rfl⟩
instance:TFn Tryz.prog 106:=⟨_,Tryz.func106,rfl,by kernel_rfl⟩
instance:TFn Tryz.prog 107:=⟨_,Tryz.func107,rfl,by kernel_rfl⟩
instance:TFn Tryz.prog 108:=⟨_,Tryz.func108,rfl,by kernel_rfl⟩
instance:TFn Tryz.prog 109:=⟨_,Tryz.func109,rfl,by kernel_rfl⟩
instance:TFn Tryz.prog 110:=⟨_,Tryz.func110,rfl,by kernel_rfl⟩
instance:TFn Tryz.prog 111:=⟨_,Tryz.func111,rfl,by kernel_rfl⟩
instance:TFn Tryz.prog 112:=⟨_,Tryz.func112,rfl,by kernel_rfl⟩
instance:TFn Tryz.prog 113:=⟨_,Tryz.func113,rfl,by kernel_rfl⟩
instance:TFn Tryz.prog 114:=⟨_,Tryz.func114,rfl,by kernel_rfl⟩
instance:TFn Tryz.prog 115:=⟨_,Tryz.func115,rfl,by kernel_rfl⟩
instance:TFn Tryz.prog 116:=⟨_,Tryz.func116,rfl,by kernel_rfl⟩
instance:TFn Tryz.prog 117:=⟨_,Tryz.func117,rfl,by kernel_rfl⟩
instance:TFn Tryz.prog 118:=⟨_,Tryz.func118,rfl,by kernel_rfl⟩
instance:TFn Tryz.prog 121:=⟨_,Tryz.func121,rfl,by kernel_rfl⟩
instance:TFn Tryz.prog 122:=⟨_,Tryz.func122,rfl,by kernel_rfl⟩
instance:TFn Tryz.prog 123:=⟨_,Tryz.func123,rfl,by kernel_rfl⟩
instance:TFn Tryz.prog 124:=⟨_,Tryz.func124,rfl,by kernel_rfl⟩
instance:TFn Tryz.prog 125:=⟨_,Tryz.func125,rfl,by kernel_rfl⟩
instance:TFn Tryz.prog 126:=⟨_,Tryz.func126,rfl,by kernel_rfl⟩
instance:TFn Tryz.prog 127:=⟨_,Tryz.func127,rfl,by kernel_rfl⟩
instance:TFn Tryz.prog 128:=⟨_,Tryz.func128,rfl,by kernel_rfl⟩
instance:TFn Tryz.prog 129:=⟨_,Tryz.func129,rfl,by kernel_rfl⟩
instance:TFn Tryz.prog 132:=⟨_,Tryz.func132,rfl,by kernel_rfl⟩
instance:TFn Tryz.prog 133:=⟨_,Tryz.func133,rfl,by kernel_rfl⟩
instance:TFn Tryz.prog 134:=⟨_,Tryz.func134,rfl,by kernel_rfl⟩
instance:TFn Tryz.prog 135:=⟨_,Tryz.func135,rfl,by kernel_rfl⟩
instance:TFn Tryz.prog 136:=⟨_,Tryz.func136,rfl,by kernel_rfl⟩
instance:TFn Tryz.prog 137:=⟨_,Tryz.func137,rfl,by kernel_rfl⟩
instance:TFn Tryz.prog 138:=⟨_,Tryz.func138,rfl,by kernel_rfl⟩
instance:TFn Tryz.prog 139:=⟨_,Tryz.func139,rfl,by kernel_rfl⟩
instance:TFn Tryz.prog 140:=⟨_,Tryz.func140,rfl,by kernel_rfl⟩
instance:TFn Tryz.prog 141:=⟨_,Tryz.func141,rfl,by kernel_rfl⟩
instance:TFn Tryz.prog 142:=⟨_,Tryz.func142,rfl,by kernel_rfl⟩
instance:TFn Tryz.prog 143:=⟨_,Tryz.func143,rfl,by kernel_rfl⟩
instance:TFn Tryz.prog 144:=⟨_,Tryz.func144,rfl,by kernel_rfl⟩
instance:TFn Tryz.prog 145:=⟨_,Tryz.func145,rfl,by kernel_rfl⟩
instance:TFn Tryz.prog 146:=⟨_,Tryz.func146,rfl,by kernel_rfl⟩
instance:TFn Tryz.prog 147:=⟨_,Tryz.func147,rfl,by kernel_rfl⟩
instance:TFn Tryz.prog 148:=⟨_,Tryz.func148,rfl,by kernel_rfl⟩
instance:TFn Tryz.prog 149:=⟨_,Tryz.func149,rfl,by kernel_rfl⟩
instance:TFn Tryz.prog 150:=⟨_,Tryz.func150,rfl,by kernel_rfl⟩
instance:TFn Tryz.prog 151:=⟨_,Tryz.func151,rfl,by kernel_rfl⟩
instance:TFn Tryz.prog 165:=⟨_,Tryz.func165,rfl,by kernel_rfl⟩
instance:TFn Tryz.prog 166:=⟨_,Tryz.func166,rfl,by kernel_rfl⟩
instance:TFn Tryz.prog 167:=⟨_,Tryz.func167,rfl,by kernel_rfl⟩
instance:TFn Tryz.prog 168:=⟨_,Tryz.func168,rfl,by kernel_rfl⟩
instance:TFn Tryz.prog 169:=⟨_,Tryz.func169,rfl,by kernel_rfl⟩
instance:TFn Tryz.prog 170:=⟨_,Tryz.func170,rfl,by kernel_rfl⟩
instance:TFn Tryz.prog 171:=⟨_,Tryz.func171,rfl,by kernel_rfl⟩
instance:TFn Tryz.prog 172:=⟨_,Tryz.func172,rfl,by kernel_rfl⟩
instance:TFn Tryz.prog 173:=⟨_,Tryz.func173,rfl,by kernel_rfl⟩
instance:TFn Tryz.prog 174:=⟨_,Tryz.func174,rfl,by kernel_rfl⟩
instance:TFn Tryz.prog 175:=⟨_,Tryz.func175,rfl,by kernel_rfl⟩
instance:TFn Tryz.prog 176:=⟨_,Tryz.func176,rfl,by kernel_rfl⟩
instance:TFn Tryz.prog 177:=⟨_,Tryz.func177,rfl,by kernel_rfl⟩
instance:TFn Tryz.prog 178:=⟨_,Tryz.func178,rfl,by kernel_rfl⟩
instance:TFn Tryz.prog 179:=⟨_,Tryz.func179,rfl,by kernel_rfl⟩
instance:TFn Tryz.prog 195:=⟨_,Tryz.func195,rfl,by kernel_rfl⟩
instance:TFn Tryz.prog 196:=⟨_,Tryz.func196,rfl,by kernel_rfl⟩
instance:TFn Tryz.prog 197:=⟨_,Tryz.func197,rfl,by kernel_rfl⟩
instance:TFn Tryz.prog 198:=⟨_,Tryz.func198,rfl,by kernel_rfl⟩
instance:TFn Tryz.prog 199:=⟨_,Tryz.func199,rfl,by kernel_rfl⟩
instance:TFn Tryz.prog 200:=⟨_,Tryz.func200,rfl,by kernel_rfl⟩
instance:TFn Tryz.prog 201:=⟨_,Tryz.func201,rfl,by kernel_rfl⟩
instance:TFn Tryz.prog 202:=⟨_,Tryz.func202,rfl,by kernel_rfl⟩
instance:TFn Tryz.prog 203:=⟨_,Tryz.func203,rfl,by kernel_rfl⟩
end Go.Proofs.YtcglabmlhljkmaaGreat
namespace Go.Proofs.YtcglabmlhljkmaaGreat
open Go Go.Gv
instance:TMixed Tryz.prog:=⟨by kernel_rfl⟩
end Go.Proofs.YtcglabmlhljkmaaGreat
namespace Go.Proofs.YtcglabmlhljkmaaGreat
open Go Go.RowKit Go.Gv
theorem slices_Chunk (A:Option Addr)(m c:Nat):SpecR Tryz.prog 128 #[.slice A m c, .int .i64 64] (fun _=>True) (fun r H'=> ∃b2 b3:Nat,r= .func (.func 168) #[] [.pointer (some ⟨b2,0,none⟩), .pointer (some ⟨b3,0,none⟩)].toArray∧H'= [blk b2 86 [.slice A m c],blk b3 3 [.int .i64 64]]):=by
 refine SpecR.of (fun w _=>?_)
 refine Calls.enter Tryz.func128 rfl rfl rfl (St.rebase w) ?_
 simp only [argSlots]
 refine Ws ?_
 (refine Wbx ?_;intro b2)
 refine Ws ?_
 (refine Wbx ?_;intro b3)
 refine Ws ?_
 refine Zz 6 false ?_
 refine Ws ?_
 refine ZomakeFunc (vs:= [.pointer (some ⟨b2,0,none⟩), .pointer (some ⟨b3,0,none⟩)]) ?_ (hc:=by exact⟨rfl,rfl,trivial⟩)
 refine Ws ?_
 refine Zfn [blk b2 86 [.slice A m c],blk b3 3 [.int .i64 64]] (hq:=?_)
 exact⟨b2,b3,rfl,rfl⟩
def chunks (A:Option Addr)(m:Nat):List (List Value):=(List.range (m/64)).map fun k=> [.slice (A.map (·.add (k*64))) 64 64]
theorem chunks_get {A:Option Addr}{m k:Nat}(h:k*64+64≤m):(chunks A m)[k]? =some [.slice (A.map (·.add (k*64))) 64 64] :=by
 unfold chunks
 rw [List.getElem?_map,List.getElem?_range (by omega)];rfl
theorem chunks_of {A:Option Addr}{m k:Nat}{vs:List Value}(hm:m%64=0)(h:(chunks A m)[k]? =some vs):k*64+64≤m∧vs= [.slice (A.map (·.add (k*64))) 64 64] :=by
 have hk:k<m/64:=by
  have:=(List.getElem?_eq_some_iff.1 h).1
  simpa [chunks] using this
 have h2:k*64+64≤m:=by omega
 rw [chunks_get h2] at h
 exact⟨h2,(Option.some.inj h).symm⟩
theorem chunk_iter (A:Option Addr)(m c b2 b3:Nat)(hm:m%64=0)(hc:m≤c∧m≤1000000000):Iter Tryz.prog 168 [.pointer (some ⟨b2,0,none⟩), .pointer (some ⟨b3,0,none⟩)] [blk b2 86 [.slice A m c],blk b3 3 [.int .i64 64]] (chunks A m):=by
 refine Iter.of (fun w0 l I J hY w h0 hw=>?_)
 have hxl:(chunks A m).length=m/64:=by simp [chunks]
 rw [hxl]
 refine Calls.enter Tryz.func168 rfl rfl rfl hw ?_
 simp only [argSlots]
 refine Tri.wr ?_
 refine Wap ?_
 refine Ws ?_
 (refine Wl (α:={ k:Nat//k≤m/64 }) (fun x=>m/64-x.1) (fun x=> [(0, .func (.yield l) #[] #[]),(1, .pointer (some ⟨b2,0,none⟩)),(2, .pointer (some ⟨b3,0,none⟩)),(4, .int .i64 ((x.1*64:Nat):Int))]) (fun x=> [I x.1,blk b2 86 [.slice A m c],blk b3 3 [.int .i64 64],Ex h0]) ⟨0,Nat.zero_le _⟩ ?_;rintro ⟨k,hk⟩ mx hmx;(try dsimp only at hmx ⊢))
 refine Ws ?_
 (refine Wcd ?_ ?_<;>intro h)
 ·have hk':k*64+64≤m:=by omega
  refine Ws ?_
  refine Wm [blk b2 86 [.slice A m c],blk b3 3 [.int .i64 64]] ?_
  refine Wq [0,1,2] ?_
  refine Zm 3 (h:=fun _ _ qK=>by exact ZosliceH (lo:=k*64) (hi:=m) qK) (k:=?_)
  refine Wq [4,5,6] ?_
  refine ZE ?_
  refine Zi 5 64 ?_ (hi:=by omega)
  refine Ws ?_
  refine Zi 24 ((k*64+64:Nat):Int) ?_ (hi:=by omega)
  refine Zi 27 ((k*64+64:Nat):Int) ?_ (hi:=by omega)
  refine Zoslice3 (lo:=k*64) (hi:=k*64+64) (mx:=k*64+64) ?_
  refine Zv 28 (.slice (A.map (·.add (k*64))) 64 64) ?_ (hv:=by rw [if_neg (by omega),show k*64+64-k*64=64 by omega,Nat.mul_one])
  refine Ws ?_
  ((with_reducible apply TriR.yield (hy:=hY k _ (chunks_get hk')));(case hx=>rfl);(case hargs=>(repeat (first | exact evs.nil | (apply evs.cons;(case a=>rfl)))));(case hn=>rfl);(case p=>(first | ((repeat (first | with_reducible exact Pull.head | with_reducible apply Pull.tail));done) | (repeat (first | exact Pull.head | apply Pull.tail)))))
  ·refine Ws ?_
   refine Zz 30 false ?_
   refine Ws ?_
   refine Zi 4 (((k+1)*64:Nat):Int) ?_ (hi:=by omega)
   exact Zag ⟨k+1,by omega⟩
  ·refine Ws ?_
   refine Zz 30 true ?_
   refine Ws ?_
   (first | with_reducible apply Tri.fin | with_reducible apply Tri.finN)
   case hr=>rfl
   case h=>exact ResL.nil
   exact fun w' hw'=> .inr ⟨(hw'.pulls (As:= [J,blk b2 86 [.slice A m c],blk b3 3 [.int .i64 64],Ex h0]) Wps).1,Sat.left (hw'.pulls Wps).2⟩
 ·obtain rfl:k=m/64:=by omega
  refine Ws ?_
  (first | with_reducible apply Tri.fin | with_reducible apply Tri.finN)
  case hr=>rfl
  case h=>exact ResL.nil
  exact fun w' hw'=> .inl ⟨(hw'.pulls (As:= [I (m/64),blk b2 86 [.slice A m c],blk b3 3 [.int .i64 64],Ex h0]) Wps).1,Sat.left (hw'.pulls Wps).2⟩
end Go.Proofs.YtcglabmlhljkmaaGreat
namespace Go.Gv
def crcBit (n:UInt32):UInt32:=(n>>>1) ^^^ (0x82F63B78 &&& (0-(n &&& 1)))
def crcBits:Nat→UInt32→UInt32
 | 0,n=>n
 | k+1,n=>crcBits k (crcBit n)
def crcTab (i:Nat):UInt32:=crcBits 8 (UInt32.ofNat i)
def crcByte (n:UInt32)(c:UInt8):UInt32:=(n>>>8) ^^^ crcTab (n.toUInt8 ^^^ c).toNat
def crcFold (n:UInt32)(l:List UInt8):UInt32:=l.foldl crcByte n
def crcBehind (sum:UInt32)(l:List UInt8):UInt32:= ~~~ (crcFold (~~~ sum) l)
def crcSum (l:List UInt8):UInt32:=crcBehind 0 l
theorem crcBits_succ (k:Nat)(n:UInt32):crcBits (k+1) n=crcBit (crcBits k n):=by
 induction k generalizing n with
 | zero=>rfl
 | succ k ih=>exact ih (crcBit n)
end Go.Gv
namespace Go.Proofs.YtcglabmlhljkmaaGreat
open Go Go.RowKit Go.Gv
def B8 (l:List UInt8):List Value:=l.map fun c=> .int .u8 (c.toNat:Int)
theorem B8_length (l:List UInt8):(B8 l).length=l.length:=by simp [B8]
theorem B8_sub (l:List UInt8)(lo hi:Nat):((B8 l).drop (lo*1)).take ((hi-lo)*1)=B8 ((l.drop lo).take (hi-lo)):=by simp [B8,List.map_take,List.map_drop]
theorem B8_append (a b:List UInt8):B8 (a++b)=B8 a++B8 b:=by simp [B8]
theorem B8_get (l:List UInt8)(j:Nat)(h:j<l.length):(B8 l)[j]? =some (.int .u8 (l[j].toNat:Int)):=by simp [B8,h]
def tabL:List Value:=(List.range 256).map fun i=> .int .u32 ((crcTab i).toNat:Int)
theorem tabL_get (j:Nat)(h:j<256):tabL[j]? =some (.int .u32 ((crcTab j).toNat:Int)):=by simp [tabL,h]
def tabV:Value:= .agg tabL.toArray
theorem foldl_take {α β:Type}(f:β→α→β)(b:β)(l:List α)(k:Nat)(h:k<l.length):(l.take (k+1)).foldl f b=f ((l.take k).foldl f b) l[k] :=by
 rw [List.take_succ_eq_append_getElem h,List.foldl_append];rfl
theorem crc_Behind (sum:UInt32)(v:Value)(l:List UInt8):
  SpecR Tryz.prog 136 #[tabV, .int .u32 (sum.toNat:Int),v] (fun w=>RdW w v l.length (B8 l)) (fun r H'=>r= .int .u32 ((crcBehind sum l).toNat:Int)∧H'= []):=by
 refine SpecR.of (fun w hr=>?_)
 have hlen:=hr.le
 refine Calls.enter Tryz.func136 rfl rfl rfl (St.rebase w) ?_
 simp only [argSlots]
 refine Ws ?_
 (refine Wbx ?_;intro bt)
 refine Ws ?_
 refine Zi 7 ((~~~ sum).toNat:Int) ?_ (hi:=by exact com32 sum)
 refine o_lenRd rfl hr rfl ?_
 refine Ws ?_
 (refine Wl (α:={ k:Nat//k≤l.length }) (fun x=>l.length-x.1) (fun x=> [(3, .pointer (some ⟨bt,0,none⟩)),(7, .int .u32 ((crcFold (~~~ sum) (l.take x.1)).toNat:Int)),(12,v),(13, .int .i64 (l.length:Int)),(14, .int .i64 (x.1:Int))]) (fun x=> [blk bt 70 tabL,Ex (hp w)]) ⟨0,Nat.zero_le _⟩ ?_;rintro ⟨k,hk⟩ mx hmx;(try dsimp only at hmx ⊢))
 refine Ws ?_
 (refine Wcd ?_ ?_<;>intro h)
 ·have hk':k<l.length:=by omega
  refine Ws ?_
  refine Zir (hr:=hr) ?_ (hl:=by rw [B8_length];omega)
  refine Ws ?_
  refine Zlr (hr:=hr) ?_ (hv:=by exact(by rw [Nat.mul_one];exact B8_get l k hk'))
  refine Ws ?_
  refine Zi 23 (((crcFold (~~~sum) (l.take k)).toUInt8 ^^^ l[k]).toNat:Int) ?_ (hi:=by rw [←wrapu8,low8,xor8])
  refine Zia ?_ (hlt:=by exact UInt8.toNat_lt _)
  refine ZTriop ?_
  refine Zl ?_ (hv:=by exact(by rw [Nat.zero_add,Nat.mul_one];exact tabL_get _ (UInt8.toNat_lt _)))
  refine Ws ?_
  refine Zi 7 ((crcFold (~~~sum) (l.take (k+1))).toNat:Int) ?_ (hi:=by unfold crcFold;rw [foldl_take _ _ _ _ hk',crcByte,shr32 _ 8 (by omega) 8 rfl,xor32];rfl)
  exact Zag ⟨k+1,Nat.succ_le_of_lt hk'⟩
 ·refine Ws ?_
  have e:k=l.length:=by omega
  subst e
  refine Zfn [] (hq:=?_)
  exact⟨by rw [com32,List.take_length];rfl,rfl⟩
theorem B8_one (l:List UInt8): ∀y∈B8 l,y.oneCell'=true:=by
 intro y hy;simp [B8] at hy;obtain⟨c,_,rfl⟩:=hy;rfl
theorem tabL_one: ∀y∈tabL,y.oneCell'=true:=by
 intro y hy;simp [tabL] at hy;obtain⟨c,_,rfl⟩:=hy;rfl
theorem tabL_length:tabL.length=256:=by simp [tabL]
theorem crc_Sum (v:Value)(l:List UInt8):
  SpecR Tryz.prog 90 #[tabV,v] (fun w=>RdW w v l.length (B8 l)) (fun r H'=>r= .int .u32 ((crcSum l).toNat:Int)∧H'= []):=by
 refine SpecR.of (fun w hr=>?_)
 refine Calls.enter Tryz.func90 rfl rfl rfl (St.rebase w) ?_
 simp only [argSlots]
 refine Ws ?_
 (refine Wbx ?_;intro bt)
 refine Ws ?_
 refine Zla ?_ (hl:=by exact tabL_length)
 refine Ws ?_
 refine Zcr (crc_Behind 0 v l) ?_ (hpre:=by exact rdw_ex Wp hr)
 rintro v_ H_ ⟨rfl,rfl⟩
 refine Ws ?_
 refine Zfn [] (hq:=?_)
 exact⟨rfl,rfl⟩
theorem crc_bit_run (j:Nat)(x:UInt32):
  Go.bits .xor .u32 (((crcBits j x).toNat:Int)/2 ^ min (Int.toNat 1) IntKind.u32.bits) (Go.bits .and .u32 2197175160 (IntKind.u32.wrap (0-Go.bits .and .u32 ((crcBits j x).toNat:Int) 1)))=((crcBits (j+1) x).toNat:Int):=by
 have h1:Go.bits .and .u32 ((crcBits j x).toNat:Int) 1=(((crcBits j x) &&& 1).toNat:Int):=and32 _ 1
 rw [h1,neg32,show (2197175160:Int)=((0x82F63B78:UInt32).toNat:Int) from rfl,and32,shr32 _ 1 (by omega) 1 rfl,xor32,crcBits_succ]
 rfl
def tabTo (k:Nat):List Value:=(List.range k).map (fun i=> .int .u32 ((crcTab i).toNat:Int))++List.replicate (256-k) (.int .u32 0)
theorem tabTo_length (k:Nat)(h:k≤256):(tabTo k).length=256:=by simp [tabTo];omega
theorem tabTo_256:tabTo 256=tabL:=by unfold tabTo tabL;rw [Nat.sub_self,List.replicate_zero,List.append_nil]
theorem tabTo_set (k:Nat)(h:k<256):(tabTo k).set k (.int .u32 ((crcTab k).toNat:Int))=tabTo (k+1):=by
 unfold tabTo
 have e:256-k=(256-(k+1))+1:=by omega
 rw [List.set_append_right _ _ (by simp),e,List.replicate_succ,List.range_succ]
 simp
theorem crc_New:SpecR Tryz.prog 27 #[] (fun _=>True) (fun r H'=>r=tabV∧H'= []):=by
 refine SpecR.of (fun w _=>?_)
 refine Calls.enter Tryz.func27 rfl rfl rfl (St.rebase w) ?_
 simp only [argSlots]
 refine Ws ?_
 refine Zal fun br=>?_
 refine Ws ?_
 refine Zal fun bt=>?_
 refine Ws ?_
 refine Zat (blk bt 70 (List.replicate 256 (.int .u32 0))) (blk bt 70 (tabTo 0)) ?_
 (refine Wl (α:={ k:Nat//k≤256 }) (fun x=>256-x.1) (fun x=> [(0, .pointer (some ⟨br,0,none⟩)),(1, .pointer (some ⟨bt,0,none⟩)),(4, .int .i64 (x.1:Int))]) (fun x=> [blk br 70 (List.replicate 256 (.int .u32 0)),blk bt 70 (tabTo x.1),Ex (hp w)]) ⟨0,Nat.zero_le _⟩ ?_;rintro ⟨k,hk⟩ mx hmx;(try dsimp only at hmx ⊢))
 refine Ws ?_
 (refine Wcd ?_ ?_<;>intro h)
 ·refine Ws ?_
  have hk':k<256:=by omega
  refine Zi 3 ((crcBits 0 (UInt32.ofNat k)).toNat:Int) ?_ (hi:=by simp only [crcBits,UInt32.toNat_ofNat'];omega)
  (refine Wl (α:={ j:Nat//j≤8 }) (fun x=>8-x.1) (fun x=> [(0, .pointer (some ⟨br,0,none⟩)),(1, .pointer (some ⟨bt,0,none⟩)),(4, .int .i64 (k:Int)),(2, .int .i64 (k:Int)),(9, .int .i64 (x.1:Int)),(3, .int .u32 ((crcBits x.1 (UInt32.ofNat k)).toNat:Int))]) (fun _=> [blk br 70 (List.replicate 256 (.int .u32 0)),blk bt 70 (tabTo k),Ex (hp w)]) ⟨0,Nat.zero_le _⟩ ?_;rintro ⟨j,hj⟩ mx hmx;(try dsimp only at hmx ⊢))
  refine Ws ?_
  (refine Wcd ?_ ?_<;>intro h2)
  ·refine Ws ?_
   refine Zi 3 ((crcBits (j+1) (UInt32.ofNat k)).toNat:Int) ?_ (hi:=by exact crc_bit_run j _)
   exact Zag ⟨j+1,by omega⟩
  ·have e:j=8:=by omega
   subst e
   refine Ws ?_
   refine ZS ?_ (hi:=by rw [tabTo_length k hk];omega)
   refine Zat (blk bt 70 _) (blk bt 70 (tabTo (k+1))) ?_ (e:=by rw [Nat.zero_add,Nat.mul_one];exact congrArg _ (tabTo_set k hk'))
   refine Ws ?_
   exact Zag ⟨k+1,by omega⟩
 ·have e:k=256:=by omega
  subst e
  refine Ws ?_
  refine Zat (blk bt 70 (tabTo 256)) (blk bt 70 tabL) ?_ (e:=by show blk bt 70 (tabTo 256)=_;rw [tabTo_256])
  refine Zla ?_ (hl:=by exact tabL_length)
  refine Ws ?_
  refine ZSa ?_ (hl:=by exact tabL_length) (hc:=by exact List.length_replicate) (h1:=by exact tabL_one)
  refine Ws ?_
  (first | with_reducible apply Tri.fin | with_reducible apply Tri.finN)
  case hr=>rfl
  case h=>exact ResL.cons (Res1.agg rfl Wp (by rw [List.drop_zero];exact List.take_of_length_le (Nat.le_of_eq tabL_length)) tabL_length) ResL.nil
  apply fin_R (Hn:= [])
  case p=>exact Wps
  exact⟨rfl,rfl⟩
structure WW where
 i:Nat
 v:Value
 b:List UInt8
def WL (W:List WW):List Value:=W.flatMap fun x=> [.int .i64 (x.i:Int),x.v]
def WT (W:List WW):List (Value×Nat×List Value):=W.map fun x=>(x.v,x.b.length,B8 x.b)
theorem WL_drop: ∀(W:List WW) (k:Nat),(WL W).drop (k*2)=WL (W.drop k)
 | W,0=>rfl
 | [],k+1=>by simp [WL]
 | x::W,k+1=>by
  rw [show (k+1)*2=k*2+2 by omega, ←List.drop_drop,List.drop_drop,Nat.add_comm, ←List.drop_drop]
  exact WL_drop W k
theorem WL_two (W:List WW)(k:Nat)(h:k<W.length):((WL W).drop (k*2)).take 2= [.int .i64 ((W[k]'h).i:Int),(W[k]'h).v] :=by
 rw [WL_drop,List.drop_eq_getElem_cons h];rfl
theorem WL_get0 (W:List WW)(k:Nat)(h:k<W.length):(WL W)[k*2+0]? =some (.int .i64 ((W[k]'h).i:Int)):=by
 have:=WL_drop W k
 have e:((WL W).drop (k*2))[0]? =(WL W)[k*2+0]? :=List.getElem?_drop
 rw [←e,this,List.drop_eq_getElem_cons h];rfl
theorem WL_get1 (W:List WW)(k:Nat)(h:k<W.length):(WL W)[k*2+1]? =some (W[k]'h).v:=by
 have:=WL_drop W k
 have e:((WL W).drop (k*2))[1]? =(WL W)[k*2+1]? :=List.getElem?_drop
 rw [←e,this,List.drop_eq_getElem_cons h];rfl
theorem WL_append (V W:List WW):WL (V++W)=WL V++WL W:=by simp [WL]
theorem WT_append (V W:List WW):WT (V++W)=WT V++WT W:=by simp [WT]
theorem WT_mem (W:List WW)(k:Nat)(h:k<W.length):((W[k]'h).v,(W[k]'h).b.length,B8 (W[k]'h).b)∈WT W:=List.mem_map.2 ⟨_,List.getElem_mem h,rfl⟩
def WOk (N:Nat)(W:List WW):Prop:= ∀x∈W,x.i*64+64≤N∧x.b.length=64
theorem WOk.nil (N:Nat):WOk N [] :=fun x hx=>by simp at hx
theorem WOk.get {N:Nat}{W:List WW}(h:WOk N W){k:Nat}(hk:k<W.length):(W[k]'hk).i*64+64≤N∧(W[k]'hk).b.length=64:=h _ (List.getElem_mem hk)
theorem WOk.add {N:Nat}{W:List WW}(h:WOk N W){i:Nat}{v:Value}{b:List UInt8}(hi:i*64+64≤N)(hb:b.length=64):WOk N (W++ [⟨i,v,b⟩]):=fun x hx=>by
 rcases List.mem_append.1 hx with hx | hx
 ·exact h x hx
 ·simp at hx;subst hx;exact⟨hi,hb⟩
def mayE (off:Bool)(N:Nat)(i:Int):Nat:=if off then 2 else if i<0∨((N/64:Nat):Int)≤i then 1 else 0
def putAt (A:List UInt8)(at_:Nat)(b:List UInt8):List UInt8:=A.take at_++b++A.drop (at_+b.length)
theorem putAt_length (A:List UInt8)(at_:Nat)(b:List UInt8)(h:at_+b.length≤A.length):(putAt A at_ b).length=A.length:=by simp [putAt];omega
theorem putAt_B8 (A:List UInt8)(at_:Nat)(b:List UInt8)(n:Nat)(hn:n=b.length):(B8 A).take at_++B8 b++(B8 A).drop (at_+n)=B8 (putAt A at_ b):=by
 subst hn;simp [B8,putAt,List.map_take,List.map_drop]
def lastW (W:List WW)(i:Int):Nat→Option (List UInt8)
 | 0=>none
 | k+1=>match W[k]? with
  | some x=>if(x.i:Int)=i then some x.b else lastW W i k
  | none=>lastW W i k
theorem lastW_hit {W:List WW}{i:Int}{k:Nat}(h:k<W.length)(e:((W[k]'h).i:Int)=i):lastW W i (k+1)=some (W[k]'h).b:=by
 rw [lastW,gEe h];simp [e]
theorem lastW_miss {W:List WW}{i:Int}{k:Nat}(h:k<W.length)(e: ¬((W[k]'h).i:Int)=i):lastW W i (k+1)=lastW W i k:=by
 rw [lastW,gEe h];simp [e]
def readM (A:List UInt8)(W:List WW)(i:Int):List UInt8:=(lastW W i W.length).getD ((A.drop (i.toNat*64)).take 64)
def flushM (A:List UInt8)(W:List WW):List UInt8:=W.foldl (fun A x=>putAt A (x.i*64) x.b) A
theorem flush_length {N:Nat}: ∀(W:List WW) (A:List UInt8),WOk N W→A.length=N→(flushM A W).length=N
 | [],A,_,h=>h
 | x::W,A,hW,h=>by
  have hx:=hW x (List.mem_cons_self ..)
  exact flush_length W _ (fun y hy=>hW y (mCm _ hy)) (by rw [putAt_length _ _ _ (by omega),h])
def keepTo (A:List UInt8)(i:Nat)(b:List UInt8)(atoms:UInt8):Nat→List UInt8
 | 0=>A
 | k+1=>if bit8' atoms k then putAt (keepTo A i b atoms k) (i*64+k*8) ((b.drop (k*8)).take 8) else keepTo A i b atoms k
where bit8' (x:UInt8) (j:Nat):Bool:=decide (Go.bits .and .u8 ((x.toNat:Int)/2 ^ min (((j:Nat):Int)).toNat IntKind.u8.bits) 1=1)
theorem keepTo_length {A:List UInt8}{i:Nat}{b:List UInt8}{atoms:UInt8}(hi:i*64+64≤A.length)(hb:b.length=64): ∀k,k≤8→(keepTo A i b atoms k).length=A.length
 | 0,_=>rfl
 | k+1,hk=>by
  have ih:=keepTo_length hi hb k (by omega) (atoms:=atoms)
  have hl:((b.drop (k*8)).take 8).length=8:=by simp;omega
  rw [keepTo];split
  ·rw [putAt_length _ _ _ (by omega),ih]
  ·exact ih
def keepM (A:List UInt8)(i:Nat)(b:List UInt8)(f:Bool×UInt8):List UInt8:=if f.1 then keepTo A i b f.2 8 else A
theorem keepM_length {A:List UInt8}{i:Nat}{b:List UInt8}{f:Bool×UInt8}(hi:i*64+64≤A.length)(hb:b.length=64):(keepM A i b f).length=A.length:=by
 unfold keepM;split
 ·exact keepTo_length hi hb 8 (Nat.le_refl _)
 ·rfl
def crashTo (A:List UInt8)(W:List WW)(F:List (Bool×UInt8)):Nat→List UInt8
 | 0=>A
 | k+1=>match W[k]?,F[k]? with
  | some x,some f=>keepM (crashTo A W F k) x.i x.b f
  | _,_=>crashTo A W F k
theorem crashTo_length {A:List UInt8}{W:List WW}{F:List (Bool×UInt8)}(hW:WOk A.length W): ∀k,(crashTo A W F k).length=A.length
 | 0=>rfl
 | k+1=>by
  have ih:=crashTo_length hW k (F:=F)
  rw [crashTo];split
  ·rename_i x f hx hf
   obtain⟨h1,h2⟩:=hW x (List.mem_of_getElem? hx)
   rw [keepM_length (by omega) h2,ih]
  ·exact ih
def crashM (A:List UInt8)(W:List WW)(F:List (Bool×UInt8)):List UInt8:=crashTo A W F W.length
def FL (F:List (Bool×UInt8)):List Value:=F.flatMap fun f=> [.bool f.1, .int .u8 (f.2.toNat:Int)]
theorem FL_length: ∀F,(FL F).length=F.length*2
 | [] =>rfl
 | x::W=>by
  have:=FL_length W
  simp only [FL,List.flatMap_cons,lAp,lCn,List.length_nil] at this ⊢;omega
theorem FL_drop: ∀(F:List (Bool×UInt8)) (k:Nat),(FL F).drop (k*2)=FL (F.drop k)
 | F,0=>rfl
 | [],k+1=>by simp [FL]
 | x::F,k+1=>by
  rw [show (k+1)*2=k*2+2 by omega, ←List.drop_drop,List.drop_drop,Nat.add_comm, ←List.drop_drop]
  exact FL_drop F k
theorem FL_two (F:List (Bool×UInt8))(k:Nat)(h:k<F.length):((FL F).drop (k*2)).take 2= [.bool (F[k]'h).1, .int .u8 ((F[k]'h).2.toNat:Int)] :=by
 rw [FL_drop,List.drop_eq_getElem_cons h];rfl
theorem B8_len1 (l:List UInt8):(B8 l).length=l.length*1:=by rw [B8_length,Nat.mul_one]
theorem bytes_Clone (v:Value)(l:List UInt8)(hb:l.length≤1000000):SpecR Tryz.prog 86 #[v] (fun w=>RdW w v l.length (B8 l)) (fun r H'=>H'= [own 5 1 r l.length (B8 l)]):=by
 refine SpecR.of (fun w hr=>?_)
 refine Calls.enter Tryz.func86 rfl rfl rfl (St.rebase w) ?_
 simp only [argSlots]
 refine Ws ?_
 refine ZoeqlSN ?_ (hr:=by exact rdw_ex Wp hr)
 intro b hbl
 cases b
 ·refine Ws ?_
  (refine Zli (ys:= []) ?_;intro vr)
  refine Ws ?_
  refine Zap ?_ (hr:=by exact rdw_ex Wp hr) (hl:=by exact B8_len1 l) (h1:=by exact B8_one l)
  intro v'
  refine Ws ?_
  ((with_reducible apply Tri.eqA (A:=own 5 1 v' _ _) (B:=own 5 1 v' l.length (B8 l)));(case p=>(first | ((repeat (first | with_reducible exact Pull.head | with_reducible apply Pull.tail));done) | (repeat (first | exact Pull.head | apply Pull.tail))));(case e=>(rw [Nat.zero_add,nAp])))
  refine Zfn [own 5 1 v' l.length (B8 l)] (hq:=?_)
  simp only [tupled]
 ·have hl:l= [] :=by
   have:=hbl rfl
   cases l with
   | nil=>rfl
   | cons x l=>simp [B8] at this
  subst hl
  refine Ws ?_
  (with_reducible apply Tri.ownNil 5 1)
  refine Zfn [own 5 1 (.slice none 0 0) 0 []] (hq:=?_)
  rfl
theorem disk_may (p a:Nat)(N:Nat)(vw:Value)(off:Bool)(till i:Int)(hN:N≤1000000):Gv.Spec Tryz.prog 169 #[.pointer (some ⟨p,0,none⟩), .int .i64 i] [blk p 153 [.slice (some ⟨a,0,none⟩) N N,vw, .bool off, .int .i64 till]]
  (fun r H'=>r= .int .i64 (mayE off N i:Int)∧H'= [blk p 153 [.slice (some ⟨a,0,none⟩) N N,vw, .bool off, .int .i64 till]]):=by
 refine Gv.Spec.of (fun w h0 hw=>?_)
 refine Calls.enter Tryz.func169 rfl rfl rfl hw ?_
 simp only [argSlots]
 refine Wap ?_
 refine Ws ?_
 refine Zz 5 false ?_
 refine Ws ?_
 (refine Wcb ?_ ?_<;>intro h1)
 ·refine Ws ?_
  refine Zfn [blk p 153 [.slice (some ⟨a,0,none⟩) N N,vw, .bool off, .int .i64 till]] (hq:=?_)
  exact⟨by rw [mayE,h1];rfl,rfl⟩
 ·refine Ws ?_
  (refine ZcB 16 ?_ ?_<;>intro h2)
  ·have h2':=of_decide_eq_true h2
   refine Ws ?_
   refine Zfn [blk p 153 [.slice (some ⟨a,0,none⟩) N N,vw, .bool off, .int .i64 till]] (hq:=?_)
   exact⟨by rw [mayE,h1,if_neg (by simp),if_pos (.inl h2')];rfl,rfl⟩
  ·have h2':=of_decide_eq_false h2
   refine Ws ?_
   (refine Wcd ?_ ?_<;>intro h3)
   ·refine Ws ?_
    refine Zfn [blk p 153 [.slice (some ⟨a,0,none⟩) N N,vw, .bool off, .int .i64 till]] (hq:=?_)
    exact⟨by rw [mayE,h1,if_neg (by simp),if_pos (.inr (by omega))];rfl,rfl⟩
   ·refine Ws ?_
    refine Zfn [blk p 153 [.slice (some ⟨a,0,none⟩) N N,vw, .bool off, .int .i64 till]] (hq:=?_)
    exact⟨by rw [mayE,h1,if_neg (by simp),if_neg (by omega)];rfl,rfl⟩
theorem disk_sector (p a:Nat)(N i:Nat)(vw:Value)(off:Bool)(till:Int)(hN:N≤1000000)(hi:i*64+64≤N):Gv.Spec Tryz.prog 125 #[.pointer (some ⟨p,0,none⟩), .int .i64 (i:Int)] [blk p 153 [.slice (some ⟨a,0,none⟩) N N,vw, .bool off, .int .i64 till]]
  (fun r H'=>r= .slice (some ⟨a,i*64,none⟩) 64 (N-i*64)∧H'= [blk p 153 [.slice (some ⟨a,0,none⟩) N N,vw, .bool off, .int .i64 till]]):=by
 refine Gv.Spec.of (fun w h0 hw=>?_)
 refine Calls.enter Tryz.func125 rfl rfl rfl hw ?_
 simp only [argSlots]
 refine Wap ?_
 refine Ws ?_
 refine Zi 10 ((i*64:Nat):Int) ?_ (hi:=by omega)
 refine Zi 13 ((i*64+64:Nat):Int) ?_ (hi:=by omega)
 refine ZosliceB (lo:=i*64) (hi:=i*64+64) ?_
 refine Ws ?_
 refine Zfn [blk p 153 [.slice (some ⟨a,0,none⟩) N N,vw, .bool off, .int .i64 till]] (hq:=?_)
 refine⟨?_,rfl⟩
 simp only [tupled]
 congr 1
 ·congr 1;congr 1;omega
 ·omega
def stopB (till:Int):Bool:=decide (till=0)
def stopT (till:Int):Int:=if till=0 then -1 else max (till-1) (-1)
theorem disk_stops (p:Nat)(va vw:Value)(off:Bool)(till:Int)(ht: -1≤till∧till≤9223372036854775807):Gv.Spec Tryz.prog 124 #[.pointer (some ⟨p,0,none⟩)] [blk p 153 [va,vw, .bool off, .int .i64 till]]
  (fun r H'=>r= .bool (stopB till)∧H'= [blk p 153 [va,vw, .bool (off || stopB till), .int .i64 (stopT till)]]):=by
 refine Gv.Spec.of (fun w h0 hw=>?_)
 refine Calls.enter Tryz.func124 rfl rfl rfl hw ?_
 simp only [argSlots]
 refine Wap ?_
 refine Ws ?_
 (refine Wcd ?_ ?_<;>intro h1)
 ·refine Ws ?_
  refine ZS ?_ (hi:=by show 2<4;omega)
  refine Ws ?_
  refine ZS ?_ (hi:=by show 3<4;omega)
  refine Ws ?_
  refine Zfn [blk p 153 [va,vw, .bool true, .int .i64 (-1)]] (hq:=?_)
  exact⟨by rw [stopB,dTt h1];rfl,by rw [stopB,stopT,if_pos h1,dTt h1,Bool.or_true]⟩
 ·refine Ws ?_
  refine ZS ?_ (hi:=by show 3<4;omega)
  refine Ws ?_
  refine Zfn [blk p 153 [va,vw, .bool off, .int .i64 (max (till-1) (-1))]] (hq:=?_)
  exact⟨by rw [stopB,dFf h1];rfl,by rw [stopB,stopT,if_neg h1,dFf h1,Bool.or_false]⟩
structure DS where
 A:List UInt8
 W:List (Nat×List UInt8)
 off:Bool
 till:Int
def WP2 (W:List WW):List (Nat×List UInt8):=W.map fun x=>(x.i,x.b)
def flW (A:List UInt8)(W:List (Nat×List UInt8)):List UInt8:=W.foldl (fun A x=>putAt A (x.1*64) x.2) A
def DS.V (S:DS):List UInt8:=flW S.A S.W
def DS.ok (S:DS):Prop:=S.A.length≤1000000∧(-1≤S.till∧S.till≤9223372036854775807)∧ ∀x∈S.W,x.1*64+64≤S.A.length∧x.2.length=64
theorem flW_WP (A:List UInt8)(W:List WW):flW A (WP2 W)=flushM A W:=by
 unfold flW WP2 flushM
 rw [List.foldl_map]
theorem flW_length: ∀(W:List (Nat×List UInt8)) (A:List UInt8),(∀x∈W,x.1*64+64≤A.length∧x.2.length=64)→(flW A W).length=A.length
 | [],A,_=>rfl
 | x::W,A,h=>by
  have hx:=h x (List.mem_cons_self ..)
  have hl:=putAt_length A (x.1*64) x.2 (by omega)
  show (flW (putAt A (x.1*64) x.2) W).length=_
  rw [flW_length W _ (fun y hy=>by rw [hl];exact h y (mCm _ hy)),hl]
theorem DS.V_length {S:DS}(h:S.ok):S.V.length=S.A.length:=flW_length _ _ h.2.2
theorem flW_append (A:List UInt8)(W W':List (Nat×List UInt8)):flW A (W++W')=flW (flW A W) W':=by unfold flW;rw [List.foldl_append]
def sec (V:List UInt8)(i:Nat):List UInt8:=(V.drop (i*64)).take 64
theorem sec_put_same (A:List UInt8)(i:Nat)(b:List UInt8)(hi:i*64+64≤A.length)(hb:b.length=64):sec (putAt A (i*64) b) i=b:=by
 unfold sec putAt
 rw [aAs,List.drop_append_of_le_length (by rw [lTk];omega),List.drop_of_length_le (by rw [lTk];omega),nAp,List.take_left' hb]
theorem sec_put_other (A:List UInt8)(i j:Nat)(b:List UInt8)(hi:i*64+64≤A.length)(hb:b.length=64)(hj:j≠i):sec (putAt A (i*64) b) j=sec A j:=by
 unfold sec
 apply List.ext_getElem?
 intro k
 rw [List.getElem?_take,List.getElem?_take]
 split
 ·rename_i hk
  rw [List.getElem?_drop,List.getElem?_drop]
  unfold putAt
  have hlt:(A.take (i*64)).length=i*64:=by rw [lTk];omega
  by_cases hji:j<i
  ·have:j*64+k<i*64:=by
    have:(j+1)*64≤i*64:=Nat.mul_le_mul_right 64 hji
    omega
   rw [aAs,List.getElem?_append_left (by omega),List.getElem?_take,if_pos this]
  ·have:i*64+64≤j*64+k:=by
    have:(i+1)*64≤j*64:=Nat.mul_le_mul_right 64 (by omega)
    omega
   rw [List.getElem?_append_right (by rw [lAp];omega),List.getElem?_drop,lAp,hlt,hb]
   congr 1;omega
 ·rfl
theorem lastW_sec {N:Nat}: ∀(k:Nat) (W:List WW) (A:List UInt8),A.length=N→(∀x∈W,x.i*64+64≤N∧x.b.length=64)→ ∀i:Nat,k≤W.length→(lastW W (i:Int) k).getD (sec A i)=sec (flushM A (W.take k)) i
 | 0,W,A,_,_,i,_=>rfl
 | k+1,W,A,hA,hW,i,hk=>by
  have hlt:k<W.length:=by omega
  have hx:=hW _ (List.getElem_mem hlt)
  have hfl:(flushM A (W.take k)).length=N:=flush_length _ _ (fun y hy=>hW y (List.mem_of_mem_take hy)) hA
  have ht:flushM A (W.take (k+1))=putAt (flushM A (W.take k)) ((W[k]'hlt).i*64) (W[k]'hlt).b:=by
   rw [flushM,List.take_succ_eq_append_getElem hlt,List.foldl_append];rfl
  rw [ht]
  by_cases e:(W[k]'hlt).i=i
  ·rw [lastW_hit hlt (by omega), ←e,sec_put_same _ _ _ (by omega) hx.2];rfl
  ·rw [lastW_miss hlt (by omega),sec_put_other _ _ _ _ (by omega) hx.2 (by omega)]
   exact lastW_sec k W A hA hW i (by omega)
theorem readM_sec {A:List UInt8}{W:List WW}(hW:WOk A.length W)(i:Nat):readM A W (i:Int)=sec (flushM A W) i:=by
 have:=lastW_sec W.length W A rfl hW i (Nat.le_refl _)
 rw [List.take_length] at this
 rw [←this];rfl
def DS.wr (S:DS)(i:Int)(b:List UInt8):DS×Nat:=
 if mayE S.off S.A.length i≠0 then(S,mayE S.off S.A.length i) else if b.length≠64 then(S,1) else if S.till=0 then({ S with off:=true,till:= -1 },2) else({ S with W:=S.W++ [(i.toNat,b)],till:=stopT S.till },0)
def DS.wrs (S:DS)(i:Int):List (List UInt8)→DS×Nat
 | [] =>(S,0)
 | b::bs=>if(S.wr i b).2=0 then(S.wr i b).1.wrs (i+1) bs else S.wr i b
theorem mayD_ok {off:Bool}{N:Nat}{i:Int}(h:mayE off N i=0):off=false∧0≤i∧i.toNat*64+64≤N:=by
 unfold mayE at h
 cases off
 ·simp only [Bool.false_eq_true,if_false] at h
  split at h
  ·cases h
  ·exact⟨rfl,by omega,by omega⟩
 ·simp at h
theorem mayD_of {N i:Nat}(h:i*64+64≤N):mayE false N (i:Int)=0:=by
 unfold mayE
 rw [if_neg (by simp),if_neg (by omega)]
theorem DS.wr_ok {S:DS}(h:S.ok)(i:Int)(b:List UInt8):(S.wr i b).1.ok:=by
 unfold DS.wr
 split
 ·exact h
 ·rename_i hm
  obtain⟨_,h1,h2⟩:=mayD_ok (Classical.byContradiction hm)
  split
  ·exact h
  ·split
   ·exact⟨h.1,by simp,h.2.2⟩
   ·refine⟨h.1, ?_,fun x hx=>?_⟩
    ·have:=h.2.1
     show -1≤stopT S.till∧stopT S.till≤9223372036854775807
     unfold stopT;split<;>omega
    ·rcases List.mem_append.1 hx with hx | hx
     ·exact h.2.2 x hx
     ·simp at hx;subst hx;exact⟨h2,by show b.length=64;omega⟩
theorem DS.wr_len (S:DS)(i:Int)(b:List UInt8):(S.wr i b).1.W.length≤S.W.length+1∧(S.wr i b).1.A=S.A:=by
 unfold DS.wr
 repeat' split
 all_goals simp
theorem DS.wrs_snoc: ∀(bs:List (List UInt8)) (S:DS) (i:Int) (b:List UInt8),(S.wrs i bs).2=0→S.wrs i (bs++ [b])=(S.wrs i bs).1.wr (i+bs.length) b
 | [],S,i,b,_=>by
  show (if(S.wr i b).2=0 then((S.wr i b).1,0) else S.wr i b)=S.wr (i+0) b
  rw [Int.add_zero]
  split
  ·rename_i h;rw [←h]
  ·rfl
 | c::bs,S,i,b,h=>by
  show (if(S.wr i c).2=0 then(S.wr i c).1.wrs (i+1) (bs++ [b]) else S.wr i c)=_
  have hu:S.wrs i (c::bs)=if(S.wr i c).2=0 then(S.wr i c).1.wrs (i+1) bs else S.wr i c:=rfl
  rw [hu] at h ⊢
  by_cases hc:(S.wr i c).2=0
  ·rw [if_pos hc] at h ⊢
   rw [if_pos hc,DS.wrs_snoc bs _ _ b h]
   congr 1
   rw [lCn];omega
  ·rw [if_neg hc] at h
   exact absurd h hc
theorem DS.wrs_stop: ∀(bs cs:List (List UInt8)) (S:DS) (i:Int),(S.wrs i bs).2≠0→S.wrs i (bs++cs)=S.wrs i bs
 | [],_,_,_,h=>absurd rfl h
 | b::bs,cs,S,i,h=>by
  show (if(S.wr i b).2=0 then(S.wr i b).1.wrs (i+1) (bs++cs) else S.wr i b)=if(S.wr i b).2=0 then(S.wr i b).1.wrs (i+1) bs else S.wr i b
  have hu:S.wrs i (b::bs)=if(S.wr i b).2=0 then(S.wr i b).1.wrs (i+1) bs else S.wr i b:=rfl
  rw [hu] at h
  by_cases hc:(S.wr i b).2=0
  ·rw [if_pos hc] at h ⊢
   rw [if_pos hc];exact DS.wrs_stop bs cs _ _ h
  ·rw [if_neg hc,if_neg hc]
theorem putAt_putAt (A:List UInt8)(i:Nat)(b c:List UInt8)(h:i≤A.length):putAt (putAt A i b) (i+b.length) c=putAt A i (b++c):=by
 have hl:(A.take i++b).length=i+b.length:=by rw [lAp,lTk];omega
 unfold putAt
 rw [List.take_left' hl,List.drop_append,hl,List.drop_of_length_le (by omega),nAp,show i+b.length+c.length-(i+b.length)=c.length by omega,List.drop_drop,lAp]
 simp [Nat.add_assoc]
theorem DS.wrs_ok: ∀(bs:List (List UInt8)) {S:DS} (i:Int),S.ok→(S.wrs i bs).1.ok
 | [],_,_,h=>h
 | b::bs,S,i,h=>by
  show (if(S.wr i b).2=0 then(S.wr i b).1.wrs (i+1) bs else S.wr i b).1.ok
  split
  ·exact DS.wrs_ok bs _ (DS.wr_ok h i b)
  ·exact DS.wr_ok h i b
theorem DS.wrs_len: ∀(bs:List (List UInt8)) (S:DS) (i:Int),(S.wrs i bs).1.W.length≤S.W.length+bs.length∧(S.wrs i bs).1.A=S.A
 | [],S,_=>⟨Nat.le_refl _,rfl⟩
 | b::bs,S,i=>by
  have h1:=DS.wr_len S i b
  show (if(S.wr i b).2=0 then(S.wr i b).1.wrs (i+1) bs else S.wr i b).1.W.length≤_∧(if(S.wr i b).2=0 then(S.wr i b).1.wrs (i+1) bs else S.wr i b).1.A=_
  split
  ·have h2:=DS.wrs_len bs (S.wr i b).1 (i+1)
   rw [lCn]
   exact⟨by omega,by rw [h2.2,h1.2]⟩
  ·rw [lCn]
   exact⟨by omega,h1.2⟩
def secs (b:List UInt8)(k:Nat):List (List UInt8):=(List.range k).map (fun j=>sec b j)
theorem secs_length (b:List UInt8)(k:Nat):(secs b k).length=k:=by simp [secs]
theorem secs_succ (b:List UInt8)(k:Nat):secs b (k+1)=secs b k++ [sec b k] :=by simp [secs,List.range_succ]
theorem sec_length {b:List UInt8}{j:Nat}(h:j*64+64≤b.length):(sec b j).length=64:=by simp [sec];omega
theorem DS.wrs_V {S:DS}(h:S.ok)(i:Nat)(b:List UInt8)(ho:S.off=false)(ht:S.till= -1): ∀k,i*64+k*64≤S.A.length→k*64≤b.length→
  (S.wrs (i:Int) (secs b k)).2=0∧(S.wrs (i:Int) (secs b k)).1.off=false∧(S.wrs (i:Int) (secs b k)).1.till= -1∧(S.wrs (i:Int) (secs b k)).1.V=putAt S.V (i*64) (b.take (k*64))
 | 0,_,_=>by
  refine⟨rfl,ho,ht, ?_⟩
  show S.V=putAt S.V (i*64) (b.take (0*64))
  simp [putAt]
 | k+1,h1,h2=>by
  obtain⟨g1,g2,g3,g4⟩:=DS.wrs_V h i b ho ht k (by omega) (by omega)
  have hok:=DS.wrs_ok (secs b k) (i:Int) h
  have hA:=(DS.wrs_len (secs b k) S (i:Int)).2
  have hl:=sec_length (b:=b) (j:=k) (by omega)
  have hVl:=DS.V_length h
  rw [secs_succ,DS.wrs_snoc _ _ _ _ g1,secs_length]
  have hm:mayE (S.wrs (i:Int) (secs b k)).1.off (S.wrs (i:Int) (secs b k)).1.A.length ((i:Int)+(k:Int))=0:=by
   rw [g2,hA];exact mayD_of (i:=i+k) (by omega)
  unfold DS.wr
  rw [if_neg (by rw [hm];simp),if_neg (by omega),if_neg (by rw [g3];decide)]
  refine⟨rfl,g2,by show stopT _=_;rw [g3];rfl, ?_⟩
  show flW _ (_++ [_])=_
  rw [flW_append]
  show putAt (S.wrs (i:Int) (secs b k)).1.V (((i:Int)+(k:Int)).toNat*64) (sec b k)=_
  rw [g4,show ((i:Int)+(k:Int)).toNat=i+k by omega]
  have ht:(b.take (k*64)).length=k*64:=by rw [lTk];omega
  have e:b.take ((k+1)*64)=b.take (k*64)++sec b k:=by
   rw [show (k+1)*64=k*64+64 by omega,List.take_add];rfl
  have hp:(S.V.take (i*64)).length=i*64:=by rw [lTk];omega
  have hq:=putAt_putAt S.V (i*64) (b.take (k*64)) (sec b k) (by omega)
  rw [ht] at hq
  rw [e,show (i+k)*64=i*64+k*64 by omega,hq]
theorem disk_New (k:Nat)(h:8≤k∧k≤512):SpecR Tryz.prog 28 #[.int .i64 (k:Int)] (fun _=>True) (fun r H'=> ∃p a,r= .tuple #[.pointer (some ⟨p,0,none⟩), .int .i64 0] ∧H'= [blk p 153 [.slice (some ⟨a,0,none⟩) (List.replicate (k*256) (0:UInt8)).length (List.replicate (k*256) (0:UInt8)).length,(.slice none 0 0), .bool false, .int .i64 (-1)],blk a 5 (B8 (List.replicate (k*256) (0:UInt8))),own 186 2 (.slice none 0 0) (([] :List WW)).length (WL (([] :List WW))),manyRd (WT (([] :List WW)))]):=by
 refine SpecR.of (fun w _=>?_)
 refine Calls.enter Tryz.func28 rfl rfl rfl (St.rebase w) ?_
 simp only [argSlots]
 refine Ws ?_
 (refine ZcB 6 ?_ ?_<;>intro h1)
 ·exact absurd (of_decide_eq_true h1) (by omega)
 ·refine Ws ?_
  (refine Wcd ?_ ?_<;>intro h2)
  ·omega
  ·refine Ws ?_
   refine Zomake1 (m:=k*256) ?_ (hj:=by omega)
   intro a
   refine Ws ?_
   refine Zbu ?_
   refine Ws ?_
   (refine Wbx ?_;intro p)
   refine Ws ?_
   have e:(List.replicate (k*256) (0:UInt8)).length=k*256:=List.length_replicate
   refine Zat (blk p _ _) (blk p 153 [.slice (some ⟨a,0,none⟩) (List.replicate (k*256) (0:UInt8)).length (List.replicate (k*256) (0:UInt8)).length, .slice none 0 0, .bool false, .int .i64 (-1)]) ?_ (e:=by rw [e];rfl)
   refine Zat (blk a _ _) (blk a 5 (B8 (List.replicate (k*256) 0))) ?_ (e:=by rw [B8,List.map_replicate];rfl)
   (with_reducible apply Tri.ownNil 186 2)
   refine Zat (own 186 2 (.slice none 0 0) 0 []) (own 186 2 (.slice none 0 0) ([] :List WW).length (WL ([] :List WW))) ?_
   (refine Tri.pure_ (A:=manyRd (WT [])) manyRd_nil ?_)
   refine Zfn [blk p 153 [.slice (some ⟨a,0,none⟩) (List.replicate (k*256) (0:UInt8)).length (List.replicate (k*256) (0:UInt8)).length,(.slice none 0 0), .bool false, .int .i64 (-1)],blk a 5 (B8 (List.replicate (k*256) (0:UInt8))),own 186 2 (.slice none 0 0) (([] :List WW)).length (WL (([] :List WW))),manyRd (WT (([] :List WW)))] (hq:=?_)
   exact⟨p,a,rfl,rfl⟩
theorem disk_Waiting (p:Nat)(va vw:Value)(W:List WW)(off:Bool)(till:Int):Gv.Spec Tryz.prog 46 #[.pointer (some ⟨p,0,none⟩)] [blk p 153 [va,vw, .bool off, .int .i64 till],own 186 2 vw W.length (WL W)]
  (fun r H'=>r= .int .i64 (W.length:Int)∧H'= [blk p 153 [va,vw, .bool off, .int .i64 till],own 186 2 vw W.length (WL W)]):=by
 refine Gv.Spec.of (fun w h0 hw=>?_)
 refine Calls.enter Tryz.func46 rfl rfl rfl hw ?_
 simp only [argSlots]
 refine Wap ?_
 refine Ws ?_
 refine Zz 4 false ?_
 refine Ws ?_
 refine Zfn [blk p 153 [va,vw, .bool off, .int .i64 till],own 186 2 vw W.length (WL W)] (hq:=?_)
 exact⟨rfl,rfl⟩
theorem disk_Pages (p a N:Nat)(vw:Value)(off:Bool)(till:Int)(hN:N≤1000000):Gv.Spec Tryz.prog 74 #[.pointer (some ⟨p,0,none⟩)] [blk p 153 [.slice (some ⟨a,0,none⟩) N N,vw, .bool off, .int .i64 till]]
  (fun r H'=>r= .int .i64 ((N/256:Nat):Int)∧H'= [blk p 153 [.slice (some ⟨a,0,none⟩) N N,vw, .bool off, .int .i64 till]]):=by
 refine Gv.Spec.of (fun w h0 hw=>?_)
 refine Calls.enter Tryz.func74 rfl rfl rfl hw ?_
 simp only [argSlots]
 refine Wap ?_
 refine Ws ?_
 refine Zz 4 false ?_
 refine Ws ?_
 refine Zfn [blk p 153 [.slice (some ⟨a,0,none⟩) N N,vw, .bool off, .int .i64 till]] (hq:=?_)
 exact⟨by simp only [tupled];rfl,rfl⟩
theorem mayE_ok {off:Bool}{N:Nat}{i:Int}(h:mayE off N i=0):off=false∧0≤i∧i*64+64≤N:=by
 unfold mayE at h
 split at h
 ·cases h
 ·rename_i h1
  split at h
  ·cases h
  ·rename_i h2
   exact⟨by simpa using h1,by omega,by omega⟩
theorem disk_Write (p a:Nat)(vw:Value)(A:List UInt8)(W:List WW)(off:Bool)(till i:Int)(v:Value)(b:List UInt8)(h1:PH)(hr:Rd h1 v b.length (B8 b))(hA:A.length≤1000000)(hWl:W.length≤1000000)(ht: -1≤till∧till≤9223372036854775807):
  Gv.Spec Tryz.prog 129 #[.pointer (some ⟨p,0,none⟩), .int .i64 i,v] [blk p 153 [.slice (some ⟨a,0,none⟩) (A).length (A).length,vw, .bool off, .int .i64 till],blk a 5 (B8 (A)),own 186 2 vw (W).length (WL (W)),manyRd (WT (W)),Ex h1]
  (fun r H'=>(mayE off A.length i≠0∧r= .int .i64 (mayE off A.length i:Int)∧H'= [blk p 153 [.slice (some ⟨a,0,none⟩) (A).length (A).length,vw, .bool off, .int .i64 till],blk a 5 (B8 (A)),own 186 2 vw (W).length (WL (W)),manyRd (WT (W)),Ex h1])
   ∨(mayE off A.length i=0∧b.length≠64∧r= .int .i64 1∧H'= [blk p 153 [.slice (some ⟨a,0,none⟩) (A).length (A).length,vw, .bool off, .int .i64 till],blk a 5 (B8 (A)),own 186 2 vw (W).length (WL (W)),manyRd (WT (W)),Ex h1])
   ∨(mayE off A.length i=0∧b.length=64∧till=0∧r= .int .i64 2∧H'= [blk p 153 [.slice (some ⟨a,0,none⟩) (A).length (A).length,vw, .bool true, .int .i64 (-1)],blk a 5 (B8 (A)),own 186 2 vw (W).length (WL (W)),manyRd (WT (W)),Ex h1])
   ∨(mayE off A.length i=0∧b.length=64∧till≠0∧r= .int .i64 0∧ ∃vw' vc,H'= [blk p 153 [.slice (some ⟨a,0,none⟩) (A).length (A).length,vw', .bool off, .int .i64 (stopT till)],blk a 5 (B8 (A)),own 186 2 vw' (W++ [(⟨i.toNat,vc,b⟩:WW)]).length (WL (W++ [(⟨i.toNat,vc,b⟩:WW)])),manyRd (WT (W++ [(⟨i.toNat,vc,b⟩:WW)])),Ex h1])):=by
 refine Gv.Spec.of (fun w h0 hw=>?_)
 refine Calls.enter Tryz.func129 rfl rfl rfl hw ?_
 simp only [argSlots]
 refine Wap ?_
 refine Ws ?_
 refine Zd (disk_may p a A.length vw off till i hA) ?_
 refine Ws ?_
 (refine Wcd ?_ ?_<;>intro hm)
 ·refine Ws ?_
  refine Zfn [blk p 153 [.slice (some ⟨a,0,none⟩) (A).length (A).length,vw, .bool off, .int .i64 till],blk a 5 (B8 (A)),own 186 2 vw (W).length (WL (W)),manyRd (WT (W)),Ex h1] (hq:=?_)
  exact .inl ⟨by omega,rfl,rfl⟩
 ·have hm0:mayE off A.length i=0:=by omega
  have hmo:=mayE_ok hm0
  obtain⟨I,rfl⟩: ∃I:Nat,i=(I:Int):=⟨i.toNat,by omega⟩
  refine Ws ?_
  refine Zlr2 (hr:=hr) ?_
  refine Ws ?_
  (refine Wcd ?_ ?_<;>intro hl)
  ·refine Ws ?_
   refine Zfn [blk p 153 [.slice (some ⟨a,0,none⟩) (A).length (A).length,vw, .bool off, .int .i64 till],blk a 5 (B8 (A)),own 186 2 vw (W).length (WL (W)),manyRd (WT (W)),Ex h1] (hq:=?_)
   exact .inr (.inl ⟨hm0,by omega,rfl,rfl⟩)
  ·have hl':b.length=64:=by omega
   refine Ws ?_
   refine Zd (disk_stops p (.slice (some ⟨a,0,none⟩) A.length A.length) vw off till ht) ?_
   refine Ws ?_
   (refine Wcb ?_ ?_<;>intro hs)
   ·have hs':till=0:=of_decide_eq_true hs
    refine Ws ?_
    refine Zat (blk p _ _) (blk p 153 [.slice (some ⟨a,0,none⟩) A.length A.length,vw, .bool true, .int .i64 (-1)]) ?_ (e:=by rw [hs,Bool.or_true,stopT,if_pos hs'])
    refine Zfn [blk p 153 [.slice (some ⟨a,0,none⟩) (A).length (A).length,vw, .bool true, .int .i64 (-1)],blk a 5 (B8 (A)),own 186 2 vw (W).length (WL (W)),manyRd (WT (W)),Ex h1] (hq:=?_)
    exact .inr (.inr (.inl ⟨hm0,hl',hs',rfl,rfl⟩))
   ·have hs':till≠0:=of_decide_eq_false hs
    refine Zat (blk p _ _) (blk p 153 [.slice (some ⟨a,0,none⟩) A.length A.length,vw, .bool off, .int .i64 (stopT till)]) ?_ (e:=by rw [hs,Bool.or_false])
    refine Wo ?_
    (refine Wme (α:=Value×Value) (fun x=> []) (fun x=> [blk p 153 [.slice (some ⟨a,0,none⟩) (A).length (A).length,x.1, .bool off, .int .i64 (stopT till)],blk a 5 (B8 (A)),own 186 2 x.1 (W++ [(⟨I,x.2,b⟩:WW)]).length (WL (W++ [(⟨I,x.2,b⟩:WW)])),manyRd (WT (W++ [(⟨I,x.2,b⟩:WW)])),Ex h1,Ex h0]) ?_ ?_;rotate_left;rintro ⟨vw',vc⟩;(try dsimp only);rotate_left)
    ·refine Wm [Ex h1] ?_
     refine Wq [0,1,2,3] ?_
     refine Wq [5,6] ?_
     refine ZA2 4 7 ?_ ?_
     ·refine Zl ?_
      refine Zw ?_
      refine ZA 7 ?_
      refine Zcr (bytes_Clone v b (by omega)) ?_ (hpre:=by exact rdw_ex Wp hr)
      rintro vc Hc rfl
      refine Wap ?_
      (refine Tri.shape (e:=5) (size:=1) (v:=vc) Wp ?_;rintro ⟨Ac,cc,rfl⟩)
      refine Zw ?_
      refine Zm 8 (h:=fun _ _ qK=>by exact Zbu qK) (k:=?_)
      refine ZA 9 ?_
      (refine Zli (ys:= [.int .i64 (I:Int), .slice Ac b.length cc]) ?_;intro vl)
      refine Zw ?_
      refine ZA 10 ?_
      refine Zap ?_ (hr:=by exact rdw_own Wp) (hl:=by rfl) (h1:=by intro y hy;simp at hy;rcases hy with rfl | rfl<;>rfl)
      intro vw'
      (refine Tri.shape (e:=186) (size:=2) (v:=vw') Wp ?_;rintro ⟨Aw,cw,rfl⟩)
      refine Zw ?_
      refine Wq [11,12] ?_
      refine ZA 13 ?_
      refine ZS ?_ (hi:=by show 1<4;omega)
      refine Zw ?_
      refine ZE ?_
      refine Wo ?_
      (refine Tri.join (e:=5) (v:= .slice Ac b.length cc) (l:=WT W) Wp Wp ?_)
      refine Zat (manyRd _) (manyRd (WT (W++ [(⟨I, .slice Ac b.length cc,b⟩:WW)]))) ?_ (e:=by rw [WT_append];rfl)
      refine Zat (own 186 2 (.slice Aw (W.length+1) cw) _ _) (own 186 2 (.slice Aw (W.length+1) cw) (W++ [(⟨I, .slice Ac b.length cc,b⟩:WW)]).length (WL (W++ [(⟨I, .slice Ac b.length cc,b⟩:WW)]))) ?_ (e:=by rw [WL_append,lAp];rfl)
      exact Zrc (.slice Aw (W.length+1) cw, .slice Ac b.length cc)
     ·refine Zcr (bytes_Clone v b (by omega)) ?_ (hpre:=by exact rdw_ex Wp hr)
      rintro vc Hc rfl
      refine Wap ?_
      (refine Tri.shape (e:=5) (size:=1) (v:=vc) Wp ?_;rintro ⟨Ac,cc,rfl⟩)
      refine Zw ?_
      refine Zm 8 (h:=fun _ _ qK=>by exact Zbu qK) (k:=?_)
      refine ZA2 4 9 ?_ ?_
      ·refine Zl ?_
       refine Zw ?_
       refine ZA 9 ?_
       (refine Zli (ys:= [.int .i64 (I:Int), .slice Ac b.length cc]) ?_;intro vl)
       refine Zw ?_
       refine ZA 10 ?_
       refine Zap ?_ (hr:=by exact rdw_own Wp) (hl:=by rfl) (h1:=by intro y hy;simp at hy;rcases hy with rfl | rfl<;>rfl)
       intro vw'
       (refine Tri.shape (e:=186) (size:=2) (v:=vw') Wp ?_;rintro ⟨Aw,cw,rfl⟩)
       refine Zw ?_
       refine Wq [11,12] ?_
       refine ZA 13 ?_
       refine ZS ?_ (hi:=by show 1<4;omega)
       refine Zw ?_
       refine ZE ?_
       refine Wo ?_
       (refine Tri.join (e:=5) (v:= .slice Ac b.length cc) (l:=WT W) Wp Wp ?_)
       refine Zat (manyRd _) (manyRd (WT (W++ [(⟨I, .slice Ac b.length cc,b⟩:WW)]))) ?_ (e:=by rw [WT_append];rfl)
       refine Zat (own 186 2 (.slice Aw (W.length+1) cw) _ _) (own 186 2 (.slice Aw (W.length+1) cw) (W++ [(⟨I, .slice Ac b.length cc,b⟩:WW)]).length (WL (W++ [(⟨I, .slice Ac b.length cc,b⟩:WW)]))) ?_ (e:=by rw [WL_append,lAp];rfl)
       exact Zrc (.slice Aw (W.length+1) cw, .slice Ac b.length cc)
      ·(refine Zli (ys:= [.int .i64 (I:Int), .slice Ac b.length cc]) ?_;intro vl)
       refine Zw ?_
       refine ZA 4 ?_
       refine Zl ?_
       refine Zw ?_
       refine ZA 10 ?_
       refine Zap ?_ (hr:=by exact rdw_own Wp) (hl:=by rfl) (h1:=by intro y hy;simp at hy;rcases hy with rfl | rfl<;>rfl)
       intro vw'
       (refine Tri.shape (e:=186) (size:=2) (v:=vw') Wp ?_;rintro ⟨Aw,cw,rfl⟩)
       refine Zw ?_
       refine Wq [11,12] ?_
       refine ZA 13 ?_
       refine ZS ?_ (hi:=by show 1<4;omega)
       refine Zw ?_
       refine ZE ?_
       refine Wo ?_
       (refine Tri.join (e:=5) (v:= .slice Ac b.length cc) (l:=WT W) Wp Wp ?_)
       refine Zat (manyRd _) (manyRd (WT (W++ [(⟨I, .slice Ac b.length cc,b⟩:WW)]))) ?_ (e:=by rw [WT_append];rfl)
       refine Zat (own 186 2 (.slice Aw (W.length+1) cw) _ _) (own 186 2 (.slice Aw (W.length+1) cw) (W++ [(⟨I, .slice Ac b.length cc,b⟩:WW)]).length (WL (W++ [(⟨I, .slice Ac b.length cc,b⟩:WW)]))) ?_ (e:=by rw [WL_append,lAp];rfl)
       exact Zrc (.slice Aw (W.length+1) cw, .slice Ac b.length cc)
    ·refine Ws ?_
     refine Zfn [blk p 153 [.slice (some ⟨a,0,none⟩) (A).length (A).length,vw', .bool off, .int .i64 (stopT till)],blk a 5 (B8 (A)),own 186 2 vw' (W++ [(⟨I,vc,b⟩:WW)]).length (WL (W++ [(⟨I,vc,b⟩:WW)])),manyRd (WT (W++ [(⟨I,vc,b⟩:WW)])),Ex h1] (hq:=?_)
     exact .inr (.inr (.inr ⟨hm0,hl',hs',rfl,vw',vc,rfl⟩))
theorem disk_Read (p a:Nat)(vw:Value)(A:List UInt8)(W:List WW)(off:Bool)(till i:Int)(hA:A.length≤1000000)(hW:WOk A.length W)(hWl:W.length≤1000000):
  Gv.Spec Tryz.prog 171 #[.pointer (some ⟨p,0,none⟩), .int .i64 i] [blk p 153 [.slice (some ⟨a,0,none⟩) (A).length (A).length,vw, .bool off, .int .i64 till],blk a 5 (B8 (A)),own 186 2 vw (W).length (WL (W)),manyRd (WT (W))]
  (fun r H'=>(mayE off A.length i≠0∧r= .tuple #[.slice none 0 0, .int .i64 (mayE off A.length i:Int)] ∧H'= [blk p 153 [.slice (some ⟨a,0,none⟩) (A).length (A).length,vw, .bool off, .int .i64 till],blk a 5 (B8 (A)),own 186 2 vw (W).length (WL (W)),manyRd (WT (W))])
   ∨(mayE off A.length i=0∧ ∃v,r= .tuple #[v, .int .i64 0] ∧H'= [own 5 1 v (readM A W i).length (B8 (readM A W i)),blk p 153 [.slice (some ⟨a,0,none⟩) (A).length (A).length,vw, .bool off, .int .i64 till],blk a 5 (B8 (A)),own 186 2 vw (W).length (WL (W)),manyRd (WT (W))])):=by
 refine Gv.Spec.of (fun w h0 hw=>?_)
 refine Calls.enter Tryz.func171 rfl rfl rfl hw ?_
 simp only [argSlots]
 refine Wap ?_
 refine Ws ?_
 refine Zd (disk_may p a A.length vw off till i hA) ?_
 refine Ws ?_
 (refine Wcd ?_ ?_<;>intro hm)
 ·refine Ws ?_
  refine Zfn [blk p 153 [.slice (some ⟨a,0,none⟩) (A).length (A).length,vw, .bool off, .int .i64 till],blk a 5 (B8 (A)),own 186 2 vw (W).length (WL (W)),manyRd (WT (W))] (hq:=?_)
  exact .inl ⟨by omega,rfl,rfl⟩
 ·have hm0:mayE off A.length i=0:=by omega
  have hmo:=mayE_ok hm0
  obtain⟨I,rfl⟩: ∃I:Nat,i=(I:Int):=⟨i.toNat,by omega⟩
  refine Ws ?_
  (refine Wl (α:={ k:Nat//k≤W.length∧lastW W (I:Int) W.length=lastW W (I:Int) k }) (fun x=>x.1) (fun x=> [(0, .pointer (some ⟨p,0,none⟩)),(1, .int .i64 (I:Int)),(7, .int .i64 ((x.1:Int)-1))]) (fun x=> [blk p 153 [.slice (some ⟨a,0,none⟩) (A).length (A).length,vw, .bool off, .int .i64 till],blk a 5 (B8 (A)),own 186 2 vw (W).length (WL (W)),manyRd (WT (W)),Ex h0]) ⟨W.length,Nat.le_refl _,rfl⟩ ?_;rintro ⟨k,hk,hl⟩ mx hmx;(try dsimp only at hmx ⊢))
  refine Ws ?_
  (refine Wcd ?_ ?_<;>intro hc)
  ·obtain⟨j,rfl⟩: ∃j,k=j+1:=⟨k-1,by omega⟩
   have hj:j<W.length:=by omega
   refine Ws ?_
   refine Zix (j:=j) ?_ (hj:=by omega) (hlt:=by exact hj)
   refine Ws ?_
   refine Zlo ?_ (hv:=by exact WL_get0 W j hj)
   refine Ws ?_
   (refine Wcd ?_ ?_<;>intro hq)
   ·refine Ws ?_
    refine Zix (j:=j) ?_ (hj:=by omega) (hlt:=by exact hj)
    refine Ws ?_
    refine Zlo ?_ (hv:=by exact WL_get1 W j hj)
    refine Ws ?_
    refine Zcr (bytes_Clone (W[j]'hj).v (W[j]'hj).b (by have:=(hW.get hj).2;omega)) ?_ (hpre:=by exact rdw_many Wp (WT_mem W j hj))
    rintro v Hc rfl
    refine Wap ?_
    refine Ws ?_
    have e:readM A W (I:Int)=(W[j]'hj).b:=by
     rw [readM,hl,lastW_hit hj hq];rfl
    refine Zat (own 5 1 v _ _) (own 5 1 v (readM A W (I:Int)).length (B8 (readM A W (I:Int)))) ?_ (e:=by rw [e])
    refine Zfn [own 5 1 v (readM A W (I:Int)).length (B8 (readM A W (I:Int))),blk p 153 [.slice (some ⟨a,0,none⟩) (A).length (A).length,vw, .bool off, .int .i64 till],blk a 5 (B8 (A)),own 186 2 vw (W).length (WL (W)),manyRd (WT (W))] (hq:=?_)
    exact .inr ⟨hm0,v,rfl,rfl⟩
   ·refine Ws ?_
    refine Zi 7 ((j:Int)-1) ?_ (hi:=by omega)
    exact Zag ⟨j,by omega,by rw [hl,lastW_miss hj hq]⟩
  ·obtain rfl:k=0:=by omega
   have e:readM A W (I:Int)=(A.drop (I*64)).take 64:=by
    rw [readM,hl];rfl
   have hel:((A.drop (I*64)).take 64).length=64:=by rw [lTk,lDp];omega
   refine Ws ?_
   refine Zd (disk_sector p a A.length I vw off till hA (by omega)) ?_
   refine Ws ?_
   refine Zcr (bytes_Clone (.slice (some ⟨a,I*64,none⟩) 64 (A.length-I*64)) ((A.drop (I*64)).take 64) (by omega)) ?_ (hpre:=by rw [hel];exact rdw_blkAt Wp ⟨by omega,by omega⟩ (by rw [B8_length,hel,B8,B8,List.map_take,List.map_drop]))
   rintro v Hc rfl
   refine Wap ?_
   refine Ws ?_
   refine Zat (own 5 1 v _ _) (own 5 1 v (readM A W (I:Int)).length (B8 (readM A W (I:Int)))) ?_ (e:=by rw [e])
   refine Zfn [own 5 1 v (readM A W (I:Int)).length (B8 (readM A W (I:Int))),blk p 153 [.slice (some ⟨a,0,none⟩) (A).length (A).length,vw, .bool off, .int .i64 till],blk a 5 (B8 (A)),own 186 2 vw (W).length (WL (W)),manyRd (WT (W))] (hq:=?_)
   exact .inr ⟨hm0,v,rfl,rfl⟩
theorem many_one {W:List WW}{h:PH}(hm:manyRd (WT W) h){k:Nat}(hk:k<W.length):(W[k]'hk).v.oneCell'=true:=by
 obtain⟨A,c,e,_⟩:=hm _ (WT_mem W k hk)
 simp only at e
 rw [e];rfl
theorem flush_take (A:List UInt8)(W:List WW)(k:Nat)(hk:k<W.length):flushM A (W.take (k+1))=putAt (flushM A (W.take k)) ((W[k]'hk).i*64) (W[k]'hk).b:=by
 rw [flushM,List.take_succ_eq_append_getElem hk,List.foldl_append];rfl
theorem WOk.take {N:Nat}{W:List WW}(h:WOk N W)(k:Nat):WOk N (W.take k):=fun x hx=>h x (List.mem_of_mem_take hx)
theorem disk_Flush (p a:Nat)(vw:Value)(A:List UInt8)(W:List WW)(off:Bool)(till:Int)(hA:A.length≤1000000)(hW:WOk A.length W)(hWl:W.length≤1000000)(ht: -1≤till∧till≤9223372036854775807):
  Gv.Spec Tryz.prog 77 #[.pointer (some ⟨p,0,none⟩)] [blk p 153 [.slice (some ⟨a,0,none⟩) (A).length (A).length,vw, .bool off, .int .i64 till],blk a 5 (B8 (A)),own 186 2 vw (W).length (WL (W)),manyRd (WT (W))]
  (fun r H'=>(off=true∧r= .int .i64 2∧H'= [blk p 153 [.slice (some ⟨a,0,none⟩) (A).length (A).length,vw, .bool off, .int .i64 till],blk a 5 (B8 (A)),own 186 2 vw (W).length (WL (W)),manyRd (WT (W))])
   ∨(off=false∧till=0∧r= .int .i64 2∧H'= [blk p 153 [.slice (some ⟨a,0,none⟩) (A).length (A).length,vw, .bool true, .int .i64 (-1)],blk a 5 (B8 (A)),own 186 2 vw (W).length (WL (W)),manyRd (WT (W))])
   ∨(off=false∧till≠0∧r= .int .i64 0∧H'= [blk p 153 [.slice (some ⟨a,0,none⟩) (flushM A W).length (flushM A W).length,(.slice none 0 0), .bool false, .int .i64 (stopT till)],blk a 5 (B8 (flushM A W)),own 186 2 (.slice none 0 0) (([] :List WW)).length (WL (([] :List WW))),manyRd (WT (([] :List WW)))])):=by
 refine Gv.Spec.of (fun w h0 hw=>?_)
 refine Calls.enter Tryz.func77 rfl rfl rfl hw ?_
 simp only [argSlots]
 refine Wap ?_
 refine Ws ?_
 refine Zz 5 false ?_
 refine Ws ?_
 (refine ZcB 13 ?_ ?_<;>intro h1)
 ·refine Ws ?_
  refine Zfn [blk p 153 [.slice (some ⟨a,0,none⟩) (A).length (A).length,vw, .bool off, .int .i64 till],blk a 5 (B8 (A)),own 186 2 vw (W).length (WL (W)),manyRd (WT (W))] (hq:=?_)
  exact .inl ⟨h1,rfl,rfl⟩
 ·refine Ws ?_
  refine Zd (disk_stops p (.slice (some ⟨a,0,none⟩) A.length A.length) vw off till ht) ?_
  refine Ws ?_
  (refine Wcb ?_ ?_<;>intro hs)
  ·have hs':till=0:=of_decide_eq_true hs
   refine Ws ?_
   refine Zat (blk p _ _) (blk p 153 [.slice (some ⟨a,0,none⟩) A.length A.length,vw, .bool true, .int .i64 (-1)]) ?_ (e:=by rw [hs,Bool.or_true,stopT,if_pos hs'])
   refine Zfn [blk p 153 [.slice (some ⟨a,0,none⟩) (A).length (A).length,vw, .bool true, .int .i64 (-1)],blk a 5 (B8 (A)),own 186 2 vw (W).length (WL (W)),manyRd (WT (W))] (hq:=?_)
   exact .inr (.inl ⟨h1,hs',rfl,rfl⟩)
  ·have hs':till≠0:=of_decide_eq_false hs
   refine Zat (blk p _ _) (blk p 153 [.slice (some ⟨a,0,none⟩) A.length A.length,vw, .bool false, .int .i64 (stopT till)]) ?_ (e:=by rw [hs,Bool.or_false,h1])
   refine Ws ?_
   (refine Wl (α:={ k:Nat//k≤W.length }) (fun x=>W.length-x.1) (fun x=> [(0, .pointer (some ⟨p,0,none⟩)),(20,vw),(21, .int .i64 (W.length:Int)),(22, .int .i64 (x.1:Int))]) (fun x=> [blk p 153 [.slice (some ⟨a,0,none⟩) A.length A.length,vw, .bool false, .int .i64 (stopT till)],blk a 5 (B8 (flushM A (W.take x.1))),own 186 2 vw W.length (WL W),manyRd (WT W),Ex h0]) ⟨0,Nat.zero_le _⟩ ?_;rintro ⟨k,hk⟩ mx hmx;(try dsimp only at hmx ⊢))
   have hfl:(flushM A (W.take k)).length=A.length:=flush_length _ _ (hW.take k) rfl
   refine Ws ?_
   (refine Wcd ?_ ?_<;>intro hc)
   ·have hj:k<W.length:=by omega
    obtain⟨q1,q2⟩:=hW.get hj
    refine Ws ?_
    refine Zix (j:=k) ?_ (hj:=by rfl) (hlt:=by exact hj)
    refine Ws ?_
    refine Zlq ?_ (hv:=by exact WL_two W k hj) (hl:=by rfl)
    refine Ws ?_
    refine Zal fun b4=>?_
    refine Ws ?_
    (refine Tri.know (A:=manyRd (WT W)) Wp (fun h hm=>many_one hm hj) (fun hone=>?_))
    refine ZSa ?_ (h1:=by intro y hy;simp at hy;rcases hy with rfl | rfl;rfl;exact hone)
    refine Ws ?_
    refine Wm [blk b4 186 [.int .i64 ((W[k]'hj).i:Int),(W[k]'hj).v],blk p 153 [.slice (some ⟨a,0,none⟩) A.length A.length,vw, .bool false, .int .i64 (stopT till)]] ?_
    refine Wq [0,1,2,4,5] ?_
    refine ZA 3 ?_
    refine Zd (disk_sector p a A.length (W[k]'hj).i vw false (stopT till) hA q1) ?_
    refine Zw ?_
    refine ZA 6 ?_
    refine ZocopyB (q:=64) (m:=64) ?_ (hr:=by have hq:=WT_mem W k hj;rw [q2] at hq;exact rdw_many Wp hq) (hl:=by rw [B8_length];exact q2) (hfit:=by rw [B8_length,hfl];omega) (h1:=by exact B8_one _)
    refine Zw ?_
    refine ZE ?_
    have e:(B8 (flushM A (W.take k))).take ((W[k]'hj).i*64)++(B8 (W[k]'hj).b).take 64++(B8 (flushM A (W.take k))).drop ((W[k]'hj).i*64+64)=B8 (flushM A (W.take (k+1))):=by
     rw [List.take_of_length_le (l:=B8 (W[k]'hj).b) (by rw [B8_length];omega),putAt_B8 _ _ _ 64 q2.symm,flush_take A W k hj]
    refine Zat (blk a _ _) (blk a 5 (B8 (flushM A (W.take (k+1))))) ?_ (e:=by exact congrArg _ e)
    refine Ws ?_
    exact Zag ⟨k+1,by omega⟩
   ·have hke:k=W.length:=by omega
    refine Ws ?_
    refine ZS ?_ (hi:=by show 1<4;omega)
    refine Ws ?_
    refine Zat (blk a _ _) (blk a 5 (B8 (flushM A W))) ?_ (e:=by rw [hke,List.take_length])
    refine Zat (blk p _ _) (blk p 153 [.slice (some ⟨a,0,none⟩) (flushM A W).length (flushM A W).length, .slice none 0 0, .bool false, .int .i64 (stopT till)]) ?_ (e:=by rw [flush_length W A hW rfl];rfl)
    (with_reducible apply Tri.ownNil 186 2)
    refine Zat (own 186 2 (.slice none 0 0) 0 []) (own 186 2 (.slice none 0 0) ([] :List WW).length (WL ([] :List WW))) ?_
    (refine Tri.pure_ (A:=manyRd (WT [])) manyRd_nil ?_)
    refine Zfn [blk p 153 [.slice (some ⟨a,0,none⟩) (flushM A W).length (flushM A W).length,(.slice none 0 0), .bool false, .int .i64 (stopT till)],blk a 5 (B8 (flushM A W)),own 186 2 (.slice none 0 0) (([] :List WW)).length (WL (([] :List WW))),manyRd (WT (([] :List WW)))] (hq:=?_)
    exact .inr (.inr ⟨h1,hs',rfl,rfl⟩)
def DSK (p:Nat)(S:DS):Atom:=Gv.exA (fun z:Nat×Value×{ W:List WW//WP2 W=S.W }=>Gv.star [blk p 153 [.slice (some ⟨z.1,0,none⟩) (S.A).length (S.A).length,z.2.1, .bool S.off, .int .i64 S.till],blk z.1 5 (B8 (S.A)),own 186 2 z.2.1 (z.2.2.1).length (WL (z.2.2.1)),manyRd (WT (z.2.2.1))])
theorem dsk_open {w0 w:World}{H:List Atom}{p:Nat}{S:DS}(h:St w0 w (DSK p S::H)): ∃a vw W,WP2 W=S.W∧St w0 w ([blk p 153 [.slice (some ⟨a,0,none⟩) (S.A).length (S.A).length,vw, .bool S.off, .int .i64 S.till],blk a 5 (B8 (S.A)),own 186 2 vw (W).length (WL (W)),manyRd (WT (W))] ++H):=by
 obtain⟨⟨a,vw,W,hW⟩,h1⟩:=St.exA h
 exact⟨a,vw,W,hW,St.unstar h1⟩
theorem dsk_close {w0 w:World}{H:List Atom}{p a:Nat}{vw:Value}{W:List WW}{S:DS}(hW:WP2 W=S.W)(h:St w0 w ([blk p 153 [.slice (some ⟨a,0,none⟩) (S.A).length (S.A).length,vw, .bool S.off, .int .i64 S.till],blk a 5 (B8 (S.A)),own 186 2 vw (W).length (WL (W)),manyRd (WT (W))] ++H)):St w0 w (DSK p S::H):=
 St.toExA (A:=fun z:Nat×Value×{ W:List WW//WP2 W=S.W }=>Gv.star [blk p 153 [.slice (some ⟨z.1,0,none⟩) (S.A).length (S.A).length,z.2.1, .bool S.off, .int .i64 S.till],blk z.1 5 (B8 (S.A)),own 186 2 z.2.1 (z.2.2.1).length (WL (z.2.2.1)),manyRd (WT (z.2.2.1))]) (a,vw,⟨W,hW⟩) (St.star h)
theorem WP2_ok {W:List WW}{S:DS}(h:S.ok)(hW:WP2 W=S.W):WOk S.A.length W:=fun x hx=>by
 have:=h.2.2 (x.i,x.b) (by rw [←hW];exact List.mem_map.2 ⟨x,hx,rfl⟩)
 exact this
theorem WP2_len {W:List WW}{S:DS}(hW:WP2 W=S.W):W.length=S.W.length:=by rw [←hW];simp [WP2]
theorem disk_ReadD (p:Nat)(S:DS)(i:Int)(hS:S.ok)(hl:S.W.length≤1000000):
  Gv.Spec Tryz.prog 171 #[.pointer (some ⟨p,0,none⟩), .int .i64 i] [DSK p S]
  (fun r H'=>(mayE S.off S.A.length i≠0∧r= .tuple #[.slice none 0 0, .int .i64 (mayE S.off S.A.length i:Int)] ∧H'= [DSK p S])
   ∨(mayE S.off S.A.length i=0∧ ∃v,r= .tuple #[v, .int .i64 0] ∧H'= [DSK p S,own 5 1 v 64 (B8 (sec S.V i.toNat))])):=fun w0 w H hw=>by
 obtain⟨a,vw,W,hW,h1⟩:=dsk_open hw
 have hWl:=WP2_len hW
 refine(disk_Read p a vw S.A W S.off S.till i hS.1 (WP2_ok hS hW) (by omega) w0 w H h1).mono ?_
 intro e w' he
 cases e with
 | returned v=>
  obtain⟨H',hR,h2⟩:=he
  rcases hR with ⟨hm,hr,rfl⟩ | ⟨hm,u,hr,rfl⟩
  ·exact⟨_, .inl ⟨hm,hr,rfl⟩,dsk_close hW h2⟩
  ·obtain⟨_,hi0,hi1⟩:=mayD_ok hm
   have e1:readM S.A W i=sec S.V i.toNat:=by
    have:=readM_sec (WP2_ok hS hW) i.toNat
    rw [show ((i.toNat:Nat):Int)=i by omega] at this
    rw [this, ←flW_WP,hW];rfl
   have hVl:=DS.V_length hS
   have e2:(sec S.V i.toNat).length=64:=sec_length (by omega)
   rw [e1,e2] at h2
   exact⟨_, .inr ⟨hm,u,hr,rfl⟩,dsk_close hW (St.unrot h2)⟩
 | panicked c=>exact he.elim
 | outgrown=>exact he.elim
theorem disk_WriteD (p:Nat)(S:DS)(i:Int)(v:Value)(b:List UInt8)(h1:PH)(hr:Rd h1 v b.length (B8 b))(hS:S.ok)(hl:S.W.length≤1000000):
  Gv.Spec Tryz.prog 129 #[.pointer (some ⟨p,0,none⟩), .int .i64 i,v] [DSK p S,Ex h1]
  (fun r H'=>r= .int .i64 ((S.wr i b).2:Int)∧H'= [DSK p (S.wr i b).1,Ex h1]):=fun w0 w H hw=>by
 obtain⟨a,vw,W,hW,h2⟩:=dsk_open hw
 have hWl:=WP2_len hW
 refine(disk_Write p a vw S.A W S.off S.till i v b h1 hr hS.1 (by omega) hS.2.1 w0 w H h2).mono ?_
 intro e w' he
 cases e with
 | returned u=>
  obtain⟨H',hR,h3⟩:=he
  refine⟨[DSK p (S.wr i b).1,Ex h1],⟨?_,rfl⟩, ?_⟩
  ·rcases hR with ⟨hm,hr,rfl⟩ | ⟨hm,hb,hr,rfl⟩ | ⟨hm,hb,ht,hr,rfl⟩ | ⟨hm,hb,ht,hr,vw',vc,rfl⟩
   ·rw [hr,DS.wr,if_pos hm]
   ·rw [hr,DS.wr,if_neg (by rw [hm];simp),if_pos hb];rfl
   ·rw [hr,DS.wr,if_neg (by rw [hm];simp),if_neg (by rw [hb];simp),if_pos ht];rfl
   ·rw [hr,DS.wr,if_neg (by rw [hm];simp),if_neg (by rw [hb];simp),if_neg ht];rfl
  ·rcases hR with ⟨hm,hr,rfl⟩ | ⟨hm,hb,hr,rfl⟩ | ⟨hm,hb,ht,hr,rfl⟩ | ⟨hm,hb,ht,hr,vw',vc,rfl⟩
   ·rw [DS.wr,if_pos hm];exact dsk_close hW h3
   ·rw [DS.wr,if_neg (by rw [hm];simp),if_pos hb];exact dsk_close hW h3
   ·rw [DS.wr,if_neg (by rw [hm];simp),if_neg (by rw [hb];simp),if_pos ht]
    exact dsk_close (S:={ S with off:=true,till:= -1 }) hW h3
   ·rw [DS.wr,if_neg (by rw [hm];simp),if_neg (by rw [hb];simp),if_neg ht]
    refine dsk_close (S:={ S with W:=S.W++ [(i.toNat,b)],till:=stopT S.till }) (W:=W++ [⟨i.toNat,vc,b⟩]) (by simp [WP2, ←hW]) h3
 | panicked c=>exact he.elim
 | outgrown=>exact he.elim
end Go.Proofs.YtcglabmlhljkmaaGreat
