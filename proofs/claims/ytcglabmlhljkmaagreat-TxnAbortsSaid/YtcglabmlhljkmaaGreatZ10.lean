/- Texts of this claim, put together: TxActRead. -/
import Derived.Test.YtcglabmlhljkmaaGreatZ09
import Derived.Test.YtcglabmlhljkmaaGreatZ07
import Derived.Test.YtcglabmlhljkmaaGreatZ00
set_option maxHeartbeats 64000000
set_option linter.unusedVariables false
set_option linter.unusedSimpArgs false
namespace Go.Proofs.YtcglabmlhljkmaaGreat
open Go Go.RowKit Go.Gv
theorem rds_slVb {P:Program}{W:World}{f:Nat}{t e:TypeId}(hu:P.underlying t=some (.slice e)){cs:List Value}(h:Rds P W f t cs): ∃A n c,cs= [.slice A n c] :=by
 cases f with
 | zero=>exact h.elim
 | succ f=>
  unfold Rds at h
  simp only [hu] at h
  rcases h with h | ⟨a,len,cap,h,_⟩
  ·exact⟨_,_,_,h⟩
  ·exact⟨_,_,_,h⟩
theorem list7 {α:Type}{l:List α}(h:l.length=7): ∃x y z u v p q,l= [x,y,z,u,v,p,q] :=by
 match l,h with
 | [x,y,z,u,v,p,q],_=>exact⟨x,y,z,u,v,p,q,rfl⟩
theorem acx_of {P:Program}{W:World}{f:Nat}{t1 t2 tb tk e eb:TypeId}{a b c d g p q:Value}(h1:P.underlying t1=some (.int .i64))(h2:P.underlying t2=some (.int .i64))(hb:P.underlying tb=some (.slice e))(he:P.underlying e=some (.int .u8))(hs:P.cellsOf e=1)(hk:P.underlying tk=some (.slice eb))(hkb:P.underlying eb=some .bool)(hsb:P.cellsOf eb=1)
  (r1:Rds P W f t1 [a]) (r2:Rds P W f t1 [b]) (r3:Rds P W f t2 [c]) (r4:Rds P W f t1 [d]) (r5:Rds P W f t1 [g]) (r6:Rds P W f tk [p]) (r7:Rds P W f tb [q]): ∃x:ACX, [a,b,c,d,g,p,q] =x.L∧acxOk W x:=by
 obtain⟨k1,e1,_⟩:=rds_int h1 r1
 obtain⟨k2,e2,_⟩:=rds_int h1 r2
 obtain⟨k3,e3,n3⟩:=rds_int h2 r3
 obtain⟨k4,e4,_⟩:=rds_int h1 r4
 obtain⟨k5,e5,_⟩:=rds_int h1 r5
 obtain⟨A6,l6,c6,e6⟩:=rds_slVb hk r6
 obtain⟨A7,l7,c7,e7⟩:=rds_slVb hb r7
 rw [e6] at r6
 rw [e7] at r7
 obtain⟨K,hK,hr6⟩:=rds_bools hk hkb hsb ⟨f,r6⟩
 obtain⟨U,hU,hr7⟩:=rds_bytes hb he hs ⟨f,r7⟩
 simp only [List.cons.injEq,and_true] at e1 e2 e3 e4 e5 e6 e7
 subst e1;subst e2;subst e3;subst e4;subst e5;subst e6;subst e7
 subst hK;subst hU
 exact⟨⟨k1,k2,k3,k4,k5,_,_,K,U⟩,rfl,hr6,hr7,n3⟩
theorem rds_acx1 {W:World}{f:Nat}{cs:List Value}(h:Rds Tryz.prog W f 105 cs): ∃x:ACX,cs=x.L∧acxOk W x:=by
 cases f with
 | zero=>exact h.elim
 | succ f=>
  unfold Rds at h
  simp only [Tryz.underlying105] at h
  obtain⟨hl,h⟩:=h
  have hc:Tryz.prog.cellsOf 105=7:=by kernel_rfl
  have c1:Tryz.prog.cellsOf 3=1:=by kernel_rfl
  have c0:Tryz.prog.cellsOf 2=1:=by kernel_rfl
  have c2:Tryz.prog.cellsOf 86=1:=by kernel_rfl
  have c3:Tryz.prog.cellsOf 103=1:=by kernel_rfl
  have c4:Tryz.prog.cellsOf 5=1:=by kernel_rfl
  have c5:Tryz.prog.cellsOf 4=1:=by kernel_rfl
  rw [hc] at hl
  have h1:=h _ (List.mem_cons_self ..)
  have h2:=h _ (mCm _ (List.mem_cons_self ..))
  have h3:=h _ (mCm _ (mCm _ (List.mem_cons_self ..)))
  have h4:=h _ (mCm _ (mCm _ (mCm _ (List.mem_cons_self ..))))
  have h5:=h _ (mCm _ (mCm _ (mCm _ (mCm _ (List.mem_cons_self ..)))))
  have h6:=h _ (mCm _ (mCm _ (mCm _ (mCm _ (mCm _ (List.mem_cons_self ..))))))
  have h7:=h _ (mCm _ (mCm _ (mCm _ (mCm _ (mCm _ (mCm _ (List.mem_cons_self ..)))))))
  simp only [c0,c1,c2,c3] at h1 h2 h3 h4 h5 h6 h7
  obtain⟨x,y,z,u,v,p,q,rfl⟩:=list7 hl
  exact acx_of Tryz.underlying3 Tryz.underlying2 Tryz.underlying86 Tryz.underlying5 c4 Tryz.underlying103 Tryz.underlying4 c5 h1 h2 h3 h4 h5 h6 h7
theorem acx_flat {P:Program}{W:World}{f:Nat}{e:TypeId}(hone: ∀ys,Rds P W f e ys→ ∃x:ACX,ys=x.L∧acxOk W x): ∀Ls:List (List Value),(∀ys∈Ls,ys.length=7∧Rds P W f e ys)→ ∃l:List ACX,l.length=Ls.length∧Ls.flatten=AXL l∧ ∀x∈l,acxOk W x
 | [],_=>⟨[],rfl,rfl,fun x hx=>by cases hx⟩
 | y::Ls,hh=>by
  obtain⟨l,e1,e2,e3⟩:=acx_flat hone Ls (fun z hz=>hh z (mCm _ hz))
  obtain⟨q,rfl,hq⟩:=hone _ (hh y (List.mem_cons_self ..)).2
  refine⟨q::l,by simp [e1],by rw [List.flatten_cons,e2];rfl,fun x hx=>?_⟩
  rcases List.mem_cons.1 hx with rfl | hx
  ·exact hq
  ·exact e3 x hx
theorem acx_all {P:Program}{W:World}{t e:TypeId}(hu:P.underlying t=some (.slice e))(hc:P.cellsOf e=7)(hone: ∀f ys,Rds P W f e ys→ ∃x:ACX,ys=x.L∧acxOk W x){a:Option Addr}{len cap:Nat}(h: ∃f,Rds P W f t [.slice a len cap]): ∃l:List ACX,RdW W (.slice a len cap) l.length (AXL l)∧ ∀x∈l,acxOk W x:=by
 obtain⟨f,h⟩:=h
 cases f with
 | zero=>exact h.elim
 | succ f=>
  obtain⟨Ls,h1,h2,h3⟩:=rds_slice hu hc (by omega) h
  obtain⟨l,e1,e2,e3⟩:=acx_flat (hone f) Ls h2
  refine⟨l, ?_,e3⟩
  rw [e1,h1, ←e2];exact h3
theorem rds_acx {W:World}{t:TypeId}(hu:Tryz.prog.underlying t=some (.slice 105)){a:Option Addr}{len cap:Nat}(h: ∃f,Rds Tryz.prog W f t [.slice a len cap]): ∃l:List ACX,RdW W (.slice a len cap) l.length (AXL l)∧ ∀x∈l,acxOk W x:=by
 have hc:Tryz.prog.cellsOf 105=7:=by kernel_rfl
 exact acx_all hu hc (fun f ys=>rds_acx1) h
end Go.Proofs.YtcglabmlhljkmaaGreat
