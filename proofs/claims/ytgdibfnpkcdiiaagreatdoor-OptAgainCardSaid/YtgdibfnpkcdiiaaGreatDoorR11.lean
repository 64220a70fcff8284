/- Joint text: EvU, EvV, EvW, EvZ, EwA. By an AI agent. -/
import Derived.Test.YtgdibfnpkcdiiaaGreatDoorRzy
import Derived.Test.YtgdibfnpkcdiiaaGreatDoorR10
import Derived.Defers
import Derived.LoopN
set_option linter.all false
set_option maxRecDepth 100000
set_option maxHeartbeats 64000000
namespace Go.Proofs.YtgdibfnpkcdiiaaGreatDoor
namespace Ev
section
variable {P:Program}{K:Kon}{o:Oper}{g:Gh}{st:St}{w:World}
theorem TR.map'{R nR x:Nat}{v:Value}(h:TR g R nR x v)(hm:x%16=8):∃blk,v=.map (some blk)/\x/16<16777216/\g.rho (x/16)=.map blk:=by obtain⟨s,blk,rfl,e,h1,h2⟩:=(h.aP oqo oqo oqo oqo).Bh hm;rw[PQ];exact⟨blk,e,h1,h2⟩
theorem D8{R nR x:Nat}{v:Value}{b:TypeDesc}(h:TR g R nR x v)(hm:x%16=gN b)(h0:gN b≠0):VR g x v:=by
 have:gN b=3\/gN b=2:=by cases b<;>simp_all[gN]
 exact h.aP oqo oqo oqo oqo
theorem TE{M s b nv:Nat}{ws:List Nat}{v:Value}(h:uG g ws b nv v)(hr:∀i,i<ws.length->gt M (s+i)=ws.getD i 0)(c:b+(if nv=0 then 1 else nv)<=ws.length):if nv=0 then VR g (ch M (s+b) 1) v else∃vs:Array Value,v=.agg vs/\vs.size=nv/\∀i,i<nv->VR g (gt (ch M (s+b) nv) i) (vs.getD i undef):=by
 unfold uG at h;split;·rename_i h0;rw[qzb h0]at h c;rw[<-Rf,hr _ oqo];exact h
 ·rename_i h0;rw[qzc h0]at h c;obtain⟨vs,d,e,j⟩:=h;refine⟨vs,d,e,λi hi=>?_⟩;rw[jF,qzb hi,jqp,hr _ oqo];exact j i hi
theorem Dl{t kt el:TypeId}{W:TypeDesc}{nv:Nat}{m k x:Operand}(ho:o.op=.insert t m k x\/o.op=.mapUpdate t m k x)(ht:P.underlying t=some (.map kt el))(hd:P.underlying kt=some W)(h0:gN W≠0)(hv:nv<256):OpV P K o (CU (gN W) nv (cOp K m) (cOp K k) (cOp K x)):=λg st a w z st' hk D U e=>by
 have Y:m∈o.op.operands/\k∈o.op.operands/\x∈o.op.operands:=by rcases ho with ho|ho<;>simp[ho,Op.operands]
 have l1:=U m Y.1;have j1:=U k Y.2.1;have j0:=U x Y.2.2;unfold CU at e;obtain⟨h1,e⟩:=ag e;obtain⟨h2,e⟩:=ag e;rw[bX]at e;obtain⟨h3,e⟩:=ag e;have h1:=ai h1;have h2:=ai h2;have h3:=ai h3;simp only[nD]at h3 e;generalize hX:rd st.T (cOp K x)=X at*;generalize m1:rd st.T (cOp K k)=v at*;generalize n1:rd st.T (cOp K m)=Mw at*;obtain⟨blk,b1,b2,G⟩:=l1.map' h1;obtain⟨c,b,s',ws,I,y,c1,c2,c3,c4,c5,c6,c7,c8,c9,l0,m0⟩:=D.Rm G;have Q:=D8 j1 h2 h0;rw[c1]at h3 e;obtain⟨p1,p2,p3⟩:=FP (s:=s') c2 c3;rw[p2]at h3;subst h3;rw[p1,p3,D.S]at e;cases hf:nH g.S st.M s' (stride b) v c c with|none=>rw[hf]at e;cases e|some j=>
  rw[hf]at e;dsimp only at e;obtain⟨L,e⟩:=ag e;obtain⟨N,e⟩:=ag e;obtain⟨u,e⟩:=ag e;obtain⟨l,e⟩:=ag e;rw[bX,bX]at e;injection e with e1 H;have L:=ai L;subst L;have N:=aY N;have u:=aY u;simp only[nA,nM]at H u;obtain⟨_,i0⟩:=xH (M:=st.M) (s:=s') (str:=stride b) Q h2 (by rw[jqh];exact c7) l0 c (qqf _) hf;simp only[jzj,List.drop_zero,qzb]at i0;have o1:=JU b;have B:=Q.lt;obtain⟨V,E,n0,o0,p0,C⟩:∃V E,V=sel (Nat.beq b 0) X (ch st.R (sa X) b)/\V<2^(128*E)/\stride b=E+1/\(if b=0 then VR g (gt V 0) (a.eval x)else∃vs:Array Value,a.eval x=.agg vs/\vs.size=b/\∀i,i<b->VR g (gt V i) (vs.getD i undef)):=by cases d:Nat.beq b 0 with|true=>rw[d,ak]at l;have d:=ai d;have T:=j0.fE l;refine⟨X,1,rfl,T.lt,by simp[stride,d],?_⟩;rw[qzb d,fT _ T.lt,qzb rfl];exact T|false=>
    rw[d,ah]at l;have d:=fH d;obtain⟨h8,h9⟩:Nat.beq (Nat.mod X 16) 12=true/\Nat.beq (ln X) b=true:=by cases q:Nat.beq (Nat.mod X 16) 12 with|true=>rw[q,ak]at l;exact⟨rfl,l⟩|false=>rw[q,ah]at l;cases l
    obtain⟨vs,d1,d2,d3,d4,d5,d6,d7⟩:=j0.agg' (ai h8);have h9:=ai h9;refine⟨ch st.R (sa X) b,b,rfl,jD _ _ _,by simp[stride,d],?_⟩;rw[qzc d];refine⟨vs,d2,by omega,λi hi=>?_⟩;rw[jF,qzb hi];exact d7 i oqo
  rw[<-n0]at H;have hE:ad v 1 V<2^(128*(stride b)):=by rw[p0,Nat.add_comm];exact ic (n:=E) (i:=1) B o0
  have A:=jD st.M s' (c*stride b);have q0:=ic A hE;generalize O:ad (ch st.M s' (c*stride b)) (c*stride b) (ad v 1 V)=cw at*;have J:∀i,i<c*stride b->gt cw i=ws.getD i 0:=λi hi=>by rw[<-O,dM _ _ A,qzb hi,jF,qzb hi,c9 i oqo]
  have g2:gt cw (c*stride b)=v:=by rw[<-O,dM _ _ A,qzc oqo,jzj,dM (i:=1) _ _ B,qzb oqo,fT _ B,qzb rfl]
  have g3:∀j,gt cw (c*stride b+1+j)=gt V j:=λj=>by rw[<-O,dM _ _ A,qzc oqo,dM (i:=1) _ _ B,qzc oqo];congr 1;omega
  have hn:(c+1)*stride b=c*stride b+stride b:=Nat.succ_mul _ _;let h:=(List.range ((c+1)*stride b)).map (gt cw);have R:h.length=(c+1)*stride b:=by simp[h]
  have p:∀i,i<(c+1)*stride b->h.getD i 0=gt cw i:=λi hi=>by simp[h,qqm,hi]
  obtain⟨r1,r2⟩:=D.row h (cw:=cw) (by rw[R,hn];exact q0) (λi hi=>(p i oqo).symm);have r:=r2.le;have y0:(g.put st.nM (.row h)).rho (Mw/16)=.map blk:=by rw[r.rho _ (by rw[G];simp),G]
  have i1:∀i,i<c->i*stride b+stride b<=c*stride b:=λi hi=>by have:=jqk (stride b) (Nat.succ_le_of_lt hi);rw[Nat.succ_mul]at this;exact this
  have a1:jW (g.put st.nM (.row h)) (eMp (c+1) b st.nM) (.map (I.push {key:=a.eval k,val:=a.eval x,born:=y}) (y+1)):=by
   refine⟨c+1,b,st.nM,h,_,_,rfl,u,c3,N,by rw[Gh.bK,qzb rfl],rfl,by simp[c7],R,λi hi=>?_⟩;by_cases r0:i<c
   ·have e0:i<I.size:=by omega
    have:=i1 i r0;rw[Array.getElem_push_lt e0,p _ oqo,J _ oqo];obtain⟨k1,k2⟩:=m0 i e0;refine⟨k1.mono r,?_⟩;unfold uG at k2⊢;split
    ·rename_i hz;rw[qzb hz]at k2;have:stride b=2:=by simp[stride,hz]
     rw[p _ oqo,J _ oqo];exact k2.mono r
    ·rename_i hz;rw[qzc hz]at k2;have:stride b=b+1:=by simp[stride,hz]
     obtain⟨vs,Z,v2,v3⟩:=k2;refine⟨vs,Z,v2,λq S=>?_⟩;rw[p _ oqo,J _ oqo];exact(v3 q S).mono r
   ·have s0:i=c:=by simp at hi;omega
    subst s0;have x0:(I.push {key:=a.eval k,val:=a.eval x,born:=y})[i]={key:=a.eval k,val:=a.eval x,born:=y}:=by simp[<-c7]
    rw[x0,p _ oqo,g2];refine⟨Q.mono r,?_⟩;unfold uG;split
    ·rename_i hz;rw[qzb hz]at C;have:stride b=2:=by simp[stride,hz]
     have d0:=g3 0;rw[qzz]at d0;rw[p _ oqo,d0];exact C.mono r
    ·rename_i hz;rw[qzc hz]at C;have:stride b=b+1:=by simp[stride,hz]
     obtain⟨vs,Z,v2,v3⟩:=C;refine⟨vs,Z,v2,λq S=>?_⟩;rw[p _ oqo,g3];exact(v3 q S).mono r
  obtain⟨F,q2⟩:=r1.U6 y0 (Ld u c3 oqo) a1;subst H;refine⟨_,_,undef,.inr ⟨?_,rfl⟩,⟨?_,r2.trans q2,Ext.refl _ _,by rw[<-e1];exact .unk _,rfl,rfl⟩,λq=>absurd q (by rcases ho with ho|ho<;>simp[ho,dB])⟩;·rcases ho with ho|ho<;>simp only[execOp,ho,b1,Instr.mapUpdate,qjm,jqa ht,qjl,get_map c6,Hy hd h0 (a.eval k) _ 9999,ED hd i0,Ry _ c6]<;>rfl
  ·rw[R]at F;first|exact F|(rw[<-D.S]at F;exact F)
theorem U9{nv:Nat}{z:Value}(h:zOk nv z=true):if nv=0 then z.oneCell'=true else∃vs:Array Value,z=.agg vs/\vs.size=nv:=by
 unfold zOk at h;split;·rename_i h0;rw[qzb h0]at h;exact h
 ·rename_i h0;rw[qzc h0]at h;cases z<;>first|(exact⟨_,rfl,by simpa using h⟩)|(exact absurd h (by simp))
theorem look_ok(hk:K.In g)(t:HR g st w){s blk nv j:Nat}{m:Nat}{kv z:Value}{x:TypeDesc}(hr:g.rho s=.map blk)(D:VR g m kv)(h2:m%16=gN x)(h3:mv (gt st.M s)=nv)(hz:zOk nv z=true)(E:dZ K z.cells.toList=true)(hf:nH st.S st.M (ms (gt st.M s)) (stride nv) m (mc (gt st.M s)) (mc (gt st.M s))=some j): ∃d n r,w.heap[blk]? =some (.map d n)/\nv<256/\Instr.findNow x kv d.toList 0=some r/\(∀p,r=some p->j≠0)/\(r=none->j=0)/\(if nv=0 then VR g (sel (Nat.beq j 0) (bW K z.cells.toList) (ch st.M (ms (gt st.M s)+(j-1)*stride nv+1) 1)) ((r.map (·.2)).getD z)else sel (Nat.beq j 0) (bW K z.cells.toList) (ch st.M (ms (gt st.M s)+(j-1)*stride nv+1) nv)<2^(128*nv)/\ ∃vs:Array Value,((r.map (·.2)).getD z)=.agg vs/\vs.size=nv/\ ∀i,i<nv->VR g (gt (sel (Nat.beq j 0) (bW K z.cells.toList) (ch st.M (ms (gt st.M s)+(j-1)*stride nv+1) nv)) i) (vs.getD i undef)):=by
 obtain⟨c,b,s',ws,d,n,c1,c2,c3,c4,c5,c6,c7,c8,c9,A,B⟩:=t.Rm hr;rw[c1]at h3 hf⊢;obtain⟨F,G,y⟩:=FP (s:=s') c2 c3;rw[G]at h3;subst h3;rw[F,y,t.S]at hf;rw[y];obtain⟨hj,v⟩:=xH (M:=st.M) (s:=s') (str:=stride b) D h2 (by rw[jqh];exact c7) A c (qqf _) hf;simp only[jzj,List.drop_zero]at v;refine⟨d,n,_,c6,c3,v,?_,?_,?_⟩;·intro p e h0;rw[qzb h0]at e;cases e
 ·intro e;by_cases h0:j=0;·exact h0
  ·rw[qzc h0]at e;cases e
 ·obtain⟨h,l⟩:=jo hk E;have k:=U9 hz;by_cases h0:j=0
  ·subst h0;rw[show Nat.beq 0 0=true from rfl,ak,ak,qzb rfl];split;·rename_i hn;rw[qzb hn]at k;have hc:=cells_one k;rw[hc]at h l⊢;have:=l 0 (by simp);rw[fT _ h,qzb rfl]at this;exact this
   ·rename_i hn;rw[qzc hn]at k;obtain⟨vs,rfl,hs⟩:=k;have hl:(Value.agg vs).cells.toList=vs.toList:=rfl;rw[hl]at h l⊢;rw[jqh,hs]at h;refine⟨h,vs,rfl,hs,λi hi=>?_⟩;have:=l i (by rw[jqh];omega);rwa[qqm,qjf,<-qqg]at this
  ·have C:Nat.beq j 0=false:=by cases q:Nat.beq j 0 with|true=>exact absurd (ai q) h0|false=>rfl
   rw[C,ah,ah,qzc h0];have u:j-1<d.size:=oqo;rw[qjf,jqd u];simp only[jqb,qzm];obtain⟨_,k2⟩:=B (j-1) u;have H:stride b=1+(if b=0 then 1 else b):=by unfold stride;split<;>omega
   have hm:(j-1)*stride b+stride b<=ws.length:=by have:=jqk (stride b) (show j-1+1<=c by omega);rw[Nat.succ_mul]at this;omega
   have:=TE (M:=st.M) (s:=s') k2 c9 oqo;rw[<-jqp]at this;split;·rename_i hn;rw[qzb hn]at this;exact this
   ·rename_i hn;rw[qzc hn]at this;exact⟨jD _ _ _,this⟩
theorem OY{t n el:TypeId}{d:TypeDesc}{i:TypeInfo}{z:Value}{nv:Nat}{m k:Operand}(ho:o.op=.lookup t m k false)(ht:P.underlying t=some (.map n el))(hd:P.underlying n=some d)(h0:gN d≠0)(hi:P.info? el=some i)(hz:i.zero=some z)(C:zOk nv z=true)(B:dZ K z.cells.toList=true):OpV P K o (Jp (gN d) nv (bW K z.cells.toList) (cOp K m) (cOp K k)):=λg st a w x st' hk h l e=>by have A:=l m (by simp[ho,Op.operands]);have y:=l k (by simp[ho,Op.operands]);unfold Jp at e;obtain⟨h2,f1⟩:=ag e;obtain⟨h1,f2⟩:=ag f1;rw[bX]at f2;obtain⟨c,f3⟩:=ag f2;obtain⟨h3,f4⟩:=ag f3;clear e f1 f2 f3;have e:=f4;clear f4;have h1:=ai h1;have h2:=ai h2;have h3:=ai h3;have c:=ai c;subst c;simp only[nD]at h3 e;generalize H:rd st.T (cOp K k)=q at*;generalize I:rd st.T (cOp K m)=b at*;obtain⟨blk,b1,b2,s⟩:=A.map' h1;cases hf:nH st.S st.M (ms (gt st.M (b/16))) 2 q (mc (gt st.M (b/16))) (mc (gt st.M (b/16)))with|none=>rw[hf]at e;cases e|some j=>
  rw[hf]at e;injection e with u v;obtain⟨G,F,r,D,J,E,L,M,p⟩:=look_ok hk h (nv:=0) s (D8 y h2 h0) h2 h3 C B hf;rw[qzb rfl]at p;subst v;refine⟨g,w,((r.map (·.2)).getD z),.inl ?_,.same h ?_,λ_=>.inl rfl⟩;·simp only[execOp,ho,b1,qjm,FD ht hd h0 hi hz D E,qjl,jzc];rfl
  ·rw[<-u];exact .cell _ _ p
theorem Sg{t I el:TypeId}{E:TypeDesc}{i:TypeInfo}{z:Value}{nv:Nat}{m k:Operand}(ho:o.op=.lookup t m k true)(ht:P.underlying t=some (.map I el))(hd:P.underlying I=some E)(h0:gN E≠0)(hi:P.info? el=some i)(hz:i.zero=some z)(R:zOk nv z=true)(Q:dZ K z.cells.toList=true):OpV P K o (O7 (gN E) nv (bW K z.cells.toList) (cOp K m) (cOp K k)):=λg st a w x st' hk b H e=>by have O:=H m (by simp[ho,Op.operands]);have N:=H k (by simp[ho,Op.operands]);unfold O7 at e;obtain⟨h1,e⟩:=ag e;obtain⟨h2,e⟩:=ag e;rw[bX]at e;obtain⟨h3,e⟩:=ag e;obtain⟨A,e⟩:=ag e;have h1:=ai h1;have h2:=ai h2;have h3:=ai h3;have A:=aY A;simp only[nD]at h3 e;simp only[nA]at A;generalize e0:rd st.T (cOp K k)=J at*;generalize i0:rd st.T (cOp K m)=h at*;obtain⟨blk,b1,b2,L⟩:=O.map' h1;cases hf:nH st.S st.M (ms (gt st.M (h/16))) (stride nv) J (mc (gt st.M (h/16))) (mc (gt st.M (h/16)))with|none=>rw[hf]at e;cases e|some j=>
  rw[hf]at e;dsimp only at e;rw[bX]at e;obtain⟨es,d0,r,S,q2,T,U,W,l⟩:=look_ok hk b L (D8 N h2 h0) h2 h3 R Q hf;have M:sel (Nat.beq j 0) 1 17=nC r.isSome:=by cases r with|none=>rw[W rfl];rfl|some p=>cases q:Nat.beq j 0 with|true=>exact absurd (ai q) (U p rfl)|false=>rfl
  rw[M]at e;have s:=(VR.bool (g:=g) r.isSome).lt;have G:(execOp a.eval o).run P w=.ok (.value (.tuple #[((r.map (·.2)).getD z),.bool r.isSome])) w:=by simp only[execOp,ho,b1,qjm,FD ht hd h0 hi hz S T,qjl,jzc];rfl
  generalize r.isSome=u at*;generalize(r.map (·.2)).getD z=X at*;simp only[nA,nS,nM]at e;cases c:Nat.beq nv 0 with
  |true=>rw[c,ak,ak]at e;rw[bX]at e;injection e with v y;have c:=ai c;subst c;rw[qzb rfl]at l;generalize sel (Nat.beq j 0) (bW K z.cells.toList) (ch st.M (ms (gt st.M (h/16))+(j-1)*stride 0+1) 1)=V at*;have d:=l.lt;have C:ad V 1 (nC u)<2^(128*2):=ic (i:=1) (n:=1) d s;have D:=Ext.ad 2 (ad V 1 (nC u)) b.Rlt;subst y;refine⟨g,w,_,.inl G,⟨b.frame _ _ (ic b.Rlt C),Fr.refl _ _,D,?_,rfl,rfl⟩,λ_=>.inl rfl⟩;rw[<-v];refine .tup _ _ _ oqo oqo (qqf _) rfl λi hi=>?_;rw[dM _ _ b.Rlt,qzc oqo,show st.nR+i-st.nR=i by omega,dM (i:=1) _ _ d];match i,hi with|0,_=>rw[qzb oqo,fT _ d,qzb rfl];exact .cell _ _ l|1,_=>rw[qzc oqo,fT _ s,qzb oqo];exact .cell _ _ (.bool _)
  |false=>
   rw[c,ah,ah]at e;rw[bX]at e;injection e with v y;have c:=fH c;rw[qzc c]at l;generalize sel (Nat.beq j 0) (bW K z.cells.toList) (ch st.M (ms (gt st.M (h/16))+(j-1)*stride nv+1) nv)=V at*;obtain⟨d,vs,Y,Z,v3⟩:=l;have B:dU st.nR nv<2^128:=by unfold dU;omega
   have C:ad V nv (ad (dU st.nR nv) 1 (nC u))<2^(128*(nv+2)):=ic d (ic (i:=1) (n:=1) B s);have D:=Ext.ad (nv+2) (ad V nv (ad (dU st.nR nv) 1 (nC u))) b.Rlt;subst y;refine⟨g,w,_,.inl G,⟨b.frame _ _ (ic b.Rlt C),Fr.refl _ _,D,?_,rfl,rfl⟩,λ_=>.inl rfl⟩;rw[<-v];refine .tup _ _ _ oqo oqo (by show st.nR+nv+2<=st.nR+(nv+2);omega) rfl λi hi=>?_;rw[dM _ _ b.Rlt,qzc oqo,show st.nR+nv+i-st.nR=nv+i by omega,dM _ _ d,qzc oqo,show nv+i-nv=i by omega,dM (i:=1) _ _ B];match i,hi with|0,_=>rw[qzb oqo,fT _ B,qzb rfl];show TR _ _ _ _ X;rw[Y];refine .agg _ _ _ oqo oqo (by show st.nR+nv<=st.nR+(nv+2);omega) Z λq F=>?_;rw[dM _ _ b.Rlt,qzc oqo,show st.nR+q-st.nR=q by omega,dM _ _ d,qzb F];exact v3 q F|1,_=>rw[qzc oqo,fT _ s,qzb oqo];exact .cell _ _ (.bool _)
end
end Ev
namespace Ev
section
variable {P:Program}{K:Kon}{o:Oper}{f:St->RS}
theorem rG{t:TypeId}{k:Nat->Nat->CO}(h:tZ P t k=.op f):f=nop\/∃c el b nv i,P.underlying t=some (.map c el)/\P.underlying c=some b/\gN b≠0/\P.info? el=some i/\nv<256/\k (gN b) nv=.op f:=by
 unfold tZ at h;split at h
 ·rename_i c el ht;split at h
  ·rename_i b i d hk hi hd;split at h;·exact .inl (co_op h).symm
   ·rename_i h0;split at h;·exact .inr ⟨c,el,b,0,i,ht,hk,h0,hi,by omega,h⟩
    ·split at h;·rename_i hc;exact .inr ⟨c,el,b,i.size,i,ht,hk,h0,hi,hc.2,h⟩
     ·exact .inl (co_op h).symm
  ·exact .inl (co_op h).symm
 ·exact .inl (co_op h).symm
theorem F3(h:mU P K o=.op f):OpV P K o f:=by
 unfold mU at h;split at h;·rename_i x ho;rw[<-co_op h];exact Ci (.inl ho)
 ·rename_i x ho;rw[<-co_op h];exact Ci (.inr ho)
 ·rename_i c x y ho;rw[<-co_op h];exact NI ho
 ·rename_i t ho;split at h
  ·rename_i i hi;split at h
   ·rename_i z hz;split at h;·rename_i hc;rw[<-co_op h];exact RB ho hi hz hc.1 hc.2
    ·exact aB h
   ·exact aB h
  ·exact aB h
 ·rename_i t x ho;split at h
  ·split at h;·rw[<-co_op h];exact Od ho
   ·rw[<-co_op h];exact R8 ho
  ·exact aB h
 ·rename_i t parts ho;exact KH ho h
 ·rename_i t len parts ho;exact Jb ho h
 ·rename_i t x ho;split at h
  ·rename_i d i hd hi;split at h;·rename_i ha;rw[<-co_op h];exact Hm ho hd ha
   ·rename_i ha;split at h;·rename_i hn;rw[<-co_op h];exact Dr ho hd (JY ha) hi hn
    ·exact aB h
  ·exact aB h
 ·rename_i t x y ho;split at h
  ·rename_i d i hd hi;split at h;·rename_i ha;rw[<-co_op h];exact T9 ho hi ha.2
   ·split at h;·rename_i hn;rw[<-co_op h];exact QO ho hi hn
    ·exact aB h
  ·exact aB h
 ·rename_i x ho;rw[<-co_op h];exact NQ ho
 ·rename_i op t x y u ho;exact Ty ho h
 ·rename_i t x ho;rw[<-co_op h];exact Qi ho
 ·rename_i t x ho;split at h;·rw[<-co_op h];exact Qw ho
  ·exact aB h
 ·rename_i s d x ho;exact Ov ho h
 ·rename_i t x ho;split at h;·exact aB h
  ·rename_i d hn hd;split at h;·rename_i hl;rw[<-co_op h];exact TP ho hd (λms e=>hn ms e) hl
   ·exact aB h
  ·exact aB h
 ·rename_i fn first N ho;split at h;·rename_i hc;rw[<-co_op h];exact Ug ho hc.1 hc.2.1 hc.2.2
  ·exact aB h
 ·rename_i t ho;rcases rG h with rfl|⟨C,el,B,nv,i,h1,h2,h3,A,r,p⟩;·exact rZ
  ·rw[<-co_op p];exact Tk ho r
 ·rename_i t m k x ho;rcases rG h with rfl|⟨C,el,B,nv,i,h1,h2,h3,A,r,p⟩;·exact rZ
  ·rw[<-co_op p];exact Dl (.inl ho) h1 h2 h3 r
 ·rename_i t m k x ho;rcases rG h with rfl|⟨C,el,B,nv,i,h1,h2,h3,A,r,p⟩;·exact rZ
  ·rw[<-co_op p];exact Dl (.inr ho) h1 h2 h3 r
 ·rename_i t m k ho;split at h
  ·rename_i M I v;split at h
   ·rename_i L G;split at h
    ·rename_i z hz;split at h
     ·rename_i F;rcases rG h with rfl|⟨C,el,B,nv,i,h1,h2,h3,A,r,p⟩;·exact rZ
      ·rw[v]at h1;injection h1 with h1;injection h1 with D E;subst D;subst E;split at p;·rename_i H;rw[<-co_op p];exact Sg ho v h2 h3 G hz H F
       ·exact aB p
     ·exact aB h
    ·exact aB h
   ·exact aB h
  ·exact aB h
 ·rename_i t m k ho;split at h
  ·rename_i M I v;split at h
   ·rename_i L G;split at h
    ·rename_i z hz;split at h
     ·rename_i F;rcases rG h with rfl|⟨C,el,B,nv,i,h1,h2,h3,A,r,p⟩;·exact rZ
      ·rw[v]at h1;injection h1 with h1;injection h1 with D E;subst D;subst E;split at p;·rename_i H;rw[<-co_op p];exact OY ho v h2 h3 G hz H F
       ·exact aB p
     ·exact aB h
    ·exact aB h
   ·exact aB h
  ·exact aB h
 ·rename_i t l c ho;split at h
  ·rename_i el ht;split at h
   ·rename_i q J;split at h
    ·rename_i z hz;split at h;·rename_i hc;rw[<-co_op h];exact SY ho ht J hz hc.1 hc.2.1 hc.2.2.1 hc.2.2.2.1 hc.2.2.2.2
     ·exact aB h
    ·exact aB h
   ·exact aB h
  ·exact aB h
 ·rename_i t x Q hi R ho;exact KQ ho h
 ·rename_i t x j ho;split at h
  ·rename_i fs ht;split at h
   ·rename_i O hf;split at h
    ·rename_i i hi;split at h;·rename_i hz;rw[<-co_op h];exact OV ho ht hf hi hz
     ·exact aB h
    ·exact aB h
   ·exact aB h
  ·exact aB h
 ·rename_i t x j ho;exact ND ho h
 ·rename_i t x y ho;split at h
  ·rename_i el ht;split at h;·rename_i i hi;rw[<-co_op h];exact PO ho ht hi
   ·exact aB h
  ·rename_i n el ht;split at h;·rename_i i hi;rw[<-co_op h];exact Py ho ht hi
   ·exact aB h
  ·exact aB h
 ·rename_i t x y ho;exact Ll ho h
 ·rename_i x j ho;rw[<-co_op h];exact Uc ho
 ·rename_i b args S ho;exact PS ho h
 ·exact aB h
end
end Ev
namespace Ev
structure zK(g:Gh)(st:St)(w:World)(g':Gh)(st':St)(w':World)(x:Nat)(v:Value):Prop where
 hr:HR g' st' w'
 fr:Fr g w g' w'
 ext:Ext st.R st.nR st'.R st'.nR
 tr:TR g' st'.R st'.nR x v
def mR(P:Program)(f:Nat)(args:Array Value)(w:World)(B:Value->World->Prop):Prop:=((callFunc f args).run P w=.ok (.enter f args) w/\Calls P f args w λe w'=>∃v,e=.returned v/\B v w')\/∃v w',(callFunc f args).run P w=.ok (.value v) w'/\B v w'
theorem mR.mono{P:Program}{f:Nat}{args:Array Value}{w:World}{B b:Value->World->Prop}(h:mR P f args w B)(k:∀v w',B v w'->b v w'):mR P f args w b:=by
 rcases h with⟨h1,h2⟩|⟨v,w',h1,h2⟩;·exact .inl ⟨h1,h2.mono λe w'⟨v,c,d⟩=>⟨v,c,k v w' d⟩⟩
 ·exact .inr ⟨v,w',h1,k v w' h2⟩
def zF(b:Nat->Array Value->World->(Value->World->Prop)->Prop)(K:Kon)(call:Nat->St->RS):Prop:= ∀(f:Nat)(g:Gh)(st:St)(w:World)(args:Array Value)(x:Nat)(st':St),K.In g->HR g st w->st.D=[(args.size,[])]->(∀i,TR g st.R st.nR (gt st.T i) (args.getD i undef))->(∀i,args.size<=i->gt st.T i=0)->call f st=.ok x st'->b f args w λv w'=>∃g',zK g st w g' st' w' x v
def Dc(c:Nat->Array Value->World->(Value->World->Prop)->Prop):Prop:=∀f args w B b,c f args w B->(∀v w',B v w'->b v w')->c f args w b
abbrev kG(P:Program)(K:Kon)(call:Nat->St->RS):Prop:=zF (mR P) K call
theorem zJ(P:Program):Dc (mR P):=λ_ _ _ _ _ h k=>h.mono k
def ER(P:Program)(f:Nat)(args:Array Value)(w:World)(B:Value->World->Prop):Prop:=(callFunc f args).run P w=.ok (.enter f args) w/\CallsD P f args .returning w λe b w'=>∃v,e=.returned v/\b=.returning/\B v w'
theorem Ga(P:Program):Dc (ER P):=λ_ _ _ _ _ h k=>⟨h.1,h.2.mono λ_ _ _⟨v,b,c,d⟩=>⟨v,b,c,k _ _ d⟩⟩
theorem TR.drop{g:Gh}{R nR:Nat}(b c:Nat){w:Nat}{v:Value}(h:TR g R nR w v)(hk:keep w=false):TR g b c w v:=by
 cases h with|unk v=>exact .unk v|und=>exact .und|cell _ _ h=>exact .cell _ _ h|agg st n=>
  exfalso;have:keep (dU st n)=true:=by
   unfold keep;have:Nat.mod (dU st n) 16=12:=by show dU st n%16=12;unfold dU;omega
   rw[this];rfl
  rw[this]at hk;cases hk|tup st n=>
  exfalso;have:keep (eZ st n)=true:=by
   unfold keep;have:Nat.mod (eZ st n) 16=13:=by show eZ st n%16=13;unfold eZ;omega
   rw[this];rfl
  rw[this]at hk;cases hk
theorem VR.back{g g1:Gh}(h:g.le g1){w:Nat}{v0 v:Value}(h0:VR g w v0)(h1:VR g1 w v):VR g w v:=by
 induction h0 generalizing v with|unk v0 _=>exact .unk _ h1.one|sym j hj ho=>
  obtain⟨X,c,d,r,q⟩:=h1.Te (by unfold iH;omega) (by unfold iH;omega);have p:j=X:=by unfold iH at c;omega
  subst p;rw[d,h.rh];exact .sym j hj ho|bool b=>obtain⟨Q,c,d⟩:=h1.gL (by cases b<;>decide);rw[d,c];exact .bool Q|int k n M a2=>obtain⟨Y,L,c,d,r,q⟩:=h1.jf (by have:=iY k;unfold aC;omega);rw[d,c];exact .int Y L r q|str st l M a2 a3=>
  obtain⟨st',J,c,d,r,q,p⟩:=h1.rY (by unfold dC;omega);have A:st=st'/\l=J:=by unfold dC at c;omega
  obtain⟨rfl,rfl⟩:=A;rw[d,xS h a2];exact .str st l M a2 a3|pnil=>rw[h1.Dm oqo];exact .pnil|ptr s z o blk base room hs hz hr ho=>
  obtain⟨s',z',C,N,base',room',c,d,r,q,p,A⟩:=h1.Av (by unfold bR;omega);have y:s=s'/\z=z'/\o=C:=by unfold bR at c;omega
  obtain⟨rfl,rfl,rfl⟩:=y;rw[h.rho s (by rw[hr];simp),hr]at p;injection p with b1 b2 R E;subst b1;subst b2;subst E;rw[d];exact .ptr s z o blk base room hs hz hr ho|snil=>rw[h1.xN oqo];exact .snil|sli s z l e o blk base room cap ad hs hz hl he hr ho d0 ha=>
  obtain⟨s',z',J,S,C,N,base',room',F,D,c,d,r,q,p,A,y,B,H,O⟩:=h1.wu (by unfold aX;omega);have q1:o<=z:=qzi (Nat.le_add_right _ _) ho;have q2:C<=z':=qzi (Nat.le_add_right _ _) B;have G:s=s'/\z=z'/\l=J/\e=S/\o=C:=by unfold aX at c;omega
  obtain⟨rfl,rfl,rfl,rfl,rfl⟩:=G;rw[h.rho s (by rw[hr];simp),hr]at y;injection y with b1 b2 R E;subst b1;subst b2;subst E;rw[d];exact .sli s z l e o blk base room F D hs hz hl he hr ho H O|semp ad=>obtain⟨D,e⟩:=h1.yA rfl;rw[e];exact .semp D|mnil=>rw[h1.EP rfl];exact .mnil|map s blk hs hr=>
  obtain⟨s',N,c,d,r,q⟩:=h1.Bh (by unfold gM;omega);have p:s=s':=by unfold gM at c;omega
  subst p;rw[h.rho s (by rw[hr];simp),hr]at q;injection q with b1;subst b1;rw[d];exact .map s blk hs hr|fnil=>rw[h1.DD rfl];exact .fnil|inil=>rw[h1.F5 rfl];exact .inil|func f m n s ws first cap hf hm hn hs hr hm' hn' hw _ _ W i2=>
  obtain⟨I,Z,L,s',e0,V,F,c,d,r,q,p,A,y,B,H,O,G,T⟩:=h1.mM (by unfold eD;omega);have U:f=I/\m=Z/\n=L/\s=s':=by unfold eD at c;omega
  obtain⟨rfl,rfl,rfl,rfl⟩:=U;rw[h.rho s (by rw[hr];simp),hr]at y;injection y with b1;subst b1;rw[d];exact .func f m n s ws V F hf hm hn hs hr B H hw (λi hi=>W i hi (G i hi)) (λi hi=>i2 i hi (T i hi))|fn0 f hf=>
  obtain⟨I,c,d,r⟩:=h1.rF (by unfold gI;omega);have:f=I:=by unfold gI at c;omega
  subst this;rw[d];exact .fn0 f hf|ifc t s u v0 ht hs hr hv hz ih=>
  obtain⟨t',s',u',x,c,d,r,q,p,A,y⟩:=h1.Hw (by unfold iD;omega);have B:t=t'/\s=s':=by unfold iD at c;omega
  obtain⟨rfl,rfl⟩:=B;rw[h.rho s (by rw[hr];simp),hr]at p;injection p with b1;injection b1 with b1 _;subst b1;rw[d];exact .ifc t s u x ht hs hr (ih A) hz
theorem jW.back{g g':Gh}(hle:g.le g'){m:Nat}{o A:Obj}(h:jW g' m o)(h0:jW g m A):jW g m o:=by
 obtain⟨c,nv,s,ws,es,clock,h1,h2,h3,q,r,t,u,v,x⟩:=h;obtain⟨k,z,s',B,D,C,k1,k2,k3,k4,k5,k6,k7,k8,k9⟩:=h0;have e:=h1.symm.trans k1;unfold eMp at e;have l:c=k:=oqo;have n:nv=z:=oqo;have p:s=s':=oqo;subst l;subst n;subst p;have hr:=hle.rho s (by rw[k5];simp);have y:ws=B:=by rw[r,k5]at hr;injection hr
 subst y;refine⟨c,nv,s,ws,es,clock,h1,h2,h3,q,k5,t,u,v,λi hi=>?_⟩;obtain⟨d,a2⟩:=x i hi;obtain⟨b1,b2⟩:=k9 i oqo;refine⟨b1.back hle d,?_⟩;unfold uG at a2 b2⊢;split;·rename_i b;rw[qzb b]at a2 b2;exact b2.back hle a2
 ·rename_i b;rw[qzc b]at a2 b2;obtain⟨vs,c1,c2,c3⟩:=a2;obtain⟨us,d1,d2,d3⟩:=b2;exact⟨vs,c1,c2,λj hj=>(d3 j hj).back hle (c3 j hj)⟩
theorem RL{g g':Gh}{st s:St}{w w':World}(h:HR g st w)(k:HR g' s w')(f:Fr g w g' w')(b:∀i,i<st.nM->gt s.M i=gt st.M i):HR g st w'/\Fr g w g w':=by
 refine⟨⟨h.S,h.nS,h.Slt,h.Mlt,h.Rlt,h.top,h.iV,λa blk base z room hr=>?_,h.rows,λa blk hr=>?_,h.inj,h.l6⟩,⟨f.os,f.tape,f.output,f.size,Gh.le.refl _,f.keep,λ_ _ ho=>ho⟩⟩
 ·obtain⟨c,e,fr,hc⟩:=k.cells a blk base z room (by rw[f.le.rho a (by rw[hr];simp),hr]);obtain⟨c0,l,m,d⟩:=h.cells a blk base z room hr;have ht:=h.top a (by rw[hr];simp);rw[hr]at ht;have ht:a+z<st.nM:=ht;refine⟨c,e,fr,hc.heap,hc.size,hc.room,hc.one,λo ho=>?_,λhl=>hc.thaw ?_⟩;·have:=hc.vr o ho;rw[b (a+o) oqo]at this;exact(d.vr o ho).back f.le this
  ·obtain⟨o,ho,hn⟩:=hl;exact⟨o,ho,by rw[b (a+o) oqo];exact hn⟩
 ·obtain⟨o,ho,hm⟩:=k.maps a blk (by rw[f.le.rho a (by rw[hr];simp),hr]);obtain⟨n,_,j⟩:=h.maps a blk hr;have ht:=h.top a (by rw[hr];simp);rw[b a oqo]at hm;exact⟨o,ho,hm.back f.le j⟩
theorem UC{M b n:Nat}(h:Nat.land b (Nat.sub (Nat.pow 2 (Nat.mul 128 n)) 1)=M)(i:Nat)(hi:i<n):gt b i=gt M i:=by have h:ch b 0 n=M:=h;rw[<-h,jF,qzb hi,qja]
theorem Og{g:Gh}{R nR w:Nat}{v:Value}(m:Gh)(i p:Nat)(h:TR g R nR w v)(hs:small w=true):TR m i p w v:=by
 have hs:w%16=1\/w%16=2:=by unfold small at hs;cases h1:Nat.beq (Nat.mod w 16) 1 with|true=>exact .inl (ai h1)|false=>rw[h1,ah]at hs;exact .inr (ai hs)
 have hv:=h.aP oqo oqo oqo (by intro e;subst e;omega);rcases hs with hs|hs;·obtain⟨b,c,d⟩:=hv.gL hs;rw[c,d];exact .cell _ _ (.bool b)
 ·obtain⟨k,n,c,d,j,l⟩:=hv.jf hs;rw[c,d];exact .cell _ _ (.int k n j l)
section
variable {P:Program}{K:Kon}{call:Nat->St->RS}{g:Gh}{st:St}{w:World}
theorem LG{g:Gh}{d D s R nR:Nat}{vs:Array Value}(t:R<2^(128*nR)):∀(k:Nat)(q:R3),(∀i,i<k->TR g d D (gt d (s+i)) (vs.getD i undef))->cpT d s R nR k=some q->q.R<2^(128*q.n)/\Ext R nR q.R q.n/\q.c<2^(128*k)/\∀i,i<k->TR g q.R q.n (gt q.c i) (vs.getD i undef)|0,q,_,e=>by have e:some (R3.mk R nR 0)=some q:=e;injection e with e;subst e;exact⟨t,Ext.refl _ _,by simp,λi hi=>absurd hi oqo⟩|k+1,q,hv,r=>by cases hc:cpT d s R nR k with|none=>have e:Option.rec none (λq=>R3.rec (λh b c=>fc (gt d (Nat.add s k)) λw=>sel (keep w) (sel (Nat.beq (Nat.mod w 16) 12) (sel (Nat.blt b 4294967296) (some ⟨ad h b (ch d (sa w) (ln w)),Nat.add b (ln w),ad c k (dU b (ln w))⟩) none) none) (some ⟨h,b,ad c k w⟩)) q) (cpT d s R nR k)=some q:=r;rw[hc]at e;cases e|some p=>
   have e:Option.rec none (λq=>R3.rec (λh b c=>fc (gt d (Nat.add s k)) λw=>sel (keep w) (sel (Nat.beq (Nat.mod w 16) 12) (sel (Nat.blt b 4294967296) (some ⟨ad h b (ch d (sa w) (ln w)),Nat.add b (ln w),ad c k (dU b (ln w))⟩) none) none) (some ⟨h,b,ad c k w⟩)) q) (cpT d s R nR k)=some q:=r;rw[hc]at e;obtain⟨h,b,c⟩:=p;obtain⟨k1,k2,k3,k4⟩:=LG t k ⟨h,b,c⟩ (λi hi=>hv i oqo) hc;dsimp only at k1 k2 k3 k4;have hw:=hv k oqo;have e:sel (keep (gt d (s+k))) (sel (Nat.beq (Nat.mod (gt d (s+k)) 16) 12) (sel (Nat.blt b 4294967296) (some ⟨ad h b (ch d (sa (gt d (s+k))) (ln (gt d (s+k)))),Nat.add b (ln (gt d (s+k))),ad c k (dU b (ln (gt d (s+k))))⟩) none) none) (some ⟨h,b,ad c k (gt d (s+k))⟩)=some q:=e;generalize gt d (s+k)=w at hw e;have u:∀(y:Nat),y<2^128->ad c k y<2^(128*(k+1)):=λy n=>ic k3 (by simpa using n);have x:∀(y:Nat),y<2^128->∀i,i<k+1->gt (ad c k y) i=if i<k then gt c i else y:=λy n i hi=>by
    rw[dM _ _ k3];split;·rfl
    ·rw[show i-k=0 by omega,fT _ n,qzb rfl]
   cases hk:keep w with|false=>
    rw[hk,ah]at e;injection e with e;subst e;refine⟨k1,k2,u _ hw.lt,λi hi=>?_⟩;dsimp only;rw[x _ hw.lt i hi];split;·exact k4 i ‹_›
    ·rw[show i=k by omega];exact hw.drop _ _ hk|true=>rw[hk,ak]at e;cases m:Nat.beq (Nat.mod w 16) 12 with|false=>rw[m,ah]at e;cases e|true=>rw[m,ak]at e;cases l:Nat.blt b 4294967296 with|false=>rw[l,ah]at e;cases e|true=>
      rw[l,ak]at e;injection e with e;subst e;have l:=aY l;obtain⟨us,b1,b2,E,F,G,A,B⟩:=hw.agg' (ai m);have hl:ln w<16777216:=by assumption
      have C:ch d (sa w) (ln w)<2^(128*ln w):=jD _ _ _;have v:Ext h b (ad h b (ch d (sa w) (ln w))) (b+ln w):=Ext.ad _ _ k1;have z:dU b (ln w)<2^128:=by unfold dU;omega
      refine⟨ic k1 C,k2.trans v,u _ z,λi hi=>?_⟩;dsimp only;rw[x _ z i hi];split;·exact(k4 i ‹_›).mono (Gh.le.refl _) v
      ·rw[show i=k by omega,b2];refine .agg b (ln w) us hl l (qqf _) A λj hj=>?_;rw[dM _ _ k1,qzc oqo,show b+j-b=j by omega,jF,qzb hj];exact B j hj
theorem UJ{r:RS}{x:Nat}{st':St}(e:fin st r=.ok x st')(t:HR g st w):∃y s,r=.ok y s/\∀{g':Gh}{w':World}{v:Value},HR g' s w'->Fr g w g' w'->Ext st.R st.nR s.R s.nR->TR g' s.R s.nR y v->∃G,Post g st w G st' w' x v:=by cases r with|no=>cases e|ok y s=>refine⟨y,s,rfl,?_⟩;unfold fin at e;dsimp only at e;rw[bX]at e;cases hk:keep y with
  |true=>rw[hk,ak]at e;unfold U7 at e;cases z:Nat.beq (Nat.mod y 16) 12 with|true=>
    rw[z,ak]at e;have e:sel (Nat.blt st.nR 4294967296) (.ok (dU st.nR (ln y)) ⟨st.T,st.D,ad st.R st.nR (ch s.R (sa y) (ln y)),Nat.add st.nR (ln y),s.M,s.nM,s.S,s.nS⟩) .no=RS.ok x st':=e;obtain⟨k,e⟩:=ag e;have k:=aY k;injection e with d h;intro g' w' v m n I p;obtain⟨us,b1,b2,J,N,O,C,E⟩:=p.agg' (ai z);have hl:ln y<16777216:=by assumption
    have S:ch s.R (sa y) (ln y)<2^(128*ln y):=jD _ _ _;subst d;subst h;refine⟨g',m.frame _ _ (ic t.Rlt S),n,Ext.ad _ _ t.Rlt,?_,rfl,rfl⟩;rw[b2];refine .agg st.nR (ln y) us hl k (qqf _) C λj hj=>?_;dsimp only;rw[dM _ _ t.Rlt,if_neg oqo,show st.nR+j-st.nR=j by omega,jF,if_pos hj];exact E j hj|false=>
    rw[z,ah]at e;have Q:y%16=13:=by unfold keep at hk;rw[z,ah]at hk;exact ai hk
    have e:Option.rec .no (λq=>R3.rec (λu b c=>sel (Nat.blt b 4294967296) (.ok (eZ b (ln y)) ⟨st.T,st.D,ad u b c,Nat.add b (ln y),s.M,s.nM,s.S,s.nS⟩) .no) q) (cpT s.R (sa y) st.R st.nR (ln y))=RS.ok x st':=e;cases A:cpT s.R (sa y) st.R st.nR (ln y)with|none=>rw[A]at e;cases e|some q=>
     rw[A]at e;obtain⟨u,b,c⟩:=q;have e:sel (Nat.blt b 4294967296) (.ok (eZ b (ln y)) ⟨st.T,st.D,ad u b c,Nat.add b (ln y),s.M,s.nM,s.S,s.nS⟩) .no=RS.ok x st':=e;obtain⟨k,e⟩:=ag e;have k:=aY k;injection e with d h;intro g' w' v m n I p;obtain⟨B,l,vs,b1,b2,J,N,O,C,E⟩:=p.rV Q;have M:ln y=l:=by rw[b1];unfold ln eZ;show(13+16*l+268435456*B)/16%16777216=l;omega
     have U:sa y=B:=by rw[b1];unfold sa eZ;show(13+16*l+268435456*B)/268435456=B;omega
     rw[M,U]at A;obtain⟨c1,c2,c3,c4⟩:=LG (vs:=vs) t.Rlt l _ E A;dsimp only at c1 c2 c3 c4;subst d;subst h;rw[M];have L:Ext u b (ad u b c) (b+l):=Ext.ad _ _ c1;refine⟨g',m.frame _ _ (ic c1 c3),n,c2.trans L,?_,rfl,rfl⟩;rw[b2];refine .tup b l vs J k (qqf _) C λj hj=>?_;dsimp only;rw[dM _ _ c1,if_neg oqo,show b+j-b=j by omega];exact(c4 j hj).mono (Gh.le.refl _) L
  |false=>
   rw[hk,ah]at e;have F:Uo y st s=.ok x st'->∀{g':Gh}{w':World}{v:Value},HR g' s w'->Fr g w g' w'->Ext st.R st.nR s.R s.nR->TR g' s.R s.nR y v->∃G,Post g st w G st' w' x v:=λe=>by change RS.ok y {s with T:=st.T,D:=st.D,R:=st.R,nR:=st.nR}=.ok x st' at e;injection e with d h;subst d;subst h;exact λ{g' _ _}m n I p=>⟨g',m.frame _ _ t.Rlt,n,Ext.refl _ _,p.drop _ _ hk,rfl,rfl⟩
   cases H:small y with|false=>rw[H,ah]at e;exact@F e|true=>rw[H,ak]at e;change sel (Nat.beq st.nM s.nM) (.ok y {s with T:=st.T,D:=st.D,R:=st.R,nR:=st.nR}) (sel (Nat.beq (Nat.land s.M (Nat.sub (Nat.pow 2 (Nat.mul 128 st.nM)) 1)) st.M) (.ok y st) (.ok y {s with T:=st.T,D:=st.D,R:=st.R,nR:=st.nR}))=RS.ok x st' at e;cases h1:Nat.beq st.nM s.nM with|true=>rw[h1,ak]at e;exact@F e|false=>rw[h1,ah]at e;cases h2:Nat.beq (Nat.land s.M (Nat.sub (Nat.pow 2 (Nat.mul 128 st.nM)) 1)) st.M with|false=>rw[h2,ah]at e;exact@F e|true=>rw[h2,ak]at e;injection e with d h;subst d;subst h;intro g' w' v m n I p;obtain⟨V,W⟩:=RL t m n λi hi=>UC (ai h2) i hi;exact⟨g,V,W,Ext.refl _ _,Og _ _ _ p H,rfl,rfl⟩
theorem uJ{b:Nat->Array Value->World->(Value->World->Prop)->Prop}(hm:Dc b)(hc:zF b K call)(hk:K.In g)(c:HR g st w){f n T x:Nat}{st':St}{args:Array Value}(hn:n=args.size)(j:∀i,TR g st.R st.nR (gt T i) (args.getD i undef))(k:∀i,args.size<=i->gt T i=0)(e:calls call f n T st=.ok x st'):b f args w λv w'=>∃g',Post g st w g' st' w' x v:=by unfold calls at e;rw[bX]at e;obtain⟨y,s,d,h⟩:=UJ e c;change call f {st with T:=T,D:=[(n,[])]}=.ok y s at d;have h0:HR g {st with T:=T,D:=[(n,[])]} w:=c.frame _ _ c.Rlt;refine hm _ _ _ _ _ (hc f g {st with T:=T,D:=[(n,[])]} w args y s hk h0 (by rw[hn]) j k d) λv w'⟨g',l⟩=>?_;obtain⟨m,p,q,r⟩:=l;exact h m p q r
theorem QG(hc:kG P K call)(hk:K.In g)(d:HR g st w){f n T x:Nat}{st':St}{args:Array Value}(hn:n=args.size)(b:∀i,TR g st.R st.nR (gt T i) (args.getD i undef))(c:∀i,args.size<=i->gt T i=0)(e:calls call f n T st=.ok x st'):mR P f args w λv w'=>∃g',Post g st w g' st' w' x v:=uJ (zJ P) hc hk d hn b c e
theorem xP{ρ:Operand->Value}{T R nR:Nat}{l:List Operand}(h:∀y∈l,TR g R nR (rd T (cOp K y)) (ρ y)):∀i,TR g R nR ((rds T (l.map (cOp K))).getD i 0) (((l.map ρ).toArray).getD i undef):=λi=>by
 by_cases hi:i<l.length;·rw[xI _ _ _ (by simpa using hi)];have:=h l[i] (List.getElem_mem hi);simpa [hi]using this
 ·have h1:(rds T (l.map (cOp K))).getD i 0=0:=by
   have:(rds T (l.map (cOp K))).length=l.length:=by simp[rds]
   simp[qqm,this,hi]
  rw[h1];exact .unk _
end
end Ev
namespace Ev
section
variable {P:Program}{K:Kon}{call:Nat->St->RS}{g:Gh}{st:St}{w:World}
theorem ze{T R nR:Nat}{g:Gh}{ρ:Operand->Value}{l:List Operand}(h:∀y∈l,TR g R nR (rd T (cOp K y)) (ρ y)):∀x∈rds T (l.map (cOp K)),x<2^128:=λx b=>by unfold rds at b;rw[qzx]at b;obtain⟨y,c,rfl⟩:=qjb.1 b;exact(h y c).lt
theorem Ak{f m n s:Nat}(hf:f<65536)(hm:m<256)(hn:n<256):Nat.mod (Nat.div (eD f m n s) 16) 65536=f/\Nat.mod (Nat.div (eD f m n s) 1048576) 256=m/\Nat.mod (Nat.div (eD f m n s) 268435456) 256=n/\Nat.div (eD f m n s) 68719476736=s:=by
 refine⟨?_,?_,?_,?_⟩;·show eD f m n s/16%65536=f;unfold eD;omega
 ·show eD f m n s/1048576%256=m;unfold eD;omega
 ·show eD f m n s/268435456%256=n;unfold eD;omega
 ·show eD f m n s/68719476736=s;unfold eD;omega
theorem He{k:Nat->Array Value->World->(Value->World->Prop)->Prop}(r:Dc k)(hc:zF k K call)(hk:K.In g)(p:HR g st w){d x:Nat}{fv:Value}{ws:List Nat}{args:Array Value}{st':St}(hf:TR g st.R st.nR d fv)(hl:ws.length=args.size)(j:∀y∈ws,y<2^128)(hw:∀i,TR g st.R st.nR (ws.getD i 0) (args.getD i undef))(e:dyn call d ws st=.ok x st'): ∃f first cap,fv=.func (.func f) first cap/\k f (first++args++cap) w λv w'=>∃g',Post g st w g' st' w' x v:=by
 unfold dyn at e
 cases h1:Nat.beq (Nat.mod d 16) 15 with|true=>
  rw[h1,ak]at e;have h1:d%16=15:=ai h1;obtain⟨f,rfl,rfl,C⟩:=(hf.aP oqo oqo oqo oqo).rF h1;refine⟨f,#[],#[],rfl,?_⟩;have l:Nat.div (gI f) 16=f:=by show gI f/16=f;unfold gI;omega
  rw[l]at e;refine uJ r hc hk p (by simpa using hl) (λi=>?_) (λi hi=>?_) e;·rw[gy _ _ j];simpa using hw i
  ·rw[gy _ _ j,qqm,qza (by simp at hi;omega)];rfl|false=>
  rw[h1,ah]at e;obtain⟨h2,e⟩:=ag e;have h2:d%16=10:=ai h2;obtain⟨f,m,n,s,q,first,cap,rfl,rfl,f1,f2,f3,f4,f5,f6,f7,f8,f9,B⟩:=(hf.aP oqo oqo oqo oqo).mM h2;refine⟨f,first,cap,rfl,?_⟩;obtain⟨l,em,z,A⟩:=Ak (s:=s) f1 f2 f3;rw[l,em,z,A]at e;simp only[nA]at e;have t:=p.rows s q f5;have c1:=jD st.M s m;have c2:=lS ws j;have u:=ic c1 c2;have key:∀i,gt (ad (ad (ch st.M s m) m (dV ws)) (m+ws.length) (ch st.M (s+m) n)) i=if i<m then q.getD i 0 else if i<m+ws.length then ws.getD (i-m) 0 else if i<m+ws.length+n then q.getD (m+(i-(m+ws.length))) 0 else 0:=λi=>by
   rw[dM _ _ u];by_cases b:i<m+ws.length
   ·rw[qzb b,dM _ _ c1];by_cases c:i<m;·rw[qzb c,qzb c,jF,qzb c,t i oqo]
    ·rw[qzc c,qzc c,qzb b,gy _ _ j]
   ·rw[qzc b,qzc oqo,qzc b,jF];by_cases h:i<m+ws.length+n;·rw[qzb oqo,qzb h,show s+m+(i-(m+ws.length))=s+(m+(i-(m+ws.length)))by omega,t _ oqo]
    ·rw[qzc oqo,qzc h]
  have sz:(first++args++cap).size=m+ws.length+n:=by simp;omega
  refine uJ r hc hk p sz.symm (λi=>?_) (λi hi=>?_) e
  ·rw[key];by_cases b:i<m
   ·rw[qzb b];have:(first++args++cap).getD i undef=first.getD i undef:=by simp[qqg,jzz,show i<first.size by omega]
    rw[this];exact .cell _ _ (f9 i b)
   ·rw[qzc b];by_cases c:i<m+ws.length
    ·rw[qzb c];have:(first++args++cap).getD i undef=args.getD (i-m) undef:=by rw[qqg,qqg,jzz,jzz,qzb (by simp;omega),qzc oqo,f6]
     rw[this];exact hw _
    ·rw[qzc c];by_cases h:i<m+ws.length+n
     ·rw[qzb h];have:(first++args++cap).getD i undef=cap.getD (i-(m+ws.length)) undef:=by rw[qqg,qqg,jzz,qzc (by simp;omega),jxv,f6,hl]
      rw[this];exact .cell _ _ (B _ oqo)
     ·rw[qzc h];exact .unk _
  ·rw[sz]at hi;rw[key,qzc oqo,qzc oqo,qzc oqo]
theorem Vo(hc:kG P K call)(hk:K.In g)(c:HR g st w){b x:Nat}{fv:Value}{ws:List Nat}{args:Array Value}{st':St}(hf:TR g st.R st.nR b fv)(hl:ws.length=args.size)(d:∀y∈ws,y<2^128)(hw:∀i,TR g st.R st.nR (ws.getD i 0) (args.getD i undef))(e:dyn call b ws st=.ok x st'): ∃f first cap,fv=.func (.func f) first cap/\mR P f (first++args++cap) w λv w'=>∃g',Post g st w g' st' w' x v:=He (zJ P) hc hk c hf hl d hw e
def FV(g:Gh)(R nR:Nat)(q:Nat×List Nat)(d:Deferred):Prop:= ∃fv first cap vs,TR g R nR q.1 (.func fv first cap)/\Ez q.1=true/\d={target:=.fn fv cap,args:=first++vs}/\q.2.length=vs.size/\(∀y∈q.2,y<2^128)/\∀i,TR g R nR (q.2.getD i 0) (vs.getD i undef)
inductive DR(g:Gh)(R nR:Nat):List (Nat×List Nat)->List Deferred->Prop|nil:DR g R nR [] []|cons{q d l ds}:FV g R nR q d->DR g R nR l ds->DR g R nR (q::l) (d::ds)
theorem FV.mono{g g':Gh}{R nR b c:Nat}(h:g.le g')(hr:Ext R nR b c){q:Nat×List Nat}{d:Deferred}(k:FV g R nR q d):FV g' b c q d:=by obtain⟨fv,first,cap,vs,h1,h2,h3,e,j,l⟩:=k;exact⟨fv,first,cap,vs,h1.mono h hr,h2,h3,e,j,λi=>(l i).mono h hr⟩
theorem DR.mono{g g':Gh}{R nR b c:Nat}(h:g.le g')(hr:Ext R nR b c){l:List (Nat×List Nat)}{ds:List Deferred}(k:DR g R nR l ds):DR g' b c l ds:=by induction k with|nil=>exact .nil|cons a _ ih=>exact .cons (a.mono h hr) ih
structure wh(g:Gh)(st:St)(w:World)(g':Gh)(st':St)(w':World)(x:Nat)(v:Value)(ds ds':List Deferred):Prop where
 hr:HR g' st' w'
 fr:Fr g w g' w'
 ext:Ext st.R st.nR st'.R st'.nR
 tr:TR g' st'.R st'.nR x v
 T:st'.T=st.T
 D:DR g' st'.R st'.nR st'.D ds'
theorem Post.CR{g':Gh}{st':St}{w':World}{x:Nat}{v:Value}{ds:List Deferred}(h:Post g st w g' st' w' x v)(hd:DR g st.R st.nR st.D ds):wh g st w g' st' w' x v ds ds:=⟨h.hr,h.fr,h.ext,h.tr,h.T,by rw[h.D];exact hd.mono h.fr.le h.ext⟩
end
end Ev
namespace Ev
section
variable {P:Program}{K:Kon}{call:Nat->St->RS}{g:Gh}{st:St}{w:World}{o:Oper}{a:Act}
theorem TC(op:BinOp)(t:TypeId)(x y:Operand):∃f,EA P K op t x y=.op f:=by
 unfold EA cSe;repeat' split
 all_goals exact⟨_,rfl⟩
theorem OO(s d:TypeId)(x:Operand):∃f,zH P K s d x=.op f:=by
 unfold zH;repeat' split
 all_goals exact⟨_,rfl⟩
theorem Qh(b:Builtin)(c:Array TypeId)(args:List Operand):∃f,zO P K b c args=.op f:=by
 unfold zO;repeat' split
 all_goals exact⟨_,rfl⟩
theorem Mk(t:TypeId)(parts:Array (Nat×Operand)):∃f,vP P K t parts=.op f:=by
 unfold vP;repeat' split
 all_goals exact⟨_,rfl⟩
theorem Kk(t:TypeId)(len:Nat)(parts:Array (Nat×Operand)):∃f,mF P K t len parts=.op f:=by
 unfold mF;repeat' split
 all_goals exact⟨_,rfl⟩
theorem Mo(t:TypeId)(x:Operand)(b hi c:Option Operand):∃f,vR P K t x b hi c=.op f:=by
 unfold vR;repeat' split
 all_goals exact⟨_,rfl⟩
theorem Nz(t:TypeId)(x y:Operand):∃f,uo P K t x y=.op f:=by
 unfold uo;repeat' split
 all_goals exact⟨_,rfl⟩
theorem Mm(t:TypeId)(x:Operand)(j:Nat):∃f,vg P K t x j=.op f:=by
 unfold vg;repeat' split
 all_goals exact⟨_,rfl⟩
theorem Hd{t:TypeId}{k:Nat->Nat->CO}(h:∀b nv,∃f,k b nv=.op f):∃f,tZ P t k=.op f:=by
 unfold tZ;repeat' split
 all_goals first|exact h _ _|exact⟨_,rfl⟩
theorem VU{c:Prop} [Decidable c]{x y:CO}(b:∃f,x=.op f)(d:∃f,y=.op f):∃f,(if c then x else y)=.op f:=by
 split;·exact b
 ·exact d
theorem Ej(P:Program)(K:Kon)(o:Oper):∃f,mU P K o=.op f:=by
 unfold mU;repeat' split
 all_goals first|exact⟨_,rfl⟩|exact TC _ _ _ _|exact OO _ _ _|exact Qh _ _ _|exact Mk _ _|exact Kk _ _ _|exact Mo _ _ _ _ _|exact Nz _ _ _|exact Mm _ _ _|exact Hd λ_ _=>⟨_,rfl⟩|exact Hd λ_ _=>VU ⟨_,rfl⟩ ⟨_,rfl⟩
theorem Qy(hk:K.In g)(c:HR g st w)(i:∀y∈o.op.operands,TR g st.R st.nR (rd st.T (cOp K y)) (a.eval y)){x:Nat}{st':St}(b:dB P o.op=true)(e:jP call (cO P K o) st=.ok x st'): ∃g' w' v,((execOp a.eval o).run P w=.ok (.value v) w'\/((execOp a.eval o).run P w=.ok .skip w'/\v=undef))/\Post g st w g' st' w' x v/\HR g' st' w/\Fr g w g' w/\kX w w':=by
 have h:cO P K o=mU P K o:=by
  unfold cO;split;·rename_i ho;rw[ho]at b;simp[dB]at b
  ·rename_i ho;rw[ho]at b;simp[dB]at b
  ·rename_i ho;rw[ho]at b;simp[dB]at b
  ·rfl
 obtain⟨f,hf⟩:=Ej P K o;rw[h,hf]at e;obtain⟨g',w',v,h1,h2,h3⟩:=F3 hf g st a w x st' hk c i e;refine⟨g',w',v,h1,h2,?_⟩;rcases h3 b with rfl|⟨rfl,rfl,d⟩;·exact⟨h2.hr,h2.fr,kX.refl _⟩
 ·exact⟨c,Fr.refl _ _,d⟩
theorem M6{R nR:Nat}{b:Nat}{v:Value}(h:TR g R nR b v)(hf:Ez b=true):∃fv first cap,v=.func fv first cap:=by unfold Ez at hf;cases h1:Nat.beq (Nat.mod b 16) 10 with|true=>have h1:b%16=10:=ai h1;obtain⟨_,_,_,_,_,_,_,_,e,_⟩:=(h.aP oqo oqo oqo oqo).mM h1;exact⟨_,_,_,e⟩|false=>rw[h1,ah]at hf;have h2:b%16=15:=ai hf;obtain⟨_,_,e,_⟩:=(h.aP oqo oqo oqo oqo).rF h2;exact⟨_,_,_,e⟩
theorem DI{f:Nat}{args:Array Value}{B:Value->World->Prop}{next:Act->World->Prop}{Q:Exit->Act->World->Prop}(h:mR P f args w B)(hr:(execOp a.eval o).run P w=(callFunc f args).run P w)(hn:∀v w',B v w'->next (a.put o.dst v) w'):o.wp P a w next Q:=by
 unfold Oper.wp;rw[hr];rcases h with⟨h1,h2⟩|⟨v,w',h1,h2⟩;·rw[h1,Oper.upon_enter];exact h2.mono λe w'⟨v,b,c⟩=>by subst b;exact hn v w' c
 ·rw[h1,Oper.upon_value];exact hn v w' h2
theorem step_ok(hc:kG P K call)(hk:K.In g)(j:HR g st w)(d:∀y∈o.op.operands,TR g st.R st.nR (rd st.T (cOp K y)) (a.eval y))(hd:DR g st.R st.nR st.D a.defers){x:Nat}{st':St}(e:jP call (cO P K o) st=.ok x st'){next:Act->World->Prop}{Q:Exit->Act->World->Prop}(hn:∀g' w' v ds',wh g st w g' st' w' x v a.defers ds'->next (({a with defers:=ds'}:Act).put o.dst v) w'):o.wp P a w next Q:=by
 unfold cO at e;split at e
 ·rename_i f args p ho;have b:∀y∈args.toList,TR g st.R st.nR (rd st.T (cOp K y)) (a.eval y):=λy hm=>d y (by rw[ho];simp only[Op.operands,Call.operands];simp;exact .inr (by simpa using hm));have h:args.map a.eval=(args.toList.map a.eval).toArray:=by apply jxj;simp
  have m:mR P f (args.map a.eval) w λv w'=>∃g',Post g st w g' st' w' x v:=by
   change calls call f (args.toList.map (cOp K)).length (dV (rds st.T (args.toList.map (cOp K)))) st=.ok x st' at e;refine QG hc hk j (by simp) (λi=>?_) (λi hi=>?_) e;·rw[gy _ _ (ze b),h];exact xP b i
   ·rw[gy _ _ (ze b),qqm,qza (by simp[rds]at hi⊢;omega)];rfl
  refine DI m ?_ λv w'⟨g',n⟩=>hn g' w' v a.defers (n.CR hd);simp[execOp,ho,resolve,Act.eval,Deferred.ofValue,invoke]
 ·rename_i c args p t ho;have b:∀y∈args.toList,TR g st.R st.nR (rd st.T (cOp K y)) (a.eval y):=λy hm=>d y (by rw[ho];simp only[Op.operands,Call.operands];simp;exact .inr (by simpa using hm));have l:=d c (by rw[ho];simp[Op.operands,Call.operands]);have h:args.map a.eval=(args.toList.map a.eval).toArray:=by apply jxj;simp
  change dyn call (rd st.T (cOp K c)) (rds st.T (args.toList.map (cOp K))) st=.ok x st' at e;obtain⟨f,first,cap,k,m⟩:=Vo hc hk j (args:=args.map a.eval) l (by simp[rds]) (ze b) (λi=>by rw[h];exact xP b i) e;refine DI m ?_ λv w'⟨g',n⟩=>hn g' w' v a.defers (n.CR hd);simp[execOp,ho,resolve,k,Deferred.ofValue,invoke]
 ·rename_i c args p ho;have b:∀y∈args.toList,TR g st.R st.nR (rd st.T (cOp K y)) (a.eval y):=λy hm=>d y (by rw[ho];simp only[Op.operands,Call.operands];simp;exact .inr (by simpa using hm));have l:=d c (by rw[ho];simp[Op.operands,Call.operands]);have h:args.map a.eval=(args.toList.map a.eval).toArray:=by apply jxj;simp
  change sel (Ez (rd st.T (cOp K c))) (RS.ok 14 {st with D:=(rd st.T (cOp K c),rds st.T (args.toList.map (cOp K)))::st.D}) .no=.ok x st' at e;obtain⟨h1,e⟩:=ag e;injection e with q r;obtain⟨fv,first,cap,k⟩:=M6 l h1;have s:(execOp a.eval o).run P w=.ok (.defer {target:=.fn fv cap,args:=first++args.map a.eval}) w:=by simp[execOp,ho,resolve,k,Deferred.ofValue]
  unfold Oper.wp;rw[s,Oper.upon_defer];subst r;refine hn g w undef _ ⟨j.frame _ _ j.Rlt,Fr.refl _ _,Ext.refl _ _,by rw[<-q];exact .und,rfl,.cons ⟨fv,first,cap,args.map a.eval,by rw[<-k];exact l,h1,rfl,by simp[rds],ze b,λi=>by rw[h];exact xP b i⟩ hd⟩
 ·obtain⟨f,hf⟩:=Ej P K o;rw[hf]at e;obtain⟨g',w',v,h1,h2,h3⟩:=F3 hf g st a w x st' hk j d e;unfold Oper.wp;rcases h1 with h1|⟨h1,rfl⟩;·rw[h1,Oper.upon_value];exact hn g' w' v a.defers (h2.CR hd)
  ·rw[h1,Oper.upon_skip];exact hn g' w' undef a.defers (h2.CR hd)
end
end Ev
