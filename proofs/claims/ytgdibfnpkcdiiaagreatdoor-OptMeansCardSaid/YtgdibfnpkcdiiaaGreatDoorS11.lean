/- Joint text: EvU, EvV, EvW, EvZ, EwA, EwB. By an AI agent. -/
import Derived.Test.YtgdibfnpkcdiiaaGreatDoorSzy
import Derived.Test.YtgdibfnpkcdiiaaGreatDoorS10
import Derived.Defers
import Derived.LoopN
set_option linter.all false
set_option maxRecDepth 100000
set_option maxHeartbeats 64000000
namespace Go.Proofs.YtgdibfnpkcdiiaaGreatDoor
namespace Ev
section
variable {P:Program}{K:Kon}{o:Oper}{g:Gh}{st:St}{w:World}
def TR.map'{R nR x:Nat}{v:Value}(h:TR g R nR x v)(hm:x%16=8):∃blk,v=.map (some blk)/\x/16<16777216/\g.rho (x/16)=.map blk:=by obtain⟨s,blk,rfl,e,h1,h2⟩:=(h.aM oqo oqo oqo oqo).Cc hm;rw[Ra];exact⟨blk,e,h1,h2⟩
def FV{R nR x:Nat}{v:Value}{b:TypeDesc}(h:TR g R nR x v)(hm:x%16=iF b)(h0:iF b≠0):VR g x v:=by
 have:iF b=3\/iF b=2:=by cases b<;>simp_all[iF]
 exact h.aM oqo oqo oqo oqo
def WG{M s b nv:Nat}{ws:List Nat}{v:Value}(h:xq g ws b nv v)(hr:∀i,i<ws.length->gt M (s+i)=ws.getD i 0)(c:b+(if nv=0 then 1 else nv)<=ws.length):if nv=0 then VR g (ch M (s+b) 1) v else∃vs:Array Value,v=.agg vs/\vs.size=nv/\∀i,i<nv->VR g (gt (ch M (s+b) nv) i) (vs.getD i undef):=by
 unfold xq at h;split;·rename_i h0;rw[qzb h0]at h c;rw[<-Uz,hr _ oqo];exact h
 ·rename_i h0;rw[qzc h0]at h c;obtain⟨vs,d,e,j⟩:=h;refine⟨vs,d,e,λi hi=>?_⟩;rw[jW,qzb hi,jqu,hr _ oqo];exact j i hi
def Hw{t kt el:TypeId}{W:TypeDesc}{nv:Nat}{m k x:Operand}(ho:o.op=.insert t m k x\/o.op=.mapUpdate t m k x)(ht:P.underlying t=some (.map kt el))(hd:P.underlying kt=some W)(h0:iF W≠0)(hv:nv<256):OpV P K o (Eo (iF W) nv (cOp K m) (cOp K k) (cOp K x)):=λg st a w z st' hk D U e=>by
 have Y:m∈o.op.operands/\k∈o.op.operands/\x∈o.op.operands:=by rcases ho with ho|ho<;>simp[ho,Op.operands]
 have m1:=U m Y.1;have l1:=U k Y.2.1;have j0:=U x Y.2.2;unfold Eo at e;obtain⟨h1,e⟩:=ae e;obtain⟨h2,e⟩:=ae e;rw[bX]at e;obtain⟨h3,e⟩:=ae e;have h1:=ah h1;have h2:=ah h2;have h3:=ah h3;simp only[nD]at h3 e;generalize hX:rd st.T (cOp K x)=X at*;generalize n1:rd st.T (cOp K k)=v at*;generalize o1:rd st.T (cOp K m)=Mw at*;obtain⟨blk,b1,b2,G⟩:=m1.map' h1;obtain⟨c,b,s',ws,I,y,c1,c2,c3,c4,c5,c6,c7,c8,c9,l0,m0⟩:=D.UB G;have Q:=FV l1 h2 h0;rw[c1]at h3 e;obtain⟨p1,p2,p3⟩:=EW (s:=s') c2 c3;rw[p2]at h3;subst h3;rw[p1,p3,D.S]at e;cases hf:oO g.S st.M s' (stride b) v c c with|none=>rw[hf]at e;cases e|some j=>
  rw[hf]at e;dsimp only at e;obtain⟨L,e⟩:=ae e;obtain⟨N,e⟩:=ae e;obtain⟨u,e⟩:=ae e;obtain⟨l,e⟩:=ae e;rw[bX,bX]at e;injection e with e1 H;have L:=ah L;subst L;have N:=aT N;have u:=aT u;simp only[nA,nM]at H u;obtain⟨_,i0⟩:=zn (M:=st.M) (s:=s') (str:=stride b) Q h2 (by rw[jql];exact c7) l0 c (qqf _) hf;simp only[jzg,List.drop_zero,qzb]at i0;have s1:=Ls b;have B:=Q.lt;obtain⟨V,E,o0,p0,q0,C⟩:∃V E,V=sel (Nat.beq b 0) X (ch st.R (sa X) b)/\V<2^(128*E)/\stride b=E+1/\(if b=0 then VR g (gt V 0) (a.eval x)else∃vs:Array Value,a.eval x=.agg vs/\vs.size=b/\∀i,i<b->VR g (gt V i) (vs.getD i undef)):=by cases d:Nat.beq b 0 with|true=>rw[d,aj]at l;have d:=ah d;have T:=j0.fU l;refine⟨X,1,rfl,T.lt,by simp[stride,d],?_⟩;rw[qzb d,gP _ T.lt,qzb rfl];exact T|false=>
    rw[d,ag]at l;have d:=gM d;obtain⟨h8,h9⟩:Nat.beq (Nat.mod X 16) 12=true/\Nat.beq (ln X) b=true:=by cases q:Nat.beq (Nat.mod X 16) 12 with|true=>rw[q,aj]at l;exact⟨rfl,l⟩|false=>rw[q,ag]at l;cases l
    obtain⟨vs,d1,d2,d3,d4,d5,d6,d7⟩:=j0.agg' (ah h8);have h9:=ah h9;refine⟨ch st.R (sa X) b,b,rfl,jT _ _ _,by simp[stride,d],?_⟩;rw[qzc d];refine⟨vs,d2,by omega,λi hi=>?_⟩;rw[jW,qzb hi];exact d7 i oqo
  rw[<-o0]at H;have hE:ad v 1 V<2^(128*(stride b)):=by rw[q0,Nat.add_comm];exact iJ (n:=E) (i:=1) B p0
  have A:=jT st.M s' (c*stride b);have r0:=iJ A hE;generalize O:ad (ch st.M s' (c*stride b)) (c*stride b) (ad v 1 V)=cw at*;have J:∀i,i<c*stride b->gt cw i=ws.getD i 0:=λi hi=>by rw[<-O,dK _ _ A,qzb hi,jW,qzb hi,c9 i oqo]
  have g2:gt cw (c*stride b)=v:=by rw[<-O,dK _ _ A,qzc oqo,jzg,dK (i:=1) _ _ B,qzb oqo,gP _ B,qzb rfl]
  have g3:∀j,gt cw (c*stride b+1+j)=gt V j:=λj=>by rw[<-O,dK _ _ A,qzc oqo,dK (i:=1) _ _ B,qzc oqo];congr 1;omega
  have hn:(c+1)*stride b=c*stride b+stride b:=Nat.succ_mul _ _;let h:=(List.range ((c+1)*stride b)).map (gt cw);have R:h.length=(c+1)*stride b:=by simp[h]
  have p:∀i,i<(c+1)*stride b->h.getD i 0=gt cw i:=λi hi=>by simp[h,qqm,hi]
  obtain⟨r1,r2⟩:=D.row h (cw:=cw) (by rw[R,hn];exact r0) (λi hi=>(p i oqo).symm);have r:=r2.le;have a1:(g.put st.nM (.row h)).rho (Mw/16)=.map blk:=by rw[r.rho _ (by rw[G];simp),G]
  have j1:∀i,i<c->i*stride b+stride b<=c*stride b:=λi hi=>by have:=jqo (stride b) (Nat.succ_le_of_lt hi);rw[Nat.succ_mul]at this;exact this
  have i1:lL (g.put st.nM (.row h)) (eMp (c+1) b st.nM) (.map (I.push {key:=a.eval k,val:=a.eval x,born:=y}) (y+1)):=by
   refine⟨c+1,b,st.nM,h,_,_,rfl,u,c3,N,by rw[Gh.bK,qzb rfl],rfl,by simp[c7],R,λi hi=>?_⟩;by_cases s0:i<c
   ·have e0:i<I.size:=by omega
    have:=j1 i s0;rw[Array.getElem_push_lt e0,p _ oqo,J _ oqo];obtain⟨k1,k2⟩:=m0 i e0;refine⟨k1.mono r,?_⟩;unfold xq at k2⊢;split
    ·rename_i hz;rw[qzb hz]at k2;have:stride b=2:=by simp[stride,hz]
     rw[p _ oqo,J _ oqo];exact k2.mono r
    ·rename_i hz;rw[qzc hz]at k2;have:stride b=b+1:=by simp[stride,hz]
     obtain⟨vs,Z,v2,v3⟩:=k2;refine⟨vs,Z,v2,λq S=>?_⟩;rw[p _ oqo,J _ oqo];exact(v3 q S).mono r
   ·have x0:i=c:=by simp at hi;omega
    subst x0;have y0:(I.push {key:=a.eval k,val:=a.eval x,born:=y})[i]={key:=a.eval k,val:=a.eval x,born:=y}:=by simp[<-c7]
    rw[y0,p _ oqo,g2];refine⟨Q.mono r,?_⟩;unfold xq;split
    ·rename_i hz;rw[qzb hz]at C;have:stride b=2:=by simp[stride,hz]
     have d0:=g3 0;rw[qzz]at d0;rw[p _ oqo,d0];exact C.mono r
    ·rename_i hz;rw[qzc hz]at C;have:stride b=b+1:=by simp[stride,hz]
     obtain⟨vs,Z,v2,v3⟩:=C;refine⟨vs,Z,v2,λq S=>?_⟩;rw[p _ oqo,g3];exact(v3 q S).mono r
  obtain⟨F,q2⟩:=r1.Xu a1 (Pk u c3 oqo) i1;subst H;refine⟨_,_,undef,.inr ⟨?_,rfl⟩,⟨?_,r2.trans q2,Ext.refl _ _,by rw[<-e1];exact .unk _,rfl,rfl⟩,λq=>absurd q (by rcases ho with ho|ho<;>simp[ho,dC])⟩;·rcases ho with ho|ho<;>simp only[execOp,ho,b1,Instr.mapUpdate,qjm,jqa ht,qjl,get_map c6,Jd hd h0 (a.eval k) _ 9999,Ik hd i0,UM _ c6]<;>rfl
  ·rw[R]at F;first|exact F|(rw[<-D.S]at F;exact F)
def Yr{nv:Nat}{z:Value}(h:zOk nv z=true):if nv=0 then z.oneCell'=true else∃vs:Array Value,z=.agg vs/\vs.size=nv:=by
 unfold zOk at h;split;·rename_i h0;rw[qzb h0]at h;exact h
 ·rename_i h0;rw[qzc h0]at h;cases z<;>first|(exact⟨_,rfl,by simpa using h⟩)|(exact absurd h (by simp))
def look_ok(hk:K.In g)(u:HR g st w){s blk nv j:Nat}{m:Nat}{kv z:Value}{y:TypeDesc}(hr:g.rho s=.map blk)(E:VR g m kv)(h2:m%16=iF y)(h3:mv (gt st.M s)=nv)(hz:zOk nv z=true)(F:eD K z.cells.toList=true)(hf:oO st.S st.M (ms (gt st.M s)) (stride nv) m (mc (gt st.M s)) (mc (gt st.M s))=some j): ∃d t r,w.heap[blk]? =some (.map d t)/\nv<256/\Instr.findNow y kv d.toList 0=some r/\(∀p,r=some p->j≠0)/\(r=none->j=0)/\(if nv=0 then VR g (sel (Nat.beq j 0) (bV K z.cells.toList) (ch st.M (ms (gt st.M s)+(j-1)*stride nv+1) 1)) ((r.map (·.2)).getD z)else sel (Nat.beq j 0) (bV K z.cells.toList) (ch st.M (ms (gt st.M s)+(j-1)*stride nv+1) nv)<2^(128*nv)/\ ∃vs:Array Value,((r.map (·.2)).getD z)=.agg vs/\vs.size=nv/\ ∀i,i<nv->VR g (gt (sel (Nat.beq j 0) (bV K z.cells.toList) (ch st.M (ms (gt st.M s)+(j-1)*stride nv+1) nv)) i) (vs.getD i undef)):=by
 obtain⟨c,b,s',ws,d,t,c1,c2,c3,c4,c5,c6,c7,c8,c9,B,C⟩:=u.UB hr;rw[c1]at h3 hf⊢;obtain⟨G,H,A⟩:=EW (s:=s') c2 c3;rw[H]at h3;subst h3;rw[G,A,u.S]at hf;rw[A];obtain⟨hj,x⟩:=zn (M:=st.M) (s:=s') (str:=stride b) E h2 (by rw[jql];exact c7) B c (qqf _) hf;simp only[jzg,List.drop_zero]at x;refine⟨d,t,_,c6,c3,x,?_,?_,?_⟩;·intro p e h0;rw[qzb h0]at e;cases e
 ·intro e;by_cases h0:j=0;·exact h0
  ·rw[qzc h0]at e;cases e
 ·obtain⟨h,l⟩:=jJ hk F;have k:=Yr hz;by_cases h0:j=0
  ·subst h0;rw[show Nat.beq 0 0=true from rfl,aj,aj,qzb rfl];split;·rename_i hn;rw[qzb hn]at k;have hc:=cells_one k;rw[hc]at h l⊢;have:=l 0 (by simp);rw[gP _ h,qzb rfl]at this;exact this
   ·rename_i hn;rw[qzc hn]at k;obtain⟨vs,rfl,hs⟩:=k;have hl:(Value.agg vs).cells.toList=vs.toList:=rfl;rw[hl]at h l⊢;rw[jql,hs]at h;refine⟨h,vs,rfl,hs,λi hi=>?_⟩;have:=l i (by rw[jql];omega);rwa[qqm,qjf,<-qqg]at this
  ·have D:Nat.beq j 0=false:=by cases q:Nat.beq j 0 with|true=>exact absurd (ah q) h0|false=>rfl
   rw[D,ag,ag,qzc h0];have v:j-1<d.size:=oqo;rw[qjf,jqi v];simp only[jqf,qzm];obtain⟨_,k2⟩:=C (j-1) v;have I:stride b=1+(if b=0 then 1 else b):=by unfold stride;split<;>omega
   have hm:(j-1)*stride b+stride b<=ws.length:=by have:=jqo (stride b) (show j-1+1<=c by omega);rw[Nat.succ_mul]at this;omega
   have:=WG (M:=st.M) (s:=s') k2 c9 oqo;rw[<-jqu]at this;split;·rename_i hn;rw[qzb hn]at this;exact this
   ·rename_i hn;rw[qzc hn]at this;exact⟨jT _ _ _,this⟩
def QT{t p el:TypeId}{d:TypeDesc}{i:TypeInfo}{z:Value}{nv:Nat}{m k:Operand}(ho:o.op=.lookup t m k false)(ht:P.underlying t=some (.map p el))(hd:P.underlying p=some d)(h0:iF d≠0)(hi:P.info? el=some i)(hz:i.zero=some z)(D:zOk nv z=true)(C:eD K z.cells.toList=true):OpV P K o (KY (iF d) nv (bV K z.cells.toList) (cOp K m) (cOp K k)):=λg st a w x st' hk h l e=>by have B:=l m (by simp[ho,Op.operands]);have A:=l k (by simp[ho,Op.operands]);unfold KY at e;obtain⟨h2,f1⟩:=ae e;obtain⟨h1,f2⟩:=ae f1;rw[bX]at f2;obtain⟨c,f3⟩:=ae f2;obtain⟨h3,f4⟩:=ae f3;clear e f1 f2 f3;have e:=f4;clear f4;have h1:=ah h1;have h2:=ah h2;have h3:=ah h3;have c:=ah c;subst c;simp only[nD]at h3 e;generalize I:rd st.T (cOp K k)=s at*;generalize J:rd st.T (cOp K m)=b at*;obtain⟨blk,b1,b2,u⟩:=B.map' h1;cases hf:oO st.S st.M (ms (gt st.M (b/16))) 2 s (mc (gt st.M (b/16))) (mc (gt st.M (b/16)))with|none=>rw[hf]at e;cases e|some j=>
  rw[hf]at e;injection e with v y;obtain⟨H,G,r,E,L,F,M,N,q⟩:=look_ok hk h (nv:=0) u (FV A h2 h0) h2 h3 D C hf;rw[qzb rfl]at q;subst y;refine⟨g,w,((r.map (·.2)).getD z),.inl ?_,.same h ?_,λ_=>.inl rfl⟩;·simp only[execOp,ho,b1,qjm,Ia ht hd h0 hi hz E F,qjl,jzk];rfl
  ·rw[<-v];exact .cell _ _ q
def VG{t I el:TypeId}{E:TypeDesc}{i:TypeInfo}{z:Value}{nv:Nat}{m k:Operand}(ho:o.op=.lookup t m k true)(ht:P.underlying t=some (.map I el))(hd:P.underlying I=some E)(h0:iF E≠0)(hi:P.info? el=some i)(hz:i.zero=some z)(R:zOk nv z=true)(Q:eD K z.cells.toList=true):OpV P K o (TI (iF E) nv (bV K z.cells.toList) (cOp K m) (cOp K k)):=λg st a w x st' hk b H e=>by have O:=H m (by simp[ho,Op.operands]);have N:=H k (by simp[ho,Op.operands]);unfold TI at e;obtain⟨h1,e⟩:=ae e;obtain⟨h2,e⟩:=ae e;rw[bX]at e;obtain⟨h3,e⟩:=ae e;obtain⟨A,e⟩:=ae e;have h1:=ah h1;have h2:=ah h2;have h3:=ah h3;have A:=aT A;simp only[nD]at h3 e;simp only[nA]at A;generalize e0:rd st.T (cOp K k)=J at*;generalize i0:rd st.T (cOp K m)=h at*;obtain⟨blk,b1,b2,L⟩:=O.map' h1;cases hf:oO st.S st.M (ms (gt st.M (h/16))) (stride nv) J (mc (gt st.M (h/16))) (mc (gt st.M (h/16)))with|none=>rw[hf]at e;cases e|some j=>
  rw[hf]at e;dsimp only at e;rw[bX]at e;obtain⟨es,d0,r,S,q2,T,U,W,l⟩:=look_ok hk b L (FV N h2 h0) h2 h3 R Q hf;have M:sel (Nat.beq j 0) 1 17=ou r.isSome:=by cases r with|none=>rw[W rfl];rfl|some p=>cases q:Nat.beq j 0 with|true=>exact absurd (ah q) (U p rfl)|false=>rfl
  rw[M]at e;have s:=(VR.bool (g:=g) r.isSome).lt;have G:(execOp a.eval o).run P w=.ok (.value (.tuple #[((r.map (·.2)).getD z),.bool r.isSome])) w:=by simp only[execOp,ho,b1,qjm,Ia ht hd h0 hi hz S T,qjl,jzk];rfl
  generalize r.isSome=u at*;generalize(r.map (·.2)).getD z=X at*;simp only[nA,nS,nM]at e;cases c:Nat.beq nv 0 with
  |true=>rw[c,aj,aj]at e;rw[bX]at e;injection e with v y;have c:=ah c;subst c;rw[qzb rfl]at l;generalize sel (Nat.beq j 0) (bV K z.cells.toList) (ch st.M (ms (gt st.M (h/16))+(j-1)*stride 0+1) 1)=V at*;have d:=l.lt;have C:ad V 1 (ou u)<2^(128*2):=iJ (i:=1) (n:=1) d s;have D:=Ext.ad 2 (ad V 1 (ou u)) b.Rlt;subst y;refine⟨g,w,_,.inl G,⟨b.frame _ _ (iJ b.Rlt C),Fr.refl _ _,D,?_,rfl,rfl⟩,λ_=>.inl rfl⟩;rw[<-v];refine .tup _ _ _ oqo oqo (qqf _) rfl λi hi=>?_;rw[dK _ _ b.Rlt,qzc oqo,show st.nR+i-st.nR=i by omega,dK (i:=1) _ _ d];match i,hi with|0,_=>rw[qzb oqo,gP _ d,qzb rfl];exact .cell _ _ l|1,_=>rw[qzc oqo,gP _ s,qzb oqo];exact .cell _ _ (.bool _)
  |false=>
   rw[c,ag,ag]at e;rw[bX]at e;injection e with v y;have c:=gM c;rw[qzc c]at l;generalize sel (Nat.beq j 0) (bV K z.cells.toList) (ch st.M (ms (gt st.M (h/16))+(j-1)*stride nv+1) nv)=V at*;obtain⟨d,vs,Y,Z,v3⟩:=l;have B:dY st.nR nv<2^128:=by unfold dY;omega
   have C:ad V nv (ad (dY st.nR nv) 1 (ou u))<2^(128*(nv+2)):=iJ d (iJ (i:=1) (n:=1) B s);have D:=Ext.ad (nv+2) (ad V nv (ad (dY st.nR nv) 1 (ou u))) b.Rlt;subst y;refine⟨g,w,_,.inl G,⟨b.frame _ _ (iJ b.Rlt C),Fr.refl _ _,D,?_,rfl,rfl⟩,λ_=>.inl rfl⟩;rw[<-v];refine .tup _ _ _ oqo oqo (by show st.nR+nv+2<=st.nR+(nv+2);omega) rfl λi hi=>?_;rw[dK _ _ b.Rlt,qzc oqo,show st.nR+nv+i-st.nR=nv+i by omega,dK _ _ d,qzc oqo,show nv+i-nv=i by omega,dK (i:=1) _ _ B];match i,hi with|0,_=>rw[qzb oqo,gP _ B,qzb rfl];show TR _ _ _ _ X;rw[Y];refine .agg _ _ _ oqo oqo (by show st.nR+nv<=st.nR+(nv+2);omega) Z λq F=>?_;rw[dK _ _ b.Rlt,qzc oqo,show st.nR+q-st.nR=q by omega,dK _ _ d,qzb F];exact v3 q F|1,_=>rw[qzc oqo,gP _ s,qzb oqo];exact .cell _ _ (.bool _)
end
end Ev
namespace Ev
section
variable {P:Program}{K:Kon}{o:Oper}{f:St->RS}
def tC{t:TypeId}{k:Nat->Nat->CO}(h:uY P t k=.op f):f=nop\/∃c el b nv i,P.underlying t=some (.map c el)/\P.underlying c=some b/\iF b≠0/\P.info? el=some i/\nv<256/\k (iF b) nv=.op f:=by
 unfold uY at h;split at h
 ·rename_i c el ht;split at h
  ·rename_i b i d hk hi hd;split at h;·exact .inl (co_op h).symm
   ·rename_i h0;split at h;·exact .inr ⟨c,el,b,0,i,ht,hk,h0,hi,by omega,h⟩
    ·split at h;·rename_i hc;exact .inr ⟨c,el,b,i.size,i,ht,hk,h0,hi,hc.2,h⟩
     ·exact .inl (co_op h).symm
  ·exact .inl (co_op h).symm
 ·exact .inl (co_op h).symm
def FH(h:oC P K o=.op f):OpV P K o f:=by
 unfold oC at h;split at h;·rename_i x ho;rw[<-co_op h];exact DX (.inl ho)
 ·rename_i x ho;rw[<-co_op h];exact DX (.inr ho)
 ·rename_i c x y ho;rw[<-co_op h];exact Pd ho
 ·rename_i t ho;split at h
  ·rename_i i hi;split at h
   ·rename_i z hz;split at h;·rename_i hc;rw[<-co_op h];exact WJ ho hi hz hc.1 hc.2
    ·exact ax h
   ·exact ax h
  ·exact ax h
 ·rename_i t x ho;split at h
  ·split at h;·rw[<-co_op h];exact Sb ho
   ·rw[<-co_op h];exact Vn ho
  ·exact ax h
 ·rename_i t parts ho;exact O6 ho h
 ·rename_i t len parts ho;exact Mc ho h
 ·rename_i t x ho;split at h
  ·rename_i d i hd hi;split at h;·rename_i ha;rw[<-co_op h];exact JX ho hd ha
   ·rename_i ha;split at h;·rename_i hn;rw[<-co_op h];exact EP ho hd (Lx ha) hi hn
    ·exact ax h
  ·exact ax h
 ·rename_i t x y ho;split at h
  ·rename_i d i hd hi;split at h;·rename_i ha;rw[<-co_op h];exact VY ho hi ha.2
   ·split at h;·rename_i hn;rw[<-co_op h];exact Qe ho hi hn
    ·exact ax h
  ·exact ax h
 ·rename_i x ho;rw[<-co_op h];exact Tw ho
 ·rename_i op t x y u ho;exact V3 ho h
 ·rename_i t x ho;rw[<-co_op h];exact QR ho
 ·rename_i t x ho;split at h;·rw[<-co_op h];exact Qu ho
  ·exact ax h
 ·rename_i s d x ho;exact QW ho h
 ·rename_i t x ho;split at h;·exact ax h
  ·rename_i d hn hd;split at h;·rename_i hl;rw[<-co_op h];exact Vy ho hd (λms e=>hn ms e) hl
   ·exact ax h
  ·exact ax h
 ·rename_i fn first N ho;split at h;·rename_i hc;rw[<-co_op h];exact WX ho hc.1 hc.2.1 hc.2.2
  ·exact ax h
 ·rename_i t ho;rcases tC h with rfl|⟨C,el,B,nv,i,h1,h2,h3,A,r,p⟩;·exact sV
  ·rw[<-co_op p];exact Ve ho r
 ·rename_i t m k x ho;rcases tC h with rfl|⟨C,el,B,nv,i,h1,h2,h3,A,r,p⟩;·exact sV
  ·rw[<-co_op p];exact Hw (.inl ho) h1 h2 h3 r
 ·rename_i t m k x ho;rcases tC h with rfl|⟨C,el,B,nv,i,h1,h2,h3,A,r,p⟩;·exact sV
  ·rw[<-co_op p];exact Hw (.inr ho) h1 h2 h3 r
 ·rename_i t m k ho;split at h
  ·rename_i M I v;split at h
   ·rename_i L G;split at h
    ·rename_i z hz;split at h
     ·rename_i F;rcases tC h with rfl|⟨C,el,B,nv,i,h1,h2,h3,A,r,p⟩;·exact sV
      ·rw[v]at h1;injection h1 with h1;injection h1 with D E;subst D;subst E;split at p;·rename_i H;rw[<-co_op p];exact VG ho v h2 h3 G hz H F
       ·exact ax p
     ·exact ax h
    ·exact ax h
   ·exact ax h
  ·exact ax h
 ·rename_i t m k ho;split at h
  ·rename_i M I v;split at h
   ·rename_i L G;split at h
    ·rename_i z hz;split at h
     ·rename_i F;rcases tC h with rfl|⟨C,el,B,nv,i,h1,h2,h3,A,r,p⟩;·exact sV
      ·rw[v]at h1;injection h1 with h1;injection h1 with D E;subst D;subst E;split at p;·rename_i H;rw[<-co_op p];exact QT ho v h2 h3 G hz H F
       ·exact ax p
     ·exact ax h
    ·exact ax h
   ·exact ax h
  ·exact ax h
 ·rename_i t l c ho;split at h
  ·rename_i el ht;split at h
   ·rename_i q J;split at h
    ·rename_i z hz;split at h;·rename_i hc;rw[<-co_op h];exact Vj ho ht J hz hc.1 hc.2.1 hc.2.2.1 hc.2.2.2.1 hc.2.2.2.2
     ·exact ax h
    ·exact ax h
   ·exact ax h
  ·exact ax h
 ·rename_i t x Q hi R ho;exact M3 ho h
 ·rename_i t x j ho;split at h
  ·rename_i fs ht;split at h
   ·rename_i O hf;split at h
    ·rename_i i hi;split at h;·rename_i hz;rw[<-co_op h];exact R8 ho ht hf hi hz
     ·exact ax h
    ·exact ax h
   ·exact ax h
  ·exact ax h
 ·rename_i t x j ho;exact MX ho h
 ·rename_i t x y ho;split at h
  ·rename_i el ht;split at h;·rename_i i hi;rw[<-co_op h];exact QS ho ht hi
   ·exact ax h
  ·rename_i n el ht;split at h;·rename_i i hi;rw[<-co_op h];exact Ri ho ht hi
   ·exact ax h
  ·exact ax h
 ·rename_i t x y ho;exact Nz ho h
 ·rename_i x j ho;rw[<-co_op h];exact WM ho
 ·rename_i b args S ho;exact QC ho h
 ·exact ax h
end
end Ev
namespace Ev
structure AZ(g:Gh)(st:St)(w:World)(g':Gh)(st':St)(w':World)(x:Nat)(v:Value):Prop where
 hr:HR g' st' w'
 fr:Fr g w g' w'
 ext:Ext st.R st.nR st'.R st'.nR
 tr:TR g' st'.R st'.nR x v
def oz(P:Program)(f:Nat)(args:Array Value)(w:World)(B:Value->World->Prop):Prop:=((callFunc f args).run P w=.ok (.enter f args) w/\Calls P f args w λe w'=>∃v,e=.returned v/\B v w')\/∃v w',(callFunc f args).run P w=.ok (.value v) w'/\B v w'
def oz.mono{P:Program}{f:Nat}{args:Array Value}{w:World}{B b:Value->World->Prop}(h:oz P f args w B)(k:∀v w',B v w'->b v w'):oz P f args w b:=by
 rcases h with⟨h1,h2⟩|⟨v,w',h1,h2⟩;·exact .inl ⟨h1,h2.mono λe w'⟨v,c,d⟩=>⟨v,c,k v w' d⟩⟩
 ·exact .inr ⟨v,w',h1,k v w' h2⟩
def Ae(b:Nat->Array Value->World->(Value->World->Prop)->Prop)(K:Kon)(call:Nat->St->RS):Prop:= ∀(f:Nat)(g:Gh)(st:St)(w:World)(args:Array Value)(x:Nat)(st':St),K.In g->HR g st w->st.D=[(args.size,[])]->(∀i,TR g st.R st.nR (gt st.T i) (args.getD i undef))->(∀i,args.size<=i->gt st.T i=0)->call f st=.ok x st'->b f args w λv w'=>∃g',AZ g st w g' st' w' x v
def El(c:Nat->Array Value->World->(Value->World->Prop)->Prop):Prop:=∀f args w B b,c f args w B->(∀v w',B v w'->b v w')->c f args w b
abbrev lu(P:Program)(K:Kon)(call:Nat->St->RS):Prop:=Ae (oz P) K call
def Ai(P:Program):El (oz P):=λ_ _ _ _ _ h k=>h.mono k
def Ij(P:Program)(f:Nat)(args:Array Value)(w:World)(B:Value->World->Prop):Prop:=(callFunc f args).run P w=.ok (.enter f args) w/\CallsD P f args .returning w λe b w'=>∃v,e=.returned v/\b=.returning/\B v w'
def Jb(P:Program):El (Ij P):=λ_ _ _ _ _ h k=>⟨h.1,h.2.mono λ_ _ _⟨v,b,c,d⟩=>⟨v,b,c,k _ _ d⟩⟩
def TR.drop{g:Gh}{R nR:Nat}(b c:Nat){w:Nat}{v:Value}(h:TR g R nR w v)(hk:keep w=false):TR g b c w v:=by
 cases h with|unk v=>exact .unk v|und=>exact .und|cell _ _ h=>exact .cell _ _ h|agg st n=>
  exfalso;have:keep (dY st n)=true:=by
   unfold keep;have:Nat.mod (dY st n) 16=12:=by show dY st n%16=12;unfold dY;omega
   rw[this];rfl
  rw[this]at hk;cases hk|tup st n=>
  exfalso;have:keep (fJ st n)=true:=by
   unfold keep;have:Nat.mod (fJ st n) 16=13:=by show fJ st n%16=13;unfold fJ;omega
   rw[this];rfl
  rw[this]at hk;cases hk
def VR.back{g g1:Gh}(h:g.le g1){w:Nat}{v0 v:Value}(h0:VR g w v0)(h1:VR g1 w v):VR g w v:=by
 induction h0 generalizing v with|unk v0 _=>exact .unk _ h1.one|sym j hj ho=>
  obtain⟨X,c,d,r,q⟩:=h1.UR (by unfold ja;omega) (by unfold ja;omega);have p:j=X:=by unfold ja at c;omega
  subst p;rw[d,h.rh];exact .sym j hj ho|bool b=>obtain⟨Q,c,d⟩:=h1.iC (by cases b<;>decide);rw[d,c];exact .bool Q|int k n M a2=>obtain⟨Y,L,c,d,r,q⟩:=h1.jB (by have:=jy k;unfold ay;omega);rw[d,c];exact .int Y L r q|str st l M a2 a3=>
  obtain⟨st',J,c,d,r,q,p⟩:=h1.sZ (by unfold dE;omega);have A:st=st'/\l=J:=by unfold dE at c;omega
  obtain⟨rfl,rfl⟩:=A;rw[d,zg h a2];exact .str st l M a2 a3|pnil=>rw[h1.ES oqo];exact .pnil|ptr s z o blk base room hs hz hr ho=>
  obtain⟨s',z',C,N,base',room',c,d,r,q,p,A⟩:=h1.Jo (by unfold dU;omega);have y:s=s'/\z=z'/\o=C:=by unfold dU at c;omega
  obtain⟨rfl,rfl,rfl⟩:=y;rw[h.rho s (by rw[hr];simp),hr]at p;injection p with b1 b2 R E;subst b1;subst b2;subst E;rw[d];exact .ptr s z o blk base room hs hz hr ho|snil=>rw[h1.zx oqo];exact .snil|sli s z l e o blk base room cap ad hs hz hl he hr ho d0 ha=>
  obtain⟨s',z',J,S,C,N,base',room',F,D,c,d,r,q,p,A,y,B,H,O⟩:=h1.BH (by unfold bF;omega);have q1:o<=z:=qzi (Nat.le_add_right _ _) ho;have q2:C<=z':=qzi (Nat.le_add_right _ _) B;have G:s=s'/\z=z'/\l=J/\e=S/\o=C:=by unfold bF at c;omega
  obtain⟨rfl,rfl,rfl,rfl,rfl⟩:=G;rw[h.rho s (by rw[hr];simp),hr]at y;injection y with b1 b2 R E;subst b1;subst b2;subst E;rw[d];exact .sli s z l e o blk base room F D hs hz hl he hr ho H O|semp ad=>obtain⟨D,e⟩:=h1.yT rfl;rw[e];exact .semp D|mnil=>rw[h1.Ey rfl];exact .mnil|map s blk hs hr=>
  obtain⟨s',N,c,d,r,q⟩:=h1.Cc (by unfold iP;omega);have p:s=s':=by unfold iP at c;omega
  subst p;rw[h.rho s (by rw[hr];simp),hr]at q;injection q with b1;subst b1;rw[d];exact .map s blk hs hr|fnil=>rw[h1.Fp rfl];exact .fnil|inil=>rw[h1.EE rfl];exact .inil|func f m n s ws first cap hf hm hn hs hr hm' hn' hw _ _ W i2=>
  obtain⟨I,Z,L,s',e0,V,F,c,d,r,q,p,A,y,B,H,O,G,T⟩:=h1.om (by unfold fe;omega);have U:f=I/\m=Z/\n=L/\s=s':=by unfold fe at c;omega
  obtain⟨rfl,rfl,rfl,rfl⟩:=U;rw[h.rho s (by rw[hr];simp),hr]at y;injection y with b1;subst b1;rw[d];exact .func f m n s ws V F hf hm hn hs hr B H hw (λi hi=>W i hi (G i hi)) (λi hi=>i2 i hi (T i hi))|fn0 f hf=>
  obtain⟨I,c,d,r⟩:=h1.tq (by unfold ig;omega);have:f=I:=by unfold ig at c;omega
  subst this;rw[d];exact .fn0 f hf|ifc t s u v0 ht hs hr hv hz ih=>
  obtain⟨t',s',u',x,c,d,r,q,p,A,y⟩:=h1.Jk (by unfold jb;omega);have B:t=t'/\s=s':=by unfold jb at c;omega
  obtain⟨rfl,rfl⟩:=B;rw[h.rho s (by rw[hr];simp),hr]at p;injection p with b1;injection b1 with b1 _;subst b1;rw[d];exact .ifc t s u x ht hs hr (ih A) hz
def lL.back{g g':Gh}(hle:g.le g'){m:Nat}{o B:Obj}(h:lL g' m o)(h0:lL g m B):lL g m o:=by
 obtain⟨c,nv,s,ws,es,clock,h1,h2,h3,r,t,u,v,x,y⟩:=h;obtain⟨k,A,s',C,E,D,k1,k2,k3,k4,k5,k6,k7,k8,k9⟩:=h0;have e:=h1.symm.trans k1;unfold eMp at e;have l:c=k:=oqo;have p:nv=A:=oqo;have q:s=s':=oqo;subst l;subst p;subst q;have hr:=hle.rho s (by rw[k5];simp);have z:ws=C:=by rw[t,k5]at hr;injection hr
 subst z;refine⟨c,nv,s,ws,es,clock,h1,h2,h3,r,k5,u,v,x,λi hi=>?_⟩;obtain⟨d,a2⟩:=y i hi;obtain⟨b1,b2⟩:=k9 i oqo;refine⟨b1.back hle d,?_⟩;unfold xq at a2 b2⊢;split;·rename_i b;rw[qzb b]at a2 b2;exact b2.back hle a2
 ·rename_i b;rw[qzc b]at a2 b2;obtain⟨vs,c1,c2,c3⟩:=a2;obtain⟨us,d1,d2,d3⟩:=b2;exact⟨vs,c1,c2,λj hj=>(d3 j hj).back hle (c3 j hj)⟩
def Wz{g g':Gh}{st s:St}{w w':World}(h:HR g st w)(k:HR g' s w')(f:Fr g w g' w')(b:∀i,i<st.nM->gt s.M i=gt st.M i):HR g st w'/\Fr g w g w':=by
 refine⟨⟨h.S,h.nS,h.Slt,h.Mlt,h.Rlt,h.top,h.jR,λa blk base z room hr=>?_,h.rows,λa blk hr=>?_,h.inj,h.pK⟩,⟨f.os,f.tape,f.output,f.size,Gh.le.refl _,f.keep,λ_ _ ho=>ho⟩⟩
 ·obtain⟨c,e,fr,hc⟩:=k.cells a blk base z room (by rw[f.le.rho a (by rw[hr];simp),hr]);obtain⟨c0,l,m,d⟩:=h.cells a blk base z room hr;have ht:=h.top a (by rw[hr];simp);rw[hr]at ht;have ht:a+z<st.nM:=ht;refine⟨c,e,fr,hc.heap,hc.size,hc.room,hc.one,λo ho=>?_,λhl=>hc.thaw ?_⟩;·have:=hc.vr o ho;rw[b (a+o) oqo]at this;exact(d.vr o ho).back f.le this
  ·obtain⟨o,ho,hn⟩:=hl;exact⟨o,ho,by rw[b (a+o) oqo];exact hn⟩
 ·obtain⟨o,ho,hm⟩:=k.maps a blk (by rw[f.le.rho a (by rw[hr];simp),hr]);obtain⟨p,_,j⟩:=h.maps a blk hr;have ht:=h.top a (by rw[hr];simp);rw[b a oqo]at hm;exact⟨o,ho,hm.back f.le j⟩
def Yp{M b n:Nat}(h:Nat.land b (Nat.sub (Nat.pow 2 (Nat.mul 128 n)) 1)=M)(i:Nat)(hi:i<n):gt b i=gt M i:=by have h:ch b 0 n=M:=h;rw[<-h,jW,qzb hi,qja]
def QO{g:Gh}{R nR w:Nat}{v:Value}(m:Gh)(i p:Nat)(h:TR g R nR w v)(hs:small w=true):TR m i p w v:=by
 have hs:w%16=1\/w%16=2:=by unfold small at hs;cases h1:Nat.beq (Nat.mod w 16) 1 with|true=>exact .inl (ah h1)|false=>rw[h1,ag]at hs;exact .inr (ah hs)
 have hv:=h.aM oqo oqo oqo (by intro e;subst e;omega);rcases hs with hs|hs;·obtain⟨b,c,d⟩:=hv.iC hs;rw[c,d];exact .cell _ _ (.bool b)
 ·obtain⟨k,n,c,d,j,l⟩:=hv.jB hs;rw[c,d];exact .cell _ _ (.int k n j l)
section
variable {P:Program}{K:Kon}{call:Nat->St->RS}{g:Gh}{st:St}{w:World}
def MW{g:Gh}{d E s R nR:Nat}{vs:Array Value}(u:R<2^(128*nR)):∀(k:Nat)(q:R3),(∀i,i<k->TR g d E (gt d (s+i)) (vs.getD i undef))->cpT d s R nR k=some q->q.R<2^(128*q.n)/\Ext R nR q.R q.n/\q.c<2^(128*k)/\∀i,i<k->TR g q.R q.n (gt q.c i) (vs.getD i undef)|0,q,_,e=>by have e:some (R3.mk R nR 0)=some q:=e;injection e with e;subst e;exact⟨u,Ext.refl _ _,by simp,λi hi=>absurd hi oqo⟩|k+1,q,hv,t=>by cases hc:cpT d s R nR k with|none=>have e:Option.rec none (λq=>R3.rec (λh b c=>fc (gt d (Nat.add s k)) λw=>sel (keep w) (sel (Nat.beq (Nat.mod w 16) 12) (sel (Nat.blt b 4294967296) (some ⟨ad h b (ch d (sa w) (ln w)),Nat.add b (ln w),ad c k (dY b (ln w))⟩) none) none) (some ⟨h,b,ad c k w⟩)) q) (cpT d s R nR k)=some q:=t;rw[hc]at e;cases e|some p=>
   have e:Option.rec none (λq=>R3.rec (λh b c=>fc (gt d (Nat.add s k)) λw=>sel (keep w) (sel (Nat.beq (Nat.mod w 16) 12) (sel (Nat.blt b 4294967296) (some ⟨ad h b (ch d (sa w) (ln w)),Nat.add b (ln w),ad c k (dY b (ln w))⟩) none) none) (some ⟨h,b,ad c k w⟩)) q) (cpT d s R nR k)=some q:=t;rw[hc]at e;obtain⟨h,b,c⟩:=p;obtain⟨k1,k2,k3,k4⟩:=MW u k ⟨h,b,c⟩ (λi hi=>hv i oqo) hc;dsimp only at k1 k2 k3 k4;have hw:=hv k oqo;have e:sel (keep (gt d (s+k))) (sel (Nat.beq (Nat.mod (gt d (s+k)) 16) 12) (sel (Nat.blt b 4294967296) (some ⟨ad h b (ch d (sa (gt d (s+k))) (ln (gt d (s+k)))),Nat.add b (ln (gt d (s+k))),ad c k (dY b (ln (gt d (s+k))))⟩) none) none) (some ⟨h,b,ad c k (gt d (s+k))⟩)=some q:=e;generalize gt d (s+k)=w at hw e;have v:∀(y:Nat),y<2^128->ad c k y<2^(128*(k+1)):=λy r=>iJ k3 (by simpa using r);have z:∀(y:Nat),y<2^128->∀i,i<k+1->gt (ad c k y) i=if i<k then gt c i else y:=λy r i hi=>by
    rw[dK _ _ k3];split;·rfl
    ·rw[show i-k=0 by omega,gP _ r,qzb rfl]
   cases hk:keep w with|false=>
    rw[hk,ag]at e;injection e with e;subst e;refine⟨k1,k2,v _ hw.lt,λi hi=>?_⟩;dsimp only;rw[z _ hw.lt i hi];split;·exact k4 i ‹_›
    ·rw[show i=k by omega];exact hw.drop _ _ hk|true=>rw[hk,aj]at e;cases m:Nat.beq (Nat.mod w 16) 12 with|false=>rw[m,ag]at e;cases e|true=>rw[m,aj]at e;cases l:Nat.blt b 4294967296 with|false=>rw[l,ag]at e;cases e|true=>
      rw[l,aj]at e;injection e with e;subst e;have l:=aT l;obtain⟨us,b1,b2,F,G,H,B,C⟩:=hw.agg' (ah m);have hl:ln w<16777216:=by assumption
      have D:ch d (sa w) (ln w)<2^(128*ln w):=jT _ _ _;have x:Ext h b (ad h b (ch d (sa w) (ln w))) (b+ln w):=Ext.ad _ _ k1;have A:dY b (ln w)<2^128:=by unfold dY;omega
      refine⟨iJ k1 D,k2.trans x,v _ A,λi hi=>?_⟩;dsimp only;rw[z _ A i hi];split;·exact(k4 i ‹_›).mono (Gh.le.refl _) x
      ·rw[show i=k by omega,b2];refine .agg b (ln w) us hl l (qqf _) B λj hj=>?_;rw[dK _ _ k1,qzc oqo,show b+j-b=j by omega,jW,qzb hj];exact C j hj
def XC{r:RS}{x:Nat}{st':St}(e:fin st r=.ok x st')(t:HR g st w):∃y s,r=.ok y s/\∀{g':Gh}{w':World}{v:Value},HR g' s w'->Fr g w g' w'->Ext st.R st.nR s.R s.nR->TR g' s.R s.nR y v->∃G,Post g st w G st' w' x v:=by cases r with|no=>cases e|ok y s=>refine⟨y,s,rfl,?_⟩;unfold fin at e;dsimp only at e;rw[bX]at e;cases hk:keep y with
  |true=>rw[hk,aj]at e;unfold YD at e;cases z:Nat.beq (Nat.mod y 16) 12 with|true=>
    rw[z,aj]at e;have e:sel (Nat.blt st.nR 4294967296) (.ok (dY st.nR (ln y)) ⟨st.T,st.D,ad st.R st.nR (ch s.R (sa y) (ln y)),Nat.add st.nR (ln y),s.M,s.nM,s.S,s.nS⟩) .no=RS.ok x st':=e;obtain⟨k,e⟩:=ae e;have k:=aT k;injection e with d h;intro g' w' v l m I p;obtain⟨us,b1,b2,J,N,O,C,E⟩:=p.agg' (ah z);have hl:ln y<16777216:=by assumption
    have S:ch s.R (sa y) (ln y)<2^(128*ln y):=jT _ _ _;subst d;subst h;refine⟨g',l.frame _ _ (iJ t.Rlt S),m,Ext.ad _ _ t.Rlt,?_,rfl,rfl⟩;rw[b2];refine .agg st.nR (ln y) us hl k (qqf _) C λj hj=>?_;dsimp only;rw[dK _ _ t.Rlt,if_neg oqo,show st.nR+j-st.nR=j by omega,jW,if_pos hj];exact E j hj|false=>
    rw[z,ag]at e;have Q:y%16=13:=by unfold keep at hk;rw[z,ag]at hk;exact ah hk
    have e:Option.rec .no (λq=>R3.rec (λu b c=>sel (Nat.blt b 4294967296) (.ok (fJ b (ln y)) ⟨st.T,st.D,ad u b c,Nat.add b (ln y),s.M,s.nM,s.S,s.nS⟩) .no) q) (cpT s.R (sa y) st.R st.nR (ln y))=RS.ok x st':=e;cases A:cpT s.R (sa y) st.R st.nR (ln y)with|none=>rw[A]at e;cases e|some q=>
     rw[A]at e;obtain⟨u,b,c⟩:=q;have e:sel (Nat.blt b 4294967296) (.ok (fJ b (ln y)) ⟨st.T,st.D,ad u b c,Nat.add b (ln y),s.M,s.nM,s.S,s.nS⟩) .no=RS.ok x st':=e;obtain⟨k,e⟩:=ae e;have k:=aT k;injection e with d h;intro g' w' v l m I p;obtain⟨B,n0,vs,b1,b2,J,N,O,C,E⟩:=p.um Q;have M:ln y=n0:=by rw[b1];unfold ln fJ;show(13+16*n0+268435456*B)/16%16777216=n0;omega
     have U:sa y=B:=by rw[b1];unfold sa fJ;show(13+16*n0+268435456*B)/268435456=B;omega
     rw[M,U]at A;obtain⟨c1,c2,c3,c4⟩:=MW (vs:=vs) t.Rlt n0 _ E A;dsimp only at c1 c2 c3 c4;subst d;subst h;rw[M];have L:Ext u b (ad u b c) (b+n0):=Ext.ad _ _ c1;refine⟨g',l.frame _ _ (iJ c1 c3),m,c2.trans L,?_,rfl,rfl⟩;rw[b2];refine .tup b n0 vs J k (qqf _) C λj hj=>?_;dsimp only;rw[dK _ _ c1,if_neg oqo,show b+j-b=j by omega];exact(c4 j hj).mono (Gh.le.refl _) L
  |false=>
   rw[hk,ag]at e;have F:Xk y st s=.ok x st'->∀{g':Gh}{w':World}{v:Value},HR g' s w'->Fr g w g' w'->Ext st.R st.nR s.R s.nR->TR g' s.R s.nR y v->∃G,Post g st w G st' w' x v:=λe=>by change RS.ok y {s with T:=st.T,D:=st.D,R:=st.R,nR:=st.nR}=.ok x st' at e;injection e with d h;subst d;subst h;exact λ{g' _ _}l m I p=>⟨g',l.frame _ _ t.Rlt,m,Ext.refl _ _,p.drop _ _ hk,rfl,rfl⟩
   cases H:small y with|false=>rw[H,ag]at e;exact@F e|true=>rw[H,aj]at e;change sel (Nat.beq st.nM s.nM) (.ok y {s with T:=st.T,D:=st.D,R:=st.R,nR:=st.nR}) (sel (Nat.beq (Nat.land s.M (Nat.sub (Nat.pow 2 (Nat.mul 128 st.nM)) 1)) st.M) (.ok y st) (.ok y {s with T:=st.T,D:=st.D,R:=st.R,nR:=st.nR}))=RS.ok x st' at e;cases h1:Nat.beq st.nM s.nM with|true=>rw[h1,aj]at e;exact@F e|false=>rw[h1,ag]at e;cases h2:Nat.beq (Nat.land s.M (Nat.sub (Nat.pow 2 (Nat.mul 128 st.nM)) 1)) st.M with|false=>rw[h2,ag]at e;exact@F e|true=>rw[h2,aj]at e;injection e with d h;subst d;subst h;intro g' w' v l m I p;obtain⟨V,W⟩:=Wz t l m λi hi=>Yp (ah h2) i hi;exact⟨g,V,W,Ext.refl _ _,QO _ _ _ p H,rfl,rfl⟩
def wQ{b:Nat->Array Value->World->(Value->World->Prop)->Prop}(hm:El b)(hc:Ae b K call)(hk:K.In g)(c:HR g st w){f n T x:Nat}{st':St}{args:Array Value}(hn:n=args.size)(j:∀i,TR g st.R st.nR (gt T i) (args.getD i undef))(k:∀i,args.size<=i->gt T i=0)(e:calls call f n T st=.ok x st'):b f args w λv w'=>∃g',Post g st w g' st' w' x v:=by unfold calls at e;rw[bX]at e;obtain⟨y,s,d,h⟩:=XC e c;change call f {st with T:=T,D:=[(n,[])]}=.ok y s at d;have h0:HR g {st with T:=T,D:=[(n,[])]} w:=c.frame _ _ c.Rlt;refine hm _ _ _ _ _ (hc f g {st with T:=T,D:=[(n,[])]} w args y s hk h0 (by rw[hn]) j k d) λv w'⟨g',l⟩=>?_;obtain⟨m,p,q,r⟩:=l;exact h m p q r
def Sk(hc:lu P K call)(hk:K.In g)(d:HR g st w){f n T x:Nat}{st':St}{args:Array Value}(hn:n=args.size)(b:∀i,TR g st.R st.nR (gt T i) (args.getD i undef))(c:∀i,args.size<=i->gt T i=0)(e:calls call f n T st=.ok x st'):oz P f args w λv w'=>∃g',Post g st w g' st' w' x v:=wQ (Ai P) hc hk d hn b c e
def zC{ρ:Operand->Value}{T R nR:Nat}{l:List Operand}(h:∀y∈l,TR g R nR (rd T (cOp K y)) (ρ y)):∀i,TR g R nR ((rds T (l.map (cOp K))).getD i 0) (((l.map ρ).toArray).getD i undef):=λi=>by
 by_cases hi:i<l.length;·rw[yN _ _ _ (by simpa using hi)];have:=h l[i] (jxr hi);simpa [hi]using this
 ·have h1:(rds T (l.map (cOp K))).getD i 0=0:=by
   have:(rds T (l.map (cOp K))).length=l.length:=by simp[rds]
   simp[qqm,this,hi]
  rw[h1];exact .unk _
end
end Ev
namespace Ev
section
variable {P:Program}{K:Kon}{call:Nat->St->RS}{g:Gh}{st:St}{w:World}
def AJ{T R nR:Nat}{g:Gh}{ρ:Operand->Value}{l:List Operand}(h:∀y∈l,TR g R nR (rd T (cOp K y)) (ρ y)):∀x∈rds T (l.map (cOp K)),x<2^128:=λx b=>by unfold rds at b;rw[qzx]at b;obtain⟨y,c,rfl⟩:=qjb.1 b;exact(h y c).lt
def Ar{f m n s:Nat}(hf:f<65536)(hm:m<256)(hn:n<256):Nat.mod (Nat.div (fe f m n s) 16) 65536=f/\Nat.mod (Nat.div (fe f m n s) 1048576) 256=m/\Nat.mod (Nat.div (fe f m n s) 268435456) 256=n/\Nat.div (fe f m n s) 68719476736=s:=by
 refine⟨?_,?_,?_,?_⟩;·show fe f m n s/16%65536=f;unfold fe;omega
 ·show fe f m n s/1048576%256=m;unfold fe;omega
 ·show fe f m n s/268435456%256=n;unfold fe;omega
 ·show fe f m n s/68719476736=s;unfold fe;omega
def JA{j:Nat->Array Value->World->(Value->World->Prop)->Prop}(q:El j)(hc:Ae j K call)(hk:K.In g)(l:HR g st w){c x:Nat}{fv:Value}{ws:List Nat}{args:Array Value}{st':St}(hf:TR g st.R st.nR c fv)(hl:ws.length=args.size)(h:∀y∈ws,y<2^128)(hw:∀i,TR g st.R st.nR (ws.getD i 0) (args.getD i undef))(e:dyn call c ws st=.ok x st'): ∃f first cap,fv=.func (.func f) first cap/\j f (first++args++cap) w λv w'=>∃g',Post g st w g' st' w' x v:=by
 unfold dyn at e
 cases h1:Nat.beq (Nat.mod c 16) 15 with|true=>
  rw[h1,aj]at e;have h1:c%16=15:=ah h1;obtain⟨f,rfl,rfl,B⟩:=(hf.aM oqo oqo oqo oqo).tq h1;refine⟨f,#[],#[],rfl,?_⟩;have k:Nat.div (ig f) 16=f:=by show ig f/16=f;unfold ig;omega
  rw[k]at e;refine wQ q hc hk l (by simpa using hl) (λi=>?_) (λi hi=>?_) e;·rw[gQ _ _ h];simpa using hw i
  ·rw[gQ _ _ h,qqm,qza (by simp at hi;omega)];rfl|false=>
  rw[h1,ag]at e;obtain⟨h2,e⟩:=ae e;have h2:c%16=10:=ah h2;obtain⟨f,m,n,s,p,first,cap,rfl,rfl,f1,f2,f3,f4,f5,f6,f7,f8,f9,A⟩:=(hf.aM oqo oqo oqo oqo).om h2;refine⟨f,first,cap,rfl,?_⟩;obtain⟨k,em,u,z⟩:=Ar (s:=s) f1 f2 f3;rw[k,em,u,z]at e;simp only[nA]at e;have r:=l.rows s p f5;have c1:=jT st.M s m;have c2:=mF ws h;have t:=iJ c1 c2;have key:∀i,gt (ad (ad (ch st.M s m) m (dZ ws)) (m+ws.length) (ch st.M (s+m) n)) i=if i<m then p.getD i 0 else if i<m+ws.length then ws.getD (i-m) 0 else if i<m+ws.length+n then p.getD (m+(i-(m+ws.length))) 0 else 0:=λi=>by
   rw[dK _ _ t];by_cases b:i<m+ws.length
   ·rw[qzb b,dK _ _ c1];by_cases i2:i<m;·rw[qzb i2,qzb i2,jW,qzb i2,r i oqo]
    ·rw[qzc i2,qzc i2,qzb b,gQ _ _ h]
   ·rw[qzc b,qzc oqo,qzc b,jW];by_cases d:i<m+ws.length+n;·rw[qzb oqo,qzb d,show s+m+(i-(m+ws.length))=s+(m+(i-(m+ws.length)))by omega,r _ oqo]
    ·rw[qzc oqo,qzc d]
  have sz:(first++args++cap).size=m+ws.length+n:=by simp;omega
  refine wQ q hc hk l sz.symm (λi=>?_) (λi hi=>?_) e
  ·rw[key];by_cases b:i<m
   ·rw[qzb b];have:(first++args++cap).getD i undef=first.getD i undef:=by simp[qqg,jxk,show i<first.size by omega]
    rw[this];exact .cell _ _ (f9 i b)
   ·rw[qzc b];by_cases i2:i<m+ws.length
    ·rw[qzb i2];have:(first++args++cap).getD i undef=args.getD (i-m) undef:=by rw[qqg,qqg,jxk,jxk,qzb (by simp;omega),qzc oqo,f6]
     rw[this];exact hw _
    ·rw[qzc i2];by_cases d:i<m+ws.length+n
     ·rw[qzb d];have:(first++args++cap).getD i undef=cap.getD (i-(m+ws.length)) undef:=by rw[qqg,qqg,jxk,qzc (by simp;omega),jjj,f6,hl]
      rw[this];exact .cell _ _ (A _ oqo)
     ·rw[qzc d];exact .unk _
  ·rw[sz]at hi;rw[key,qzc oqo,qzc oqo,qzc oqo]
def XP(hc:lu P K call)(hk:K.In g)(c:HR g st w){b x:Nat}{fv:Value}{ws:List Nat}{args:Array Value}{st':St}(hf:TR g st.R st.nR b fv)(hl:ws.length=args.size)(d:∀y∈ws,y<2^128)(hw:∀i,TR g st.R st.nR (ws.getD i 0) (args.getD i undef))(e:dyn call b ws st=.ok x st'): ∃f first cap,fv=.func (.func f) first cap/\oz P f (first++args++cap) w λv w'=>∃g',Post g st w g' st' w' x v:=JA (Ai P) hc hk c hf hl d hw e
def Gn(g:Gh)(R nR:Nat)(q:Nat×List Nat)(d:Deferred):Prop:= ∃fv first cap vs,TR g R nR q.1 (.func fv first cap)/\EA q.1=true/\d={target:=.fn fv cap,args:=first++vs}/\q.2.length=vs.size/\(∀y∈q.2,y<2^128)/\∀i,TR g R nR (q.2.getD i 0) (vs.getD i undef)
inductive DR(g:Gh)(R nR:Nat):List (Nat×List Nat)->List Deferred->Prop|nil:DR g R nR [] []|cons{q d l ds}:Gn g R nR q d->DR g R nR l ds->DR g R nR (q::l) (d::ds)
def Gn.mono{g g':Gh}{R nR b c:Nat}(h:g.le g')(hr:Ext R nR b c){q:Nat×List Nat}{d:Deferred}(k:Gn g R nR q d):Gn g' b c q d:=by obtain⟨fv,first,cap,vs,h1,h2,h3,e,j,l⟩:=k;exact⟨fv,first,cap,vs,h1.mono h hr,h2,h3,e,j,λi=>(l i).mono h hr⟩
def DR.mono{g g':Gh}{R nR b c:Nat}(h:g.le g')(hr:Ext R nR b c){l:List (Nat×List Nat)}{ds:List Deferred}(k:DR g R nR l ds):DR g' b c l ds:=by induction k with|nil=>exact .nil|cons a _ ih=>exact .cons (a.mono h hr) ih
structure xx(g:Gh)(st:St)(w:World)(g':Gh)(st':St)(w':World)(x:Nat)(v:Value)(ds ds':List Deferred):Prop where
 hr:HR g' st' w'
 fr:Fr g w g' w'
 ext:Ext st.R st.nR st'.R st'.nR
 tr:TR g' st'.R st'.nR x v
 T:st'.T=st.T
 D:DR g' st'.R st'.nR st'.D ds'
def Post.Et{g':Gh}{st':St}{w':World}{x:Nat}{v:Value}{ds:List Deferred}(h:Post g st w g' st' w' x v)(hd:DR g st.R st.nR st.D ds):xx g st w g' st' w' x v ds ds:=⟨h.hr,h.fr,h.ext,h.tr,h.T,by rw[h.D];exact hd.mono h.fr.le h.ext⟩
end
end Ev
namespace Ev
section
variable {P:Program}{K:Kon}{call:Nat->St->RS}{g:Gh}{st:St}{w:World}{o:Oper}{a:Act}
def UY(op:BinOp)(t:TypeId)(x y:Operand):∃f,Gi P K op t x y=.op f:=by
 unfold Gi cSe;repeat' split
 all_goals exact⟨_,rfl⟩
def Qq(s d:TypeId)(x:Operand):∃f,Al P K s d x=.op f:=by
 unfold Al;repeat' split
 all_goals exact⟨_,rfl⟩
def Qi(b:Builtin)(c:Array TypeId)(args:List Operand):∃f,zS P K b c args=.op f:=by
 unfold zS;repeat' split
 all_goals exact⟨_,rfl⟩
def PI(t:TypeId)(parts:Array (Nat×Operand)):∃f,vV P K t parts=.op f:=by
 unfold vV;repeat' split
 all_goals exact⟨_,rfl⟩
def LM(t:TypeId)(len:Nat)(parts:Array (Nat×Operand)):∃f,nO P K t len parts=.op f:=by
 unfold nO;repeat' split
 all_goals exact⟨_,rfl⟩
def NI(t:TypeId)(x:Operand)(b hi c:Option Operand):∃f,wH P K t x b hi c=.op f:=by
 unfold wH;repeat' split
 all_goals exact⟨_,rfl⟩
def Oa(t:TypeId)(x y:Operand):∃f,vZ P K t x y=.op f:=by
 unfold vZ;repeat' split
 all_goals exact⟨_,rfl⟩
def O1(t:TypeId)(x:Operand)(j:Nat):∃f,wJ P K t x j=.op f:=by
 unfold wJ;repeat' split
 all_goals exact⟨_,rfl⟩
def J7{t:TypeId}{k:Nat->Nat->CO}(h:∀b nv,∃f,k b nv=.op f):∃f,uY P t k=.op f:=by
 unfold uY;repeat' split
 all_goals first|exact h _ _|exact⟨_,rfl⟩
def YT{c:Prop} [Decidable c]{x y:CO}(b:∃f,x=.op f)(d:∃f,y=.op f):∃f,(if c then x else y)=.op f:=by
 split;·exact b
 ·exact d
def GZ(P:Program)(K:Kon)(o:Oper):∃f,oC P K o=.op f:=by
 unfold oC;repeat' split
 all_goals first|exact⟨_,rfl⟩|exact UY _ _ _ _|exact Qq _ _ _|exact Qi _ _ _|exact PI _ _|exact LM _ _ _|exact NI _ _ _ _ _|exact Oa _ _ _|exact O1 _ _ _|exact J7 λ_ _=>⟨_,rfl⟩|exact J7 λ_ _=>YT ⟨_,rfl⟩ ⟨_,rfl⟩
def Sw(hk:K.In g)(c:HR g st w)(i:∀y∈o.op.operands,TR g st.R st.nR (rd st.T (cOp K y)) (a.eval y)){x:Nat}{st':St}(b:dC P o.op=true)(e:kE call (cO P K o) st=.ok x st'): ∃g' w' v,((execOp a.eval o).run P w=.ok (.value v) w'\/((execOp a.eval o).run P w=.ok .skip w'/\v=undef))/\Post g st w g' st' w' x v/\HR g' st' w/\Fr g w g' w/\ma w w':=by
 have h:cO P K o=oC P K o:=by
  unfold cO;split;·rename_i ho;rw[ho]at b;simp[dC]at b
  ·rename_i ho;rw[ho]at b;simp[dC]at b
  ·rename_i ho;rw[ho]at b;simp[dC]at b
  ·rfl
 obtain⟨f,hf⟩:=GZ P K o;rw[h,hf]at e;obtain⟨g',w',v,h1,h2,h3⟩:=FH hf g st a w x st' hk c i e;refine⟨g',w',v,h1,h2,?_⟩;rcases h3 b with rfl|⟨rfl,rfl,d⟩;·exact⟨h2.hr,h2.fr,ma.refl _⟩
 ·exact⟨c,Fr.refl _ _,d⟩
def NU{R nR:Nat}{b:Nat}{v:Value}(h:TR g R nR b v)(hf:EA b=true):∃fv first cap,v=.func fv first cap:=by unfold EA at hf;cases h1:Nat.beq (Nat.mod b 16) 10 with|true=>have h1:b%16=10:=ah h1;obtain⟨_,_,_,_,_,_,_,_,e,_⟩:=(h.aM oqo oqo oqo oqo).om h1;exact⟨_,_,_,e⟩|false=>rw[h1,ag]at hf;have h2:b%16=15:=ah hf;obtain⟨_,_,e,_⟩:=(h.aM oqo oqo oqo oqo).tq h2;exact⟨_,_,_,e⟩
def FI{f:Nat}{args:Array Value}{B:Value->World->Prop}{next:Act->World->Prop}{Q:Exit->Act->World->Prop}(h:oz P f args w B)(hr:(execOp a.eval o).run P w=(callFunc f args).run P w)(hn:∀v w',B v w'->next (a.put o.dst v) w'):o.wp P a w next Q:=by
 unfold Oper.wp;rw[hr];rcases h with⟨h1,h2⟩|⟨v,w',h1,h2⟩;·rw[h1,Oper.upon_enter];exact h2.mono λe w'⟨v,b,c⟩=>by subst b;exact hn v w' c
 ·rw[h1,Oper.upon_value];exact hn v w' h2
def step_ok(hc:lu P K call)(hk:K.In g)(j:HR g st w)(d:∀y∈o.op.operands,TR g st.R st.nR (rd st.T (cOp K y)) (a.eval y))(hd:DR g st.R st.nR st.D a.defers){x:Nat}{st':St}(e:kE call (cO P K o) st=.ok x st'){next:Act->World->Prop}{Q:Exit->Act->World->Prop}(hn:∀g' w' v ds',xx g st w g' st' w' x v a.defers ds'->next (({a with defers:=ds'}:Act).put o.dst v) w'):o.wp P a w next Q:=by
 unfold cO at e;split at e
 ·rename_i f args q ho;have b:∀y∈args.toList,TR g st.R st.nR (rd st.T (cOp K y)) (a.eval y):=λy hm=>d y (by rw[ho];simp only[Op.operands,Call.operands];simp;exact .inr (by simpa using hm));have h:args.map a.eval=(args.toList.map a.eval).toArray:=by apply jxt;simp
  have m:oz P f (args.map a.eval) w λv w'=>∃g',Post g st w g' st' w' x v:=by
   change calls call f (args.toList.map (cOp K)).length (dZ (rds st.T (args.toList.map (cOp K)))) st=.ok x st' at e;refine Sk hc hk j (by simp) (λi=>?_) (λi hi=>?_) e;·rw[gQ _ _ (AJ b),h];exact zC b i
   ·rw[gQ _ _ (AJ b),qqm,qza (by simp[rds]at hi⊢;omega)];rfl
  refine FI m ?_ λv w'⟨g',p⟩=>hn g' w' v a.defers (p.Et hd);simp[execOp,ho,resolve,Act.eval,Deferred.ofValue,invoke]
 ·rename_i c args q u ho;have b:∀y∈args.toList,TR g st.R st.nR (rd st.T (cOp K y)) (a.eval y):=λy hm=>d y (by rw[ho];simp only[Op.operands,Call.operands];simp;exact .inr (by simpa using hm));have l:=d c (by rw[ho];simp[Op.operands,Call.operands]);have h:args.map a.eval=(args.toList.map a.eval).toArray:=by apply jxt;simp
  change dyn call (rd st.T (cOp K c)) (rds st.T (args.toList.map (cOp K))) st=.ok x st' at e;obtain⟨f,first,cap,k,m⟩:=XP hc hk j (args:=args.map a.eval) l (by simp[rds]) (AJ b) (λi=>by rw[h];exact zC b i) e;refine FI m ?_ λv w'⟨g',p⟩=>hn g' w' v a.defers (p.Et hd);simp[execOp,ho,resolve,k,Deferred.ofValue,invoke]
 ·rename_i c args q ho;have b:∀y∈args.toList,TR g st.R st.nR (rd st.T (cOp K y)) (a.eval y):=λy hm=>d y (by rw[ho];simp only[Op.operands,Call.operands];simp;exact .inr (by simpa using hm));have l:=d c (by rw[ho];simp[Op.operands,Call.operands]);have h:args.map a.eval=(args.toList.map a.eval).toArray:=by apply jxt;simp
  change sel (EA (rd st.T (cOp K c))) (RS.ok 14 {st with D:=(rd st.T (cOp K c),rds st.T (args.toList.map (cOp K)))::st.D}) .no=.ok x st' at e;obtain⟨h1,e⟩:=ae e;injection e with r s;obtain⟨fv,first,cap,k⟩:=NU l h1;have t:(execOp a.eval o).run P w=.ok (.defer {target:=.fn fv cap,args:=first++args.map a.eval}) w:=by simp[execOp,ho,resolve,k,Deferred.ofValue]
  unfold Oper.wp;rw[t,Oper.upon_defer];subst s;refine hn g w undef _ ⟨j.frame _ _ j.Rlt,Fr.refl _ _,Ext.refl _ _,by rw[<-r];exact .und,rfl,.cons ⟨fv,first,cap,args.map a.eval,by rw[<-k];exact l,h1,rfl,by simp[rds],AJ b,λi=>by rw[h];exact zC b i⟩ hd⟩
 ·obtain⟨f,hf⟩:=GZ P K o;rw[hf]at e;obtain⟨g',w',v,h1,h2,h3⟩:=FH hf g st a w x st' hk j d e;unfold Oper.wp;rcases h1 with h1|⟨h1,rfl⟩;·rw[h1,Oper.upon_value];exact hn g' w' v a.defers (h2.Et hd)
  ·rw[h1,Oper.upon_skip];exact hn g' w' undef a.defers (h2.Et hd)
end
end Ev
namespace Ev
structure FR(g:Gh)(st:St)(a:Act)(n:Nat):Prop where
 size:n<=a.tmps.size
 slot:∀t,TR g st.R st.nR (gt st.T t) (a.eval (.tmp t))defers:DR g st.R st.nR st.D a.defers
def put_eq(d:Nat)(x:Nat)(st:St)(k:St->RS):put (some d) x st k=k {st with T:=up1 st.T d x}:=by cases st;simp only[put,Yl,bX]
def GJ{w:Nat}(T d k:Nat)(h:w<2^128):gt (up1 T d w) k=if k=d then w else gt T k:=XN T d k h
noncomputable def iY(st:St)(d:Option Nat)(x:Nat):St:=match d with|some d=>{st with T:=up1 st.T d x}|none=>st
def Ow(d:Option Nat)(x:Nat)(st:St)(k:St->RS):put d x st k=k (iY st d x):=by cases d with|none=>rfl|some d=>exact put_eq d x st k
def eU{a:Act}{d:Nat}(v:Value)(t:Nat)(h:d<a.tmps.size):(a.put (some d) v).eval (.tmp t)=if t=d then v else a.eval (.tmp t):=by
 simp only[Act.put,Act.eval,qqg,qzy];by_cases e:t=d;·subst e;simp[h]
 ·rw[qzc (Ne.symm e),qzc e]
section
variable {P:Program}{K:Kon}{call:Nat->St->RS}{g:Gh}{st:St}{w:World}{o:Oper}{a:Act}{n:Nat}
def FR.opd(h:FR g st a n)(hk:K.In g)(y:Operand):TR g st.R st.nR (rd st.T (cOp K y)) (a.eval y):=Fb hk λt e=>by subst e;exact h.slot t
def FR.put(h:FR g st a n){g':Gh}{st':St}{w':World}{x:Nat}{v:Value}{ds':List Deferred}(b:xx g st w g' st' w' x v a.defers ds'){d:Option Nat}(hd:∀i,d=some i->i<n):FR g' (iY st' d x) (({a with defers:=ds'}:Act).put d v) n:=by have hs:=h.size;cases d with|none=>exact⟨hs,λt=>by show TR _ _ _ (gt st'.T t) (a.eval (.tmp t));rw[b.T];exact(h.slot t).mono b.fr.le b.ext,b.D⟩|some d=>
  have hd:=hd d rfl;refine⟨by simpa [Act.put]using hs,λt=>?_,b.D⟩;rw[eU _ _ (by show d<a.tmps.size;omega)];show TR g' st'.R st'.nR (gt (up1 st'.T d x) t) _;rw[GJ _ _ _ b.tr.lt];split;·exact b.tr
  ·rw[b.T];exact(h.slot t).mono b.fr.le b.ext
def qV{g':Gh}{st':St}{w':World}(h:HR g' st' w')(d:Option Nat)(x:Nat):HR g' (iY st' d x) w':=by cases d with|none=>exact h|some d=>exact h.frame _ _ h.Rlt
def DJ(h:FR g st a n){t:Nat}{b:Bool}(e:gt st.T t=if b then 17 else 1):a.tmps[t]? =some (.bool b):=by
 have ht:=h.slot t;rw[e]at ht;have hv:a.eval (.tmp t)=.bool b:=by obtain⟨c,i,j⟩:=(ht.aM (by cases b<;>decide) (by cases b<;>decide) (by cases b<;>decide) (by cases b<;>decide)).iC (by cases b<;>rfl);rw[j];cases b<;>cases c<;>first|rfl|(exact absurd i (by decide))
 simp only[Act.eval,qqg]at hv;cases d:a.tmps[t]? with|none=>rw[d]at hv;cases b<;>cases hv|some v=>rw[d]at hv;rw[qzm]at hv;rw[hv]
def JE{g:Gh}{R nR x:Nat}{v:Value}(h:TR g R nR x v)(b:x=14):v=undef:=by cases h with|unk=>omega|und=>rfl|cell _ _ h=>have:=h.tag;omega|agg s n=>exfalso;unfold dY at b;omega|tup s n=>exfalso;unfold fJ at b;omega
def Ll(h:FR g st a n){t:Nat}(e:gt st.T t=14)(b:Bool):a.tmps[t]?≠some (.bool b):=by have hv:a.eval (.tmp t)=undef:=JE (h.slot t) e;intro c;simp only[Act.eval,qqg,c,qzm]at hv;cases hv
def GM(h:FR g st a n){ops:Array Oper}{q:Nat×Bool}{d:Nat}{b:Bool}(m:o.guard=some q)(hc:cGd ops q=some d)(e:gd st.T d=some b):Region.wanted o (yielded ops a.tmps)=b:=by
 obtain⟨j,i⟩:=q;unfold cGd at hc;split at hc
 ·rename_i s hs;dsimp only at hs;injection hc with hc;dsimp only at hc;have k:Nat.div d 2=s:=by show d/2=s;cases i<;>simp at hc<;>omega
  have l:Nat.mod d 2=if i then 1 else 0:=by show d%2=_;cases i<;>simp at hc⊢ <;>omega
  unfold gd at e;rw[k,l]at e;have r:yielded ops a.tmps j=match a.tmps[s]? with|some (.bool c)=>some c|_=>none:=by unfold yielded;rw[hs];rfl
  simp only[Region.wanted,m,r];cases h1:Nat.beq (gt st.T s) 17 with|true=>rw[h1,aj]at e;have h1:=ah h1;rw[DJ h (b:=true) (by simpa using h1)];injection e with e;subst e;cases i<;>rfl|false=>rw[h1,ag]at e;cases h2:Nat.beq (gt st.T s) 1 with|true=>rw[h2,aj]at e;have h2:=ah h2;rw[DJ h (b:=false) (by simpa using h2)];injection e with e;subst e;cases i<;>rfl|false=>rw[h2,ag]at e;cases h3:Nat.beq (gt st.T s) 14 with|false=>rw[h3,ag]at e;cases e|true=>
     rw[h3,aj]at e;injection e with e;subst e;have hn:=Ll h (ah h3);split;·rename_i c p;exact absurd p (hn c)
     ·cases i<;>rfl
 ·cases hc
def AX(call:Nat->St->RS)(P:Program)(K:Kon)(ops:Array Oper)(o:Oper)(st:St)(x:Nat)(st':St):Prop:=(o.guard=none/\kE call (cO P K o) st=.ok x st')\/ ∃q c b,o.guard=some q/\cGd ops q=some c/\gd st.T c=some b/\if b then kE call (cO P K o) st=.ok x st' else x=14/\st'=st
def rY{ops:Array Oper}{s:Stp}{l:List Stp}{y:Nat}{i:St}(hs:Kj P K ops o=some s)(e:fB call (s::l) st=.ok y i):∃x st',AX call P K ops o st x st'/\fB call l (iY st' o.dst x)=.ok y i:=by
 have run:∀d co,Fh call d co st (fB call l)=.ok y i->∃x st',kE call co st=.ok x st'/\fB call l (iY st' d x)=.ok y i:=λd co e=>by unfold Fh at e;cases hr:kE call co st with|no=>rw[hr]at e;cases e|ok x st'=>rw[hr]at e;exact⟨x,st',rfl,(Ow d x st' (fB call l)).symm.trans e⟩
 have mv:∀d x,cMv d x=some s->fB call l {st with T:=up1 st.T d (rd st.T x)}=.ok y i:=λd x h=>by cases x with|s t=>injection h with h;subst h;cases st;exact e|c w=>injection h with h;subst h;cases st;exact e
 have rn:∀d co,XV d co=some s->Fh call d co st (fB call l)=.ok y i:=λd co h=>by cases co with
  |op f=>cases d with|none=>injection h with h;subst h;exact e|some d=>injection h with h;subst h;exact e
  |call f l=>injection h with h;subst h;exact e|dyn x l=>injection h with h;subst h;exact e|dfr x l=>injection h with h;subst h;exact e
 unfold Kj at hs;split at hs
 ·rename_i j;split at hs
  ·rename_i x d ho hd;refine⟨_,st,.inl ⟨j,?_⟩,by rw[hd];exact mv d _ hs⟩;have:cO P K o=.op (tQ (cOp K x)):=by simp[cO,oC,ho]
   rw[this];rfl
  ·rename_i x d ho hd;refine⟨_,st,.inl ⟨j,?_⟩,by rw[hd];exact mv d _ hs⟩;have:cO P K o=.op (tQ (cOp K x)):=by simp[cO,oC,ho]
   rw[this];rfl
  ·obtain⟨x,st',h1,h2⟩:=run _ _ (rn _ _ hs);exact⟨x,st',.inl ⟨j,h1⟩,h2⟩
 ·rename_i q j;split at hs;·rename_i k p;injection hs with hs;subst hs;change Qr call k o.dst (cO P K o) st (fB call l)=.ok y i at e;unfold Qr at e;cases m:gd st.T k with|none=>rw[m]at e;cases e|some b=>rw[m]at e;cases b with|true=>obtain⟨x,st',h1,h2⟩:=run _ _ e;exact⟨x,st',.inr ⟨q,k,true,j,p,m,h1⟩,h2⟩|false=>change put o.dst 14 st (fB call l)=.ok y i at e;exact⟨14,st,.inr ⟨q,k,false,j,p,m,rfl,rfl⟩,(Ow o.dst 14 st (fB call l)).symm.trans e⟩
  ·cases hs
def SN(hc:lu P K call)(hk:K.In g)(k:HR g st w)(hf:FR g st a n){ops:Array Oper}{i:Nat}(ho:ops[i]? =some o)(hd:∀d,o.dst=some d->d<n){x:Nat}{st':St}(e:AX call P K ops o st x st'){next:Act->World->Prop}{Q:Exit->Act->World->Prop}(hn:∀g' w' l,HR g' (iY st' o.dst x) w'->Fr g w g' w'->FR g' (iY st' o.dst x) l n->Ext st.R st.nR (iY st' o.dst x).R (iY st' o.dst x).nR->next l w'):wpOp P ops Q i next a w:=by
 unfold wpOp;simp only[ho];have h:∀s:St,(iY s o.dst x).R=s.R/\(iY s o.dst x).nR=s.nR:=λs=>by cases o.dst<;>exact⟨rfl,rfl⟩
 have run:kE call (cO P K o) st=.ok x st'->o.wp P a w next Q:=λe=>step_ok hc hk k (λy _=>hf.opd hk y) hf.defers e λg' w' v ds' c=>hn g' w' _ (qV c.hr _ _) c.fr (hf.put c hd) (by rw[(h st').1,(h st').2];exact c.ext);rcases e with⟨j,e⟩|⟨q,r,b,j,p,m,e⟩;·rw[qzb (by simp[Region.wanted,j])];exact .inl (run e)
 ·rw[GM hf j p m];cases b with|true=>rw[qzb rfl];exact .inl (run e)|false=>rw[qzc (by simp)];obtain⟨rfl,rfl⟩:=e;have c:xx g st' w g st' w 14 undef a.defers a.defers:=⟨k,Fr.refl _ _,Ext.refl _ _,.und,rfl,hf.defers⟩;exact hn g w (a.put o.dst undef) (qV k _ _) (Fr.refl _ _) (hf.put c hd) (by rw[(h st').1,(h st').2];exact Ext.refl _ _)
end
end Ev
