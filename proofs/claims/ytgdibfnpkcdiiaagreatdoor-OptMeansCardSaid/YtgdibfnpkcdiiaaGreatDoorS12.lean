/- Joint text: EwC, EwD, EwDa, EwE, EwF. By an AI agent. -/
import Derived.Test.YtgdibfnpkcdiiaaGreatDoorSzy
import Derived.Test.YtgdibfnpkcdiiaaGreatDoorS11
set_option linter.all false
set_option maxRecDepth 100000
set_option maxHeartbeats 64000000
namespace Go.Proofs.YtgdibfnpkcdiiaaGreatDoor
namespace Ev
def TR.back{g g1:Gh}{R nR p r:Nat}(h:g.le g1)(q:Ext R nR p r){w:Nat}{v0 v:Value}(h0:TR g R nR w v0)(h1:TR g1 p r w v):TR g R nR w v:=by
 induction h0 generalizing v with|unk=>exact .unk _|und=>rw[JE h1 rfl];exact .und|cell w v0 h0=>
  have ht:=h0.tag;by_cases hz:w=0;·subst hz;exact .unk _
  ·exact .cell _ _ (h0.back h (h1.aM ht.1 ht.2.1 ht.2.2 hz))|agg st n vs hn hs k hv hc=>
  obtain⟨st',l,m,c,d,s,t,u,e,f⟩:=h1.Cx (by unfold dY;omega);have j:st=st'/\n=l:=by unfold dY at c;omega
  obtain⟨rfl,rfl⟩:=j;rw[d];exact .agg st n m hn hs k e λi hi=>(hc i hi).back h (by have:=f i hi;rwa[q.2 _ oqo]at this)|tup st n vs hn hs k hv _ ih=>
  obtain⟨st',l,m,c,d,s,t,u,e,f⟩:=h1.um (by unfold fJ;omega);have j:st=st'/\n=l:=by unfold fJ at c;omega
  obtain⟨rfl,rfl⟩:=j;rw[d];exact .tup st n m hn hs k e λi hi=>ih i hi (by have:=f i hi;rwa[q.2 _ oqo]at this)
def QZ{g p:Gh}{st s:St}{w':World}(h:g.le p)(hr:HR p s w')(u:Ext st.R st.nR s.R s.nR){x y:Nat}{v0 v:Value}(h0:TR g st.R st.nR y v0)(h1:TR p s.R s.nR x v)(e:xD s x y=true):TR g st.R st.nR y v:=by unfold xD at e;cases z:Nat.beq x y with|true=>rw[ah z]at h1;exact h0.back h u h1|false=>rw[z,ag]at e;cases d:Nat.beq (Nat.mod y 16) 3 with
  |true=>rw[d,aj]at e;cases c:Nat.beq (Nat.mod x 16) 3 with|false=>rw[c,ag]at e;cases e|true=>rw[c,aj]at e;have d:y%16=3:=ah d;have c:x%16=3:=ah c;obtain⟨q,k,a3,a4,a5⟩:=h1.str c;obtain⟨b1,b2,r,l,t⟩:=h0.str d;rw[yU q b1]at e;have e:=jjh e;rw[hr.S,zg h l]at e;rw[k,e,<-b2];exact h0
  |false=>rw[d,ag]at e;cases c:Nat.beq (Nat.mod y 16) 12 with|false=>rw[c,ag]at e;cases e|true=>rw[c,aj]at e;cases f:Nat.beq (Nat.mod x 16) 12 with|false=>rw[f,ag]at e;cases e|true=>rw[f,aj]at e;cases j:Nat.beq (ln x) (ln y)with|false=>rw[j,ag]at e;cases e|true=>rw[j,aj]at e;have c:y%16=12:=ah c;have f:x%16=12:=ah f;have j:=ah j;have e:=ah e;obtain⟨vs,q,k,a3,a4,a5,C,A⟩:=h1.agg' f;obtain⟨us,b1,b2,r,l,t,D,B⟩:=h0.agg' c;rw[b1,k];refine .agg _ _ vs r l t oqo λi hi=>(B i hi).back h ?_;have h2:=A i oqo;have h3:=jqp (λm=>gt m i) e;simp only[jW,qzb (show i<ln x by omega)]at h3;rw[h3,qzb oqo,u.2 _ oqo]at h2;exact h2
end Ev
namespace Ev
section
variable {P:Program}{K:Kon}{call:Nat->St->RS}{g:Gh}{st:St}{w:World}{o:Oper}{a b:Act}{n:Nat}{ops:Array Oper}
def fP{i:Nat}(h:ops[i]? =some o):bE (ops.toList.map (bS P ops)) i=bS P ops o:=by unfold bE;rw[qqm,qqp,qjf,h];rfl
def Bw{j:Nat}:j∈(bS P ops o).pre↔∃e∈o.after,Region.binds .any e=true/\e.on=j:=by
 simp only[bS,qjb,jxb,jjm];constructor;·rintro⟨e,⟨h1,h2⟩,h3⟩;exact⟨e,h1,h2,h3⟩
 ·rintro⟨e,h1,h2,h3⟩;exact⟨e,⟨h1,h2⟩,h3⟩
def Oy{t:Nat}(h:Operand.tmp t∈o.op.operands):t∈o.looksAt ops:=by unfold Oper.looksAt;refine qzu.2 (.inl (List.mem_filterMap.2 ⟨.tmp t,by simpa using h,rfl⟩))
def Ou{q:Nat×Bool}{s:Nat}(h:o.guard=some q)(hs:(ops[q.1]?).bind (·.dst)=some s):s∈o.looksAt ops:=by unfold Oper.looksAt;refine qzu.2 (.inr ?_);obtain⟨j,c⟩:=q;rw[h];dsimp only at hs⊢;rw[hs];simp
def oiq{i:Nat}(h:ops[i]? =some o)(c:(bE (ops.toList.map (bS P ops)) i).q=true):dC P o.op=true/\∃d,o.dst=some d:=by rw[fP h]at c;simp only[bS,qqn]at c;obtain⟨⟨h1,_⟩,h2⟩:=c;exact⟨h1,jzu.1 h2⟩
def Ic{ops:Array Oper}{q:Nat×Bool}{d:Nat}{c:Bool}(m:o.guard=some q)(hc:cGd ops q=some d)(e:gd st.T d=some c)(hs:∀s,(ops[q.1]?).bind (·.dst)=some s->TR g st.R st.nR (gt st.T s) (a.eval (.tmp s))):Region.wanted o (yielded ops a.tmps)=c:=by
 obtain⟨s,h1⟩:∃s,(ops[q.1]?).bind (·.dst)=some s:=by
  obtain⟨j,i⟩:=q;unfold cGd at hc;split at hc;·rename_i s h;exact⟨s,h⟩
  ·cases hc
 have p:=hs s h1;let T':=up1 0 s (gt st.T s);have f:∀t,gt T' t=if t=s then gt st.T s else 0:=λt=>by show gt (up1 0 s (gt st.T s)) t=_;rw[GJ _ _ _ (Zt _ _),xV]
 have l:FR g {st with T:=T',D:=[]} {a with defers:=[]} 0:=by
  refine⟨qqy _,λt=>?_,.nil⟩;show TR g st.R st.nR (gt T' t) (a.eval (.tmp t));rw[f t];split;·rename_i e;subst e;exact p
  ·exact .unk _
 refine GM (a:={a with defers:=[]}) l m hc ?_;obtain⟨j,i⟩:=q;unfold cGd at hc;rw[h1]at hc;injection hc with hc;have k:Nat.div d 2=s:=by show d/2=s;cases i<;>simp at hc<;>omega
 unfold gd at e⊢;rw[k]at e⊢;show sel (Nat.beq (gt T' s) 17) _ (sel (Nat.beq (gt T' s) 1) _ (sel (Nat.beq (gt T' s) 14) _ _))=_;rw[f s,qzb rfl];exact e
def Tu(hc:lu P K call)(hk:K.In g)(f:HR g st w){i:Nat}(ho:ops[i]? =some o)(hl:∀t∈o.looksAt ops,TR g st.R st.nR (gt st.T t) (a.eval (.tmp t)))(hd:DR g st.R st.nR st.D a.defers){x:Nat}{st':St}(e:AX call P K ops o st x st'){next:Act->World->Prop}{Q:Exit->Act->World->Prop}(hn:∀g' w' v ds',xx g st w g' st' w' x v a.defers ds'->next (({a with defers:=ds'}:Act).put o.dst v) w'):wpOp P ops Q i next a w:=by
 have j:∀y∈o.op.operands,TR g st.R st.nR (rd st.T (cOp K y)) (a.eval y):=λy hm=>Fb hk λt ht=>by subst ht;exact hl t (Oy hm)
 unfold wpOp;simp only[ho];rcases e with⟨d,e⟩|⟨q,m,c,d,l,k,e⟩;·rw[qzb (by simp[Region.wanted,d])];exact .inl (step_ok hc hk f j hd e hn)
 ·rw[Ic d l k (λs h=>hl s (Ou d h))];cases c with|true=>rw[qzb rfl];exact .inl (step_ok hc hk f j hd e hn)|false=>rw[qzc (by simp)];obtain⟨rfl,rfl⟩:=e;exact hn g w undef a.defers ⟨f,Fr.refl _ _,Ext.refl _ _,.und,rfl,hd⟩
def yH(hk:K.In g)(f:HR g st w){i:Nat}(ho:ops[i]? =some o)(p:dC P o.op=true)(hl:∀t∈o.looksAt ops,TR g st.R st.nR (gt st.T t) (a.eval (.tmp t))){x:Nat}{st':St}(e:AX call P K ops o st x st'): ∃g' w' v,ma w w'/\HR g' st' w'/\HR g' st' w/\Fr g w g' w/\Ext st.R st.nR st'.R st'.nR/\TR g' st'.R st'.nR x v/\st'.T=st.T/\st'.D=st.D/\ ∀(next:Act->World->Prop)(Q:Exit->Act->World->Prop),next (a.put o.dst v) w'->wpOp P ops Q i next a w:=by
 have r:∀y∈o.op.operands,TR g st.R st.nR (rd st.T (cOp K y)) (a.eval y):=λy hm=>Fb hk λt ht=>by subst ht;exact hl t (Oy hm)
 have run:∀(hw:Region.wanted o (yielded ops a.tmps)=true),kE call (cO P K o) st=.ok x st'->∃g' w' v,ma w w'/\HR g' st' w'/\HR g' st' w/\Fr g w g' w/\Ext st.R st.nR st'.R st'.nR/\TR g' st'.R st'.nR x v/\st'.T=st.T/\st'.D=st.D/\ ∀(next:Act->World->Prop)(Q:Exit->Act->World->Prop),next (a.put o.dst v) w'->wpOp P ops Q i next a w:=λhw e=>by
  obtain⟨g',w',v,h1,h2,h3,j,k⟩:=Sw hk f r p e;refine⟨g',w',v,k,h2.hr,h3,j,h2.ext,h2.tr,h2.T,h2.D,λnext Q hn=>?_⟩;unfold wpOp;simp only[ho];rw[qzb hw];refine .inl ?_;unfold Oper.wp;rcases h1 with h1|⟨h1,rfl⟩;·rw[h1,Oper.upon_value];exact hn
  ·rw[h1,Oper.upon_skip];exact hn
 rcases e with⟨d,e⟩|⟨q,u,c,d,m,l,e⟩;·exact run (by simp[Region.wanted,d]) e
 ·have hw:=Ic (a:=a) d m l (λs h=>hl s (Ou d h));cases c with|true=>exact run hw e|false=>obtain⟨rfl,rfl⟩:=e;refine⟨g,w,undef,ma.refl w,f,f,Fr.refl _ _,Ext.refl _ _,.und,rfl,rfl,λnext Q hn=>?_⟩;unfold wpOp;simp only[ho];rw[qzc (by rw[hw];simp)];exact hn
def Ck(call:Nat->St->RS)(P:Program)(K:Kon)(ops:Array Oper)(st:St)(i:Nat):Prop:= ∃o d x c,ops[i]? =some o/\o.dst=some d/\AX call P K ops o st x c/\xD c x (gt st.T d)=true
def wu:∀(fl:List Nat)(h:List Itm)(g:Gh)(st:St)(b:Act)(l:List Stp)(y:Nat)(f:St),K.In g->HR g st w->FR g st b n->(∀i∈fl,∃o,ops[i]? =some o/\dC P o.op=true/\ltO n o.dst=true)->iO P K ops (fl.map .run++h)=some l->fB call l st=.ok y f-> ∃g' st' c m,HR g' st' w/\Fr g w g' w/\FR g' st' c n/\Ext st.R st.nR st'.R st'.nR/\c.tmps.size=b.tmps.size/\c.defers=b.defers/\(∀t,(∀i∈fl,∀o,ops[i]? =some o->o.dst≠some t)->c.eval (.tmp t)=b.eval (.tmp t))/\iO P K ops h=some m/\fB call m st'=.ok y f
 |[],h,g,st,b,l,y,f,_,q,hf,_,hl,hr=>⟨g,st,b,l,q,Fr.refl _ _,hf,Ext.refl _ _,rfl,rfl,λ_ _=>rfl,hl,hr⟩|i::fl,h,g,st,b,l,y,f,hk,q,hf,B,hl,hr=>by
  obtain⟨o,ho,S,C⟩:=B i (by simp);rw[jqx,jqm,iO]at hl;split at hl
  ·rename_i s r hs T;injection hl with hl;subst hl;simp only[GH,ho]at hs;obtain⟨x,st',E,F⟩:=rY hs hr;obtain⟨u,w1,v,h1,h2,h3,k,p,G,H,I,_⟩:=yH (call:=call) (a:=b) hk q ho S (λt _=>hf.slot t) E;have A:∀d,o.dst=some d->d<n:=λd hd=>by rw[hd]at C;exact aT C
   have Q:xx g st w u st' w x v b.defers b.defers:=⟨h3,k,p,G,H,by rw[I];exact hf.defers.mono k.le p⟩;have N:=hf.put Q A;have L:((({b with defers:=b.defers}:Act).put o.dst v)).tmps.size=b.tmps.size:=by cases o.dst<;>simp[Act.put]
   have J:((({b with defers:=b.defers}:Act).put o.dst v)).defers=b.defers:=by cases o.dst<;>rfl
   have z:(iY st' o.dst x).R=st'.R/\(iY st' o.dst x).nR=st'.nR:=by cases o.dst<;>exact⟨rfl,rfl⟩
   obtain⟨g',s',c,m,k1,k2,k3,k4,k5,k6,k7,k8,k9⟩:=wu fl h u (iY st' o.dst x) _ r y f (hk.le k.le) (qV h3 _ _) N (λj hj=>B j (by simp[hj])) T F;refine⟨g',s',c,m,k1,k.trans k2,k3,p.trans (by rw[z.1,z.2]at k4;exact k4),k5.trans L,k6.trans J,λt ht=>?_,k8,k9⟩;rw[k7 t (λj hj=>ht j (by simp[hj]))];have D:=ht i (by simp) o ho;cases hd:o.dst with|none=>rfl|some d=>rw[hd]at D;have M:=A d hd;have:=hf.size;have O:d<({b with defers:=b.defers}:Act).tmps.size:=qzj M this;rw[eU v t O,qzc (λe=>D (by rw[e]))]
  ·cases hl
def Cz:∀(ck:List Nat)(p:List Itm)(l:List Stp)(y:Nat)(f:St),iO P K ops (ck.map .chk++p)=some l->fB call l st=.ok y f->(∀i∈ck,Ck call P K ops st i)/\∃C,iO P K ops p=some C/\fB call C st=.ok y f
 |[],p,l,y,f,hl,hr=>⟨λi hi=>by simp at hi,l,hl,hr⟩|i::ck,p,l,y,f,hl,hr=>by
  rw[jqx,jqm,iO]at hl;split at hl
  ·rename_i s r hs D;injection hl with hl;subst hl;have one:∀d co,Ah call d co st (fB call r)=.ok y f->∃x h,kE call co st=.ok x h/\xD h x (gt st.T d)=true/\fB call r st=.ok y f:=λd co e=>by unfold Ah at e;cases B:kE call co st with|no=>rw[B]at e;cases e|ok x h=>rw[B]at e;obtain⟨k,m⟩:=ae e;exact⟨x,h,rfl,k,m⟩
   have key:Ck call P K ops st i/\fB call r st=.ok y f:=by
    unfold GH at hs;split at hs;·cases‹Itm.chk i=Itm.run _›
    ·rename_i j hj;injection hj with hj;subst hj;split at hs
     ·rename_i o ho;split at hs;·rename_i d hd v;injection hs with hs;subst hs;obtain⟨x,h,k,m,z⟩:=one _ _ hr;exact⟨⟨o,d,x,h,ho,hd,.inl ⟨v,k⟩,m⟩,z⟩
      ·rename_i d q hd v;split at hs;·rename_i t A;injection hs with hs;subst hs;change Option.rec .no (λc=>sel c (Ah call d (cO P K o) st (fB call r)) (sel (Nat.beq 14 (gt st.T d)) (fB call r st) .no)) (gd st.T t)=RS.ok y f at hr;cases u:gd st.T t with|none=>rw[u]at hr;cases hr|some c=>rw[u]at hr;cases c with|true=>obtain⟨x,h,k,m,z⟩:=one _ _ hr;exact⟨⟨o,d,x,h,ho,hd,.inr ⟨q,t,true,v,A,u,k⟩,m⟩,z⟩|false=>obtain⟨k,m⟩:=ae (b:=Nat.beq 14 (gt st.T d)) hr;refine⟨⟨o,d,14,st,ho,hd,.inr ⟨q,t,false,v,A,u,rfl,rfl⟩,?_⟩,m⟩;unfold xD;rw[k];rfl
       ·cases hs
      ·cases hs
     ·cases hs
   obtain⟨k1,k2⟩:=Cz ck p r y f D key.2;exact⟨λj hj=>by
    rcases qzh.1 hj with rfl|hj;·exact key.1
    ·exact k1 j hj,k2⟩
  ·cases hl
end
end Ev
namespace Ev
section
variable {g:Gh}{st:St}{w:World}
def HR.qw(h:HR g st w){c:Array Value}{e:TypeId}{blk:Nat}(d:w.heap[blk]? =some (.cells c e (0,0)))(ho:¬Own g blk){cw:Nat}(l:cw<2^(128*c.size))(hv:∀i,i<c.size->VR g (gt cw i) (c.getD i undef)):HR (g.put st.nM (.cells blk 0 c.size c.size)) {st with M:=ad st.M st.nM cw,nM:=st.nM+c.size+1} w:=by
 refine HR.grown h (i:=.cells blk 0 c.size c.size) (uh l) (by simp) ?_ (λ_ _ _=>rfl) ?_ (λws hw=>by cases hw) (λb d=>by cases d);·intro s blk base z room f j fr' _ hc;exact⟨f,j,fr',hc.heap,rfl,hc.one,λ_=>⟨rfl,rfl⟩⟩
 ·intro b base z room hi;injection hi with h1 h2 h3 k;subst h1;subst h2;subst h3;subst k;refine⟨⟨c,e,(0,0),d,by omega,qqf _,λi hi=>(hv i hi).one,λo ho=>?_,λ_=>.inl rfl⟩,λs base' z' room' hs=>?_⟩;·rw[dK _ _ h.Mlt,qzc oqo,show st.nM+o-st.nM=o by omega,qja];exact(hv o ho).mono (Gh.nH _ (j6 h (qqf _)))
  ·exact absurd (.inl ⟨s,base',z',room',hs⟩) ho
def je{s blk n m k:Nat}{b:Nat}(h:Own (g.put s (.cells blk k n m)) b):Own g b\/b=blk:=by
 rcases h with⟨t,base,z,room,ht⟩|⟨t,ht⟩
 ·rw[Gh.bK]at ht;split at ht;·injection ht with h1;exact .inr h1.symm
  ·exact .inl (.inl ⟨t,base,z,room,ht⟩)
 ·rw[Gh.bK]at ht;split at ht;·cases ht
  ·exact .inl (.inr ⟨t,ht⟩)
end
structure AcV(P:Program)(K:Kon)(o:Oper)(zs:Array Value)(el:TypeId)(vf:Addr->Value):Prop where
 gd:o.guard=none
 run:∀(a:Act)(w:World),(execOp a.eval o).run P w=.ok (.value (vf ⟨w.heap.size,0,none⟩)) (w.alloc (.cells zs el (0,0)))qw:∀(call:Nat->St->RS)(g:Gh)(st:St)(w:World)(x:Nat)(st':St)(blk:Nat),K.In g->HR g st w->w.heap[blk]? =some (.cells zs el (0,0))->¬Own g blk->kE call (cO P K o) st=.ok x st'-> ∃g',HR g' st' w/\g.le g'/\(∀b,Own g' b->Own g b\/b=blk)/\TR g' st'.R st'.nR x (vf ⟨blk,0,none⟩)/\st'.T=st.T/\st'.D=st.D/\Ext st.R st.nR st'.R st'.nR
def FM{o:Oper}(h:acC o=true):o.guard=none/\∃d,o.dst=some d:=by simp only[acC,qqn]at h;exact⟨by simpa using h.1.1,jzu.1 h.1.2⟩
section
variable {P:Program}{K:Kon}{o:Oper}
def Q7{g0:Gh}(_hk0:K.In g0){t:TypeId}{i:TypeInfo}{z:Value}(m:o.guard=none)(ho:o.op=.alloc t)(hi:P.info? t=some i)(hz:i.zero=some z)(f:eD K z.cells.toList=true)(hn:z.cells.size<16777216):AcV P K o z.cells t λa=>.pointer (some a):=by
 refine⟨m,λa w=>?_,λcall g st w x st' blk hk h k p e=>?_⟩
 ·have:(newVar t z).run P w=.ok ⟨w.heap.size,0,none⟩ (w.alloc (.cells z.cells t (0,0))):=by simp[newVar,newRow]
  simp[execOp,ho,Instr.alloc,zeroValue,kr hi,hz,this]
 ·have l:cO P K o=.op (uE z.cells.size (bV K z.cells.toList)):=by simp[cO,oC,ho,hi,hz,f,hn]
  rw[l]at e;change uE z.cells.size (bV K z.cells.toList) st=.ok x st' at e;unfold uE at e;obtain⟨h1,e⟩:=ae e;rw[bX]at e;injection e with c d;have h1:=aT h1;simp only[nA,nM]at c d;obtain⟨c1,c2⟩:=jJ hk f;rw[jql]at c1 c2;have hr:=h.qw k p c1 (λj hj=>by have:=c2 j hj;rwa[qqm,qjf,<-qqg]at this);subst d;refine⟨_,hr,Gh.nH _ (j6 h (qqf _)),λb=>je,?_,rfl,rfl,Ext.refl _ _⟩;have:x=dU st.nM z.cells.size 0:=by rw[<-c];rfl
  rw[this];exact .cell _ _ (.ptr st.nM z.cells.size 0 blk 0 z.cells.size h1 hn (by rw[Gh.bK,qzb rfl]) (qqy _))
def TH{g:Gh}{s l e blk x:Nat}(hs:s<16777216)(hz:l*e<16777216)(hl:l<16777216)(he:e<256)(hr:g.rho s=.cells blk 0 (l*e) (l*e))(c:7+16*s+268435456*(l*e)+4503599627370496*l+75557863725914323419136*e=x):VR g x (.slice (some ⟨blk,0,none⟩) l l):=by
 have:x=bF s (l*e) l e 0:=by rw[<-c];rfl
 rw[this];exact .sli s (l*e) l e 0 blk 0 (l*e) l _ hs hz hl he hr oqo (qqf _) (.inr ⟨rfl,by omega⟩)
def Su{g0:Gh}(C:K.In g0){t el:TypeId}{v:Value}{q:TypeInfo}{d:TypeDesc}{z:Value}(B:o.guard=none)(ho:o.op=.buildSlice t 1 #[(0,.const v)])(ht:P.underlying t=some (.slice el))(h:P.info? el=some q)(hd:P.underlying el=some d)(hz:q.zero=some z)(hs:q.size=1)(ha:gU d=false)(hc:fU (cV K v)=true):AcV P K o #[v] el λa=>.slice (some a) 1 1:=by
 have H:v.oneCell'=true:=((Ef C 0 0 v).fU hc).one;have A:=cells_one H;refine⟨B,λa w=>?_,λcall g st w x st' blk hk p y E e=>?_⟩;·simp[execOp,ho,Instr.buildSlice,jqa ht,dG h,hs,zeroValue,kr h,hz,Instr.fill,Act.eval,A,newRow];rw[show Array.range 1=#[0]from rfl,List.map_toArray];rfl
 ·have f:cO P K o=no\/(eD K (zeros z (1*q.size)).toList=true/\cO P K o=.op (Cn 1 1 (bV K (zeros z (1*q.size)).toList) [⟨0,0,.c (cV K v)⟩])):=by
   have s:cO P K o=nO P K t 1 #[(0,.const v)]:=by simp only[cO,oC,ho]
   rw[s];unfold nO;simp only[ht,h,hd,hz];rw[qzc (by simp)];split;·rename_i h0;refine .inr ⟨h0.1,?_⟩;simp[mW,Lt,hs,ha,cOp]
   ·left;rfl
  rcases f with f|⟨u,f⟩;·rw[f]at e;cases e
  ·rw[f]at e;change Cn 1 1 (bV K (zeros z (1*q.size)).toList) [⟨0,0,.c (cV K v)⟩] st=.ok x st' at e;unfold Cn at e;obtain⟨h1,e⟩:=ae e;have h1:=aT h1;rw[Bg]at e;have F:∀T,rd T (.c (cV K v))=cV K v:=λ_=>rfl;simp only[F,hc,aj,CK,show Nat.beq 0 0=true from rfl,bX]at e;injection e with k m;simp only[nA,nM]at k m;obtain⟨c1,_⟩:=jJ hk u;have D:(zeros z (1*q.size)).toList.length=1:=by simp[zeros,hs]
   rw[D]at c1;have i:VR g (cV K v) v:=(Ef hk 0 0 v).fU hc;have r:cV K v<2^(128*1):=by simpa using i.lt
   have G:up (bV K (zeros z (1*q.size)).toList) 0 1 (cV K v)<2^(128*1):=Be c1 oqo r;have hr:=p.qw y E (cw:=up (bV K (zeros z (1*q.size)).toList) 0 1 (cV K v)) G (λj hj=>by
    have hj:j=0:=by simpa using hj
    subst hj;rw[mZ _ _ _ r,qzb oqo,gP _ i.lt,qzb rfl];exact i);subst m;refine⟨_,hr,Gh.nH _ (j6 p (qqf _)),λb=>je,?_,rfl,rfl,Ext.refl _ _⟩;exact .cell _ _ (TH (l:=1) (e:=1) h1 (by decide) (by decide) (by decide) (by rw[Gh.bK,qzb rfl];rfl) k)
def XL{g0:Gh}(e:K.In g0)(h:acO P K o=true):∃zs el vf,AcV P K o zs el vf:=by
 simp only[acO,qqn]at h;obtain⟨c,_⟩:=FM h.1;have h2:=h.2;split at h2;·rename_i t ho;cases hi:P.info? t with|none=>rw[hi]at h2;cases h2|some i=>rw[hi,Option.any_some]at h2;cases hz:i.zero with|none=>rw[hz]at h2;cases h2|some z=>rw[hz,Option.any_some,qqn]at h2;exact⟨_,_,_,Q7 e c ho hi hz h2.1 (by simpa using h2.2)⟩
 ·rename_i t v ho;split at h2
  ·rename_i el ht;split at h2;·rename_i q d k hd;simp only[qqn]at h2;obtain⟨⟨⟨b1,b2⟩,f⟩,j⟩:=h2;obtain⟨z,hz⟩:=jzu.1 b1;exact⟨_,_,_,Su e c ho ht k hd hz (ah b2) (by simpa using f) j⟩
   ·cases h2
  ·cases h2
 ·cases h2
end
end Ev
namespace Ev
def cnt(l:Array Bool):Nat:=(l.toList.filter (λx=>!x)).length
def Ib:∀(l:List Bool)(i:Nat),l[i]? =some false->((l.set i true).filter (λx=>!x)).length+1=(l.filter (λx=>!x)).length
 |[],i,h=>by simp at h|x::l,0,h=>by simp at h;subst h;simp|x::l,i+1,h=>by
  have:=Ib l i (by simpa using h);rw[qqk,jzz,jzz];split;·simp only[qzv];omega
  ·exact this
def JS{l:Array Bool}{i:Nat}(h:l.getD i true=false):cnt (l.setIfInBounds i true)+1=cnt l:=by unfold cnt;rw[Array.toList_setIfInBounds];refine Ib l.toList i ?_;rw[qjf];rw[qqg]at h;cases c:l[i]? with|none=>rw[c]at h;cases h|some b=>rw[c,qzm]at h;rw[h]
def FZ{l:Array Bool}(h:cnt l=0){i:Nat}(hi:i<l.size):l.getD i false=true:=by
 unfold cnt at h;have h0:=jja.1 h;have hm:l[i]∈l.toList:=by simp
 have:=List.filter_eq_nil_iff.1 h0 _ hm;rw[qqg,jqi hi,qzm];simpa using this
def vg{l:Array Bool}{i:Nat}(h:l.getD i true=false):l.getD i false=false/\i<l.size:=by rw[qqg]at h⊢;cases c:l[i]? with|none=>rw[c]at h;cases h|some b=>rw[c,qzm]at h;rw[h];exact⟨rfl,(qqs.1 c).1⟩
def N8{l:Array Bool}{i:Nat}(h:l.getD i false=false)(hi:i<l.size):l.getD i true=false:=by rw[qqg,jqi hi,qzm]at h⊢;exact h
def dP{l:Array Bool}{i:Nat}(hi:i<l.size)(j:Nat):(l.setIfInBounds i true).getD j false=(if j=i then true else l.getD j false):=by
 by_cases e:j=i;·subst e;rw[qzb rfl,qqg,qzy];simp[hi]
 ·rw[qzc e,getD_set_ne false (Ne.symm e)]
section
variable {P:Program}{K:Kon}{call:Nat->St->RS}{n:Nat}{ops:Array Oper}{ac:Option Nat}{g0:Gh}{st0:St}{w0:World}
def Early(P:Program)(K:Kon)(ops:Array Oper)(w0:World)(g:Gh)(w:World)(a:Act)(i:Nat):Prop:= ∃o d zs el vf blk,ops[i]? =some o/\o.dst=some d/\AcV P K o zs el vf/\a.eval (.tmp d)=vf ⟨blk,0,none⟩/\w.heap[blk]? =some (.cells zs el (0,0))/\¬Own g blk/\w0.heap.size<=blk
structure Inv(P:Program)(K:Kon)(call:Nat->St->RS)(ops:Array Oper)(n:Nat)(ac:Option Nat)(g0:Gh)(st0:St)(w0:World)(D A:List Nat)(listed:Array Bool)(g:Gh)(st:St)(w:World)(b a:Act):Prop where
 kin:K.In g
 hr:HR g st w
 fr:Fr g0 w0 g w
 ext:Ext st0.R st0.nR st.R st.nR
 v:FR g st b n
 sz:a.tmps.size=b.tmps.size
 df:a.defers=b.defers
 eq:∀t,(∀i∈D,listed.getD i false=false->(bE (ops.toList.map (bS P ops)) i).dst≠some t)->(∀i,listed.getD i false=true->i∉D->(bE (ops.toList.map (bS P ops)) i).dst≠some t)->a.eval (.tmp t)=b.eval (.tmp t)sub:∀i,listed.getD i false=true->i∈D\/(ac=some i/\Early P K ops w0 g w a i)flt:∀i∈D,listed.getD i false=false->i<ops.size/\(bE (ops.toList.map (bS P ops)) i).q=true/\Ck call P K ops st i
 anc:∀i∈A,listed.getD i false=true
 cl:∀i,listed.getD i false=true->∀j∈(bE (ops.toList.map (bS P ops)) i).pre,listed.getD j false=true
 ls:listed.size=ops.size
 dcl:∀i∈D,∀j∈(bE (ops.toList.map (bS P ops)) i).pre,j∈D
def jE{c:List OI}{N:Nat}(h:glB c ac N n=true){i:Nat}(hi:i<N):(∀j,j<N->(bE c j).q=true\/ac=some j->(i≠j->(bE c i).dst≠(bE c j).dst)/\∀t∈(bE c i).lk,(bE c j).dst=some t->j∈(bE c i).pre)/\ltO n (bE c i).dst=true/\∀j∈(bE c i).pre,j<i:=by
 unfold glB at h;rw[qqw]at h;have h:=h i (qzg.2 hi);simp only[qqn]at h;obtain⟨⟨h1,h2⟩,h3⟩:=h;rw[qqw]at h1 h3;refine⟨λj hj d=>?_,h2,λj hj=>aT (h3 j hj)⟩;have h1:=h1 j (qzg.2 hj);have f:(!(bE c j).q&&!decide (ac=some j))=false:=by
  rcases d with d|d;·rw[d];rfl
  ·rw[d];simp
 rw[f]at h1;simp only[Bool.false_or,qqn]at h1;refine⟨λe he=>?_,λt ht hd=>?_⟩;·rw[he]at h1;simp only[decide_true,Bool.not_true,Bool.or_false]at h1;exact e (ah h1.1)
 ·have:=qqw.1 h1.2 t ht;rw[hd]at this;simpa using this
def GG{c:List OI}{e:Nat}{L:Nat->Prop}(he:∀j∈(bE c e).pre,L j)(hc:∀i,L i->∀j∈(bE c i).pre,L j):∀(l seen:List Nat),(∀i∈seen,L i)->KG c e seen l=true->∀j∈l,L j
 |[],_,_,_,j,hj=>by simp at hj|k::l,seen,hs,h,j,hj=>by
  simp only[KG,qqn,qji]at h;obtain⟨h1,h2⟩:=h;have hk:L k:=by
   rcases h1 with h1|h1;·exact he k (by simpa using h1)
   ·obtain⟨i,hi,d⟩:=jze.1 h1;exact hc i (hs i hi) k (by simpa using d)
  rcases qzh.1 hj with rfl|hj;·exact hk
  ·exact GG he hc l (k::seen) (λi hi=>by
    rcases qzh.1 hi with rfl|hi;·exact hk
    ·exact hs i hi) h2 j hj
def Dz{Q:Exit->Act->World->Prop}{y:Nat}{d:St}(h:∀g w a,K.In g->HR g d w->Fr g0 w0 g w->Ext st0.R st0.nR d.R d.nR->FR g d a n->Q .normal a w){listed:Array Bool}{D A:List Nat}{g:Gh}{st:St}{w:World}{b a:Act}{l:List Stp}(c:Inv P K call ops n ac g0 st0 w0 D A listed g st w b a)(j:∀i,i<ops.size->listed.getD i false=true)(hl:iO P K ops (kN [])=some l)(hr:fB call l st=.ok y d)(e:stB (ops.toList.map (bS P ops)) ac ops.size n D A []=true):Q .normal a w:=by
 simp only[kN,iO]at hl;injection hl with hl;subst hl;change RS.ok 0 st=.ok y d at hr;injection hr with _ hr;subst hr;refine h g w a c.kin c.hr c.fr c.ext ⟨by rw[c.sz];exact c.v.size,λt=>?_,by rw[c.df];exact c.v.defers⟩;rw[c.eq t (λi hi hu=>?_) (λi hi hu=>?_)];·exact c.v.slot t
 ·have:=j i (c.flt i hi hu).1;rw[this]at hu;cases hu
 ·exfalso;simp only[stB]at e;rw[qqw]at e;have k:i<ops.size:=by rw[<-c.ls];rw[qqg]at hi;cases f:listed[i]? with|none=>rw[f]at hi;cases hi|some b=>exact(qqs.1 f).1
  exact hu (by simpa using e i (qzg.2 k))
def Aa{listed:Array Bool}(h:listed.size=ops.size)(f:glB (ops.toList.map (bS P ops)) ac ops.size n=true)(hr:Region.ready .any ops listed=[]):∀i,i<ops.size->listed.getD i false=true:=by intro i;induction i using Nat.strongRecOn with|ind i ih=>
  intro hi;cases k:listed.getD i false with|true=>rfl|false=>exfalso;have ho:ops[i]? =some ops[i]:=jqi hi;have:i∈Region.ready .any ops listed:=mem_ready.2 ⟨N8 k (by rw[h];exact hi),ops[i],ho,λe he d=>by
    have j:e.on∈(bE (ops.toList.map (bS P ops)) i).pre:=by rw[fP ho];exact Bw.2 ⟨e,he,d,rfl⟩
    have c:=(jE f hi).2.2 _ j;exact ih _ c (Nat.lt_trans c hi)⟩;rw[hr]at this;cases this
def Inv.np{D A:List Nat}{listed:Array Bool}{g:Gh}{st:St}{w:World}{b a:Act}(c:Inv P K call ops n ac g0 st0 w0 D A listed g st w b a)(d:glB (ops.toList.map (bS P ops)) ac ops.size n=true){i:Nat}{o:Oper}(hi:i<ops.size)(ho:ops[i]? =some o)(f:∀j∈(bE (ops.toList.map (bS P ops)) i).pre,listed.getD j false=true)(k:∀j∈(bE (ops.toList.map (bS P ops)) i).pre,j∈D):∀t∈o.looksAt ops,TR g st.R st.nR (gt st.T t) (a.eval (.tmp t)):=λt ht=>by
 rw[c.eq t (λj hj hu hd=>?_) (λj hl hj hd=>?_)];·exact c.v.slot t
 ·obtain⟨l,m,_⟩:=c.flt j hj hu;have:=((jE d hi).1 j l (.inl m)).2 t (by rw[fP ho];exact ht) hd;rw[f j this]at hu;cases hu
 ·rcases c.sub j hl with h|⟨h,p,_,_,_,_,_,e,_⟩;·exact hj h
  ·exact hj (k j (((jE d hi).1 j (qqs.1 e).1 (.inr h)).2 t (by rw[fP ho];exact ht) hd))
def Early.keep{g g':Gh}{w w':World}{a c:Act}{i:Nat}(h:Early P K ops w0 g w a i)(hf:Fr g w g' w')(he:∀o d,ops[i]? =some o->o.dst=some d->c.eval (.tmp d)=a.eval (.tmp d)):Early P K ops w0 g' w' c i:=by obtain⟨o,d,zs,el,vf,blk,h1,h2,h3,k,e,f,l⟩:=h;have j:=(qqs.1 e).1;exact⟨o,d,zs,el,vf,blk,h1,h2,h3,(he o d h1 h2).trans k,(hf.keep blk j f).trans e,λhn=>f (hf.own blk j hn),l⟩
def DI{a:Act}{ds:List Deferred}(v:Value){d:Option Nat}{t:Nat}(h:d≠some t):(({a with defers:=ds}:Act).put d v).eval (.tmp t)=a.eval (.tmp t):=by cases d with|none=>rfl|some d=>have c:d≠t:=λe=>h (by rw[e]);simp only[Act.put,Act.eval,qqg,qzy,qzc c]
def zT(s:glB (ops.toList.map (bS P ops)) ac ops.size n=true){listed:Array Bool}{D A:List Nat}{g:Gh}{st:St}{w:World}{b a:Act}(c:Inv P K call ops n ac g0 st0 w0 D A listed g st w b a){i:Nat}{o:Oper}(hi:i<ops.size)(ho:ops[i]? =some o)(p:i∈D)(hu:listed.getD i false=false)(B:∀j∈(bE (ops.toList.map (bS P ops)) i).pre,listed.getD j false=true){next:Act->World->Prop}{Q:Exit->Act->World->Prop}(hn:∀w' C u,Inv P K call ops n ac g0 st0 w0 D A (listed.setIfInBounds i true) g st w' C u->next u w'):wpOp P ops Q i next a w:=by
 obtain⟨_,S,Z,d,x,d0,m,hd,e,hs⟩:=c.flt i p hu;rw[ho]at m;injection m with m;subst m;obtain⟨T,_⟩:=oiq ho S;obtain⟨g',w',v,h1,h2,h3,E,F,G,X,Y,H⟩:=yH c.kin c.hr ho T (c.np s hi ho B (c.dcl i p)) e;have V:TR g st.R st.nR (gt st.T d) v:=QZ E.le h2 F (c.v.slot d) G hs;obtain⟨k1,k2⟩:=h1 g st c.hr;have L:d<n:=by have:=(jE s hi).2.1;rw[fP ho]at this;change ltO n o.dst=true at this;rw[hd]at this;exact aT this
 have y:=c.v.size;have q:d<b.tmps.size:=qzj L y;have I:d<a.tmps.size:=by rw[c.sz];exact q
 have hid:(bE (ops.toList.map (bS P ops)) i).dst=some d:=by rw[fP ho];exact hd
 have l:i<listed.size:=by rw[c.ls];exact hi
 refine H next Q (hn w' (b.put (some d) v) _ ?_);rw[hd];refine⟨c.kin,k1,c.fr.trans k2,c.ext,⟨by simpa [Act.put]using y,λt=>?_,c.v.defers⟩,by simp[Act.put,c.sz],c.df,λt ht U=>?_,λj hj=>?_,λj hj f=>?_,λj hj=>?_,λj hj k hk=>?_,by simp[c.ls],c.dcl⟩
 ·rw[eU v t q];split;·rename_i e;subst e;exact V
  ·exact c.v.slot t
 ·rw[eU v t I,eU v t q];split;·rfl
  ·rename_i R;refine c.eq t (λj hj f=>?_) (λj N hj=>?_)
   ·by_cases e:j=i;·subst e;rw[hid];exact λh=>R (by injection h with h;exact h.symm)
    ·exact ht j hj (by rw[dP l,qzc e];exact f)
   ·exact U j (by rw[dP l];split<;>first|rfl|exact N) hj
 ·rw[dP l]at hj;by_cases e:j=i;·subst e;exact .inl p
  ·rw[qzc e]at hj;rcases c.sub j hj with h|⟨h,he⟩;·exact .inl h
   ·by_cases M:j∈D;·exact .inl M
    ·refine .inr ⟨h,he.keep k2 λoj W z J=>?_⟩;refine DI (ds:=a.defers) v λr=>?_;injection r with r;have O:=(qqs.1 z).1;refine((jE s hi).1 j O (.inr h)).1 (λh=>e h.symm) ?_;rw[hid,fP z,r];exact J.symm
 ·rw[dP l]at f;by_cases e:j=i;·rw[qzb e]at f;cases f
  ·rw[qzc e]at f;exact c.flt j hj f
 ·rw[dP l];split;·rfl
  ·exact c.anc j hj
 ·rw[dP l]at hj⊢;split;·rfl
  ·by_cases e:j=i;·subst e;exact B k hk
   ·rw[qzc e]at hj;exact c.cl j hj k hk
def IB(x:glB (ops.toList.map (bS P ops)) ac ops.size n=true){listed:Array Bool}{D A:List Nat}{g:Gh}{st:St}{w:World}{b a:Act}(c:Inv P K call ops n ac g0 st0 w0 D A listed g st w b a){i:Nat}{o:Oper}(hi:i<ops.size)(ho:ops[i]? =some o)(m:i∉D)(hu:listed.getD i false=false)(B:∀j∈(bE (ops.toList.map (bS P ops)) i).pre,listed.getD j false=true)(q:ac=some i){zs:Array Value}{el:TypeId}{vf:Addr->Value}(hv:AcV P K o zs el vf){d:Nat}(hd:o.dst=some d){next:Act->World->Prop}{Q:Exit->Act->World->Prop}(hn:∀w' p,Inv P K call ops n ac g0 st0 w0 D A (listed.setIfInBounds i true) g st w' b p->next p w'):wpOp P ops Q i next a w:=by
 have f:i<listed.size:=by rw[c.ls];exact hi
 have hid:(bE (ops.toList.map (bS P ops)) i).dst=some d:=by rw[fP ho];exact hd
 have v:d<n:=by have:=(jE x hi).2.1;rw[hid]at this;exact aT this
 have r:d<a.tmps.size:=by rw[c.sz];exact qzj v c.v.size
 obtain⟨k1,k2⟩:=c.hr.push (.cells zs el (0,0));have y:∀j,listed.getD j false=true->j≠i:=λj hj e=>by subst e;rw[hj]at hu;cases hu
 unfold wpOp;simp only[ho];rw[qzb (by simp[Region.wanted,hv.gd])];refine .inl ?_;unfold Oper.wp;rw[hv.run,Oper.upon_value,hd];refine hn _ _ ⟨c.kin,k1,c.fr.trans k2,c.ext,c.v,by simp[Act.put,c.sz],c.df,λt ht u=>?_,λj hj=>?_,λj hj l=>?_,λj hj=>?_,λj hj k hk=>?_,by simp[c.ls],c.dcl⟩
 ·have C:t≠d:=λe=>u i (by rw[dP f,qzb rfl]) m (by rw[hid,e]);rw[eU _ t r,qzc C];refine c.eq t (λj hj l=>?_) (λj s hj=>?_);·exact ht j hj (by rw[dP f,qzc (λ(e:j=i)=>m (e▸hj))];exact l)
  ·exact u j (by rw[dP f,qzc (y j s)];exact s) hj
 ·rw[dP f]at hj;by_cases e:j=i;·subst e;refine .inr ⟨q,o,d,zs,el,vf,w.heap.size,ho,hd,hv,by rw[eU _ d r,qzb rfl],yK _ _,λz=>?_,c.fr.size⟩;exact absurd (Ak c.hr z) (Nat.lt_irrefl _)
  ·rw[qzc e]at hj;rcases c.sub j hj with h|⟨h,_⟩;·exact .inl h
   ·exact absurd (jzt (h.symm.trans q)) e
 ·rw[dP f]at l;by_cases e:j=i;·subst e;exact absurd hj m
  ·rw[qzc e]at l;exact c.flt j hj l
 ·rw[dP f];split;·rfl
  ·exact c.anc j hj
 ·rw[dP f]at hj⊢;split;·rfl
  ·by_cases e:j=i;·subst e;exact B k hk
   ·rw[qzc e]at hj;exact c.cl j hj k hk
structure Mid(P:Program)(K:Kon)(ops:Array Oper)(n:Nat)(ac:Option Nat)(g0:Gh)(st0:St)(w0:World)(D A:List Nat)(listed:Array Bool)(g:Gh)(st:St)(w:World)(b a:Act):Prop where
 kin:K.In g
 hr:HR g st w
 fr:Fr g0 w0 g w
 ext:Ext st0.R st0.nR st.R st.nR
 v:FR g st b n
 sz:a.tmps.size=b.tmps.size
 df:a.defers=b.defers
 eq:∀t,(∀i∈D,listed.getD i false=false->(bE (ops.toList.map (bS P ops)) i).dst≠some t)->(∀i,listed.getD i false=true->i∉D->(bE (ops.toList.map (bS P ops)) i).dst≠some t)->a.eval (.tmp t)=b.eval (.tmp t)sub:∀i,listed.getD i false=true->i∈D\/(ac=some i/\Early P K ops w0 g w a i)flt:∀i∈D,listed.getD i false=false->i<ops.size/\(bE (ops.toList.map (bS P ops)) i).q=true
 anc:∀i∈A,listed.getD i false=true
 cl:∀i,listed.getD i false=true->∀j∈(bE (ops.toList.map (bS P ops)) i).pre,listed.getD j false=true
 ls:listed.size=ops.size
 dcl:∀i∈D,∀j∈(bE (ops.toList.map (bS P ops)) i).pre,j∈D
def Ih(H:glB (ops.toList.map (bS P ops)) ac ops.size n=true){y:Nat}{m:St}{listed:Array Bool}{D A:List Nat}{s:lI}{r:List lI}{g:Gh}{st:St}{w:World}{b a:Act}{l:List Stp}(c:Mid P K ops n ac g0 st0 w0 (s.e::D) A listed g st w b a)(he:listed.getD s.e false=true)(hl:iO P K ops (s.fl.map .run++(s.ck.map .chk++kN r))=some l)(hr:fB call l st=.ok y m)(z:stB (ops.toList.map (bS P ops)) ac ops.size n D A (s::r)=true): ∃g' st' E C,Inv P K call ops n ac g0 st0 w0 (s.fl++s.e::D) (s.anc++A) listed g' st' w E a/\iO P K ops (kN r)=some C/\fB call C st'=.ok y m/\stB (ops.toList.map (bS P ops)) ac ops.size n (s.fl++s.e::D) (s.anc++A) r=true:=by
 simp only[stB,qqn]at z;obtain⟨⟨⟨⟨⟨⟨⟨⟨⟨⟨c1,c2⟩,_⟩,c4⟩,c5⟩,c6⟩,c7⟩,c8⟩,T⟩,u⟩,c9⟩:=z;rw[qqw]at c6 u;have k:∀i∈s.fl,i<ops.size/\(bE (ops.toList.map (bS P ops)) i).q=true/\i∉D/\i≠s.e/\ac≠some i:=λi hm=>by have:=c6 i hm;simp only[qqn]at this;obtain⟨⟨⟨⟨f1,f2⟩,f3⟩,f4⟩,f5⟩:=this;exact⟨aT f1,f2,by simpa using f3,λe=>(by rw[e]at f4;rw[Nat.beq_refl]at f4;cases f4),by simpa using f5⟩
 obtain⟨G,S,F,M,k1,k2,k3,k4,k5,k6,k7,k8,k9⟩:=wu (n:=n) (call:=call) s.fl (s.ck.map .chk++kN r) g st _ l y m c.kin c.hr c.v (λi hm=>by obtain⟨f1,f2,_⟩:=k i hm;have f:ops[i]? =some ops[i]:=jqi f1;refine⟨_,f,(oiq f f2).1,?_⟩;have:=(jE H f1).2.1;rw[fP f]at this;exact this) hl hr;obtain⟨O,N,Q,R⟩:=Cz s.ck (kN r) M y m k8 k9;have v:∀j∈s.anc,listed.getD j false=true:=GG (L:=λj=>listed.getD j false=true) (c.cl s.e he) c.cl s.anc [] (λi hm=>by simp at hm) c5;have B:∀i∈s.fl,listed.getD i false=false:=λi hm=>by obtain⟨f1,f2,f3,f4,f5⟩:=k i hm;cases I:listed.getD i false with|false=>rfl|true=>
   rcases c.sub i I with h|⟨h,_⟩
   ·rcases qzh.1 h with h|h;·exact absurd h f4
    ·exact absurd h f3
   ·exact absurd h f5
 refine⟨G,S,F,N,⟨c.kin.le k2.le,k1,c.fr.trans k2,c.ext.trans k4,k3,c.sz.trans k5.symm,c.df.trans k6.symm,λt ht J=>?_,λj hj=>?_,λj hj d=>?_,λj hj=>?_,c.cl,c.ls,λi hi j hj=>?_⟩,Q,R,c9⟩
 ·rw[k7 t λi hm U f=>?_]
  ·refine c.eq t (λj hj d=>ht j (qzu.2 (.inr hj)) d) λj x hj=>J j x λh=>?_;rcases qzu.1 h with h|h;·have:=B j h;rw[x]at this;cases this
   ·exact hj h
  ·have:=ht i (qzu.2 (.inl hm)) (B i hm);rw[fP f]at this;exact this
 ·rcases c.sub j hj with h|⟨h1,h2⟩;·exact .inl (qzu.2 (.inr h))
  ·exact .inr ⟨h1,h2.keep k2 λ_ _ _ _=>rfl⟩
 ·have p:j<ops.size/\(bE (ops.toList.map (bS P ops)) j).q=true:=by
   rcases qzu.1 hj with hj|hj;·exact⟨(k j hj).1,(k j hj).2.1⟩
   ·exact c.flt j hj d
  refine⟨p.1,p.2,?_⟩;rw[qqw]at c8;have:=c8 j hj;rw[p.2]at this;simp only[qji,Bool.not_true,qzr,jzq]at this;rcases this with(h|h)|h;·have h:=ah h;subst h;rw[he]at d;cases d
  ·exact O j (by simpa using h)
  ·have hm:j∈s.anc++A:=by simpa using h
   have:listed.getD j false=true:=by
    rcases qzu.1 hm with hm|hm;·exact v j hm
    ·exact c.anc j hm
   rw[this]at d;cases d
 ·rcases qzu.1 hj with hj|hj;·exact v j hj
  ·exact c.anc j hj
 ·rcases qzu.1 hi with hi|hi;·have:=u i hi;unfold vS at this;rw[qqw]at this;simpa using this j hj
  ·exact qzu.2 (.inr (c.dcl i hi j hj))
def zX{D A:List Nat}{s:lI}{r:List lI}(d:stB (ops.toList.map (bS P ops)) ac ops.size n D A (s::r)=true):s.e<ops.size/\s.e∉D/\∀j∈(bE (ops.toList.map (bS P ops)) s.e).pre,j∈D:=by simp only[stB,qqn]at d;obtain⟨⟨⟨⟨⟨⟨⟨⟨⟨⟨c1,c2⟩,_⟩,c4⟩,c5⟩,c6⟩,c7⟩,c8⟩,c⟩,e⟩,c9⟩:=d;refine⟨aT c2,by simpa using c1,λj hj=>?_⟩;unfold vS at c;rw[qqw]at c;simpa using c j hj
def IU(hc:lu P K call)(q:glB (ops.toList.map (bS P ops)) ac ops.size n=true){y:Nat}{M:St}{listed:Array Bool}{D A:List Nat}{s:lI}{r:List lI}{g:Gh}{st:St}{w:World}{b a:Act}{l:List Stp}(c:Inv P K call ops n ac g0 st0 w0 D A listed g st w b a){o:Oper}(ho:ops[s.e]? =some o)(_hu:listed.getD s.e false=false)(I:∀j∈(bE (ops.toList.map (bS P ops)) s.e).pre,listed.getD j false=true)(hl:iO P K ops (kN (s::r))=some l)(hr:fB call l st=.ok y M)(L:stB (ops.toList.map (bS P ops)) ac ops.size n D A (s::r)=true){next:Act->World->Prop}{Q:Exit->Act->World->Prop}(hn:∀g' st' w' z C u,Inv P K call ops n ac g0 st0 w0 (s.fl++s.e::D) (s.anc++A) (listed.setIfInBounds s.e true) g' st' w' z C->iO P K ops (kN r)=some u->fB call u st'=.ok y M->stB (ops.toList.map (bS P ops)) ac ops.size n (s.fl++s.e::D) (s.anc++A) r=true->next C w'):wpOp P ops Q s.e next a w:=by
 obtain⟨hi,W,J⟩:=zX L;have i:s.e<listed.size:=by rw[c.ls];exact hi
 simp only[kN,iO]at hl;split at hl
 ·rename_i sp rr hs e0;injection hl with hl;subst hl;simp only[GH,ho]at hs;obtain⟨x,p,N,O⟩:=rY hs hr;have hid:(bE (ops.toList.map (bS P ops)) s.e).dst=o.dst:=by rw[fP ho];rfl
  have G:∀d,o.dst=some d->d<n:=λd hd=>by have:=(jE q hi).2.1;rw[hid,hd]at this;exact aT this
  refine Tu hc c.kin c.hr ho (c.np q hi ho I J) (by rw[c.df];exact c.v.defers) N λS w1 v ds' m=>?_;have X:=c.v.put (a:=b) (by rw[<-c.df];exact m) G;have E:(iY p o.dst x).R=p.R/\(iY p o.dst x).nR=p.nR:=by cases o.dst<;>exact⟨rfl,rfl⟩
  have T:Mid P K ops n ac g0 st0 w0 (s.e::D) A (listed.setIfInBounds s.e true) S (iY p o.dst x) w1 (({b with defers:=ds'}:Act).put o.dst v) (({a with defers:=ds'}:Act).put o.dst v):=by
   refine⟨c.kin.le m.fr.le,qV m.hr _ _,c.fr.trans m.fr,c.ext.trans (by rw[E.1,E.2];exact m.ext),X,?_,?_,λt ht i0=>?_,λj hj=>?_,λj hj f=>?_,λj hj=>?_,λj hj k hk=>?_,by simp[c.ls],λj hj k hk=>?_⟩;·cases o.dst<;>simp[Act.put,c.sz]
   ·cases o.dst<;>rfl
   ·have B:a.eval (.tmp t)=b.eval (.tmp t)\/o.dst=some t:=by
     by_cases hd:o.dst=some t;·exact .inr hd
     ·refine .inl (c.eq t (λj hj f=>ht j (qzh.2 (.inr hj)) ?_) λj Y hj=>?_);·rw[dP i,qzc (λ(e:j=s.e)=>W (e▸hj))];exact f
      ·by_cases e:j=s.e;·rw[e,hid];exact hd
       ·exact i0 j (by rw[dP i,qzc e];exact Y) λh=>by
         rcases qzh.1 h with h|h;·exact e h
         ·exact hj h
    cases hd:o.dst with
    |none=>
     rw[hd]at B;rcases B with h|h;·exact h
     ·cases h|some d=>
     have F:d<b.tmps.size:=qzj (G d hd) c.v.size;rw[eU (a:={a with defers:=ds'}) v t (show d<a.tmps.size by rw[c.sz];exact F),eU (a:={b with defers:=ds'}) v t F];split;·rfl
     ·rename_i d0;rcases B with h|h;·exact h
      ·rw[hd]at h;injection h with h;exact absurd h.symm d0
   ·rw[dP i]at hj;by_cases e:j=s.e;·subst e;exact .inl (by simp)
    ·rw[qzc e]at hj;rcases c.sub j hj with h|⟨h1,h2⟩;·exact .inl (qzh.2 (.inr h))
     ·refine .inr ⟨h1,h2.keep m.fr λoj dj H V=>DI v λU=>?_⟩;have Z:=(qqs.1 H).1;refine((jE q hi).1 j Z (.inr h1)).1 (λh=>e h.symm) ?_;rw[hid,fP H,U];exact V.symm
   ·rw[dP i]at f;by_cases e:j=s.e;·rw[qzb e]at f;cases f
    ·rw[qzc e]at f;rcases qzh.1 hj with hj|hj;·exact absurd hj e
     ·exact⟨(c.flt j hj f).1,(c.flt j hj f).2.1⟩
   ·rw[dP i];split;·rfl
    ·exact c.anc j hj
   ·rw[dP i]at hj⊢;split;·rfl
    ·by_cases e:j=s.e;·subst e;exact I k hk
     ·rw[qzc e]at hj;exact c.cl j hj k hk
   ·rcases qzh.1 hj with rfl|hj;·exact qzh.2 (.inr (J k hk))
    ·exact qzh.2 (.inr (c.dcl j hj k hk))
  obtain⟨g',st',z,u,m1,m2,m3,m4⟩:=Ih (call:=call) q T (by rw[dP i,qzb rfl]) e0 O L;exact hn g' st' w1 z _ u m1 m2 m3 m4
 ·cases hl
def yE(E:glB (ops.toList.map (bS P ops)) ac ops.size n=true){y:Nat}{I:St}{listed:Array Bool}{D A:List Nat}{s:lI}{r:List lI}{g:Gh}{st:St}{w:World}{b a:Act}{l:List Stp}(f:Inv P K call ops n ac g0 st0 w0 D A listed g st w b a)(hu:listed.getD s.e false=true)(hl:iO P K ops (kN (s::r))=some l)(hr:fB call l st=.ok y I)(F:stB (ops.toList.map (bS P ops)) ac ops.size n D A (s::r)=true): ∃g' st' J G,Inv P K call ops n ac g0 st0 w0 (s.fl++s.e::D) (s.anc++A) listed g' st' w J a/\iO P K ops (kN r)=some G/\fB call G st'=.ok y I/\stB (ops.toList.map (bS P ops)) ac ops.size n (s.fl++s.e::D) (s.anc++A) r=true:=by
 obtain⟨hi,T,W⟩:=zX F;rcases f.sub s.e hu with h|⟨R,o,d,zs,el,vf,blk,ho,hd,hv,M,N,O,h7⟩;·exact absurd h T
 simp only[kN,iO]at hl;split at hl
 ·rename_i sp rr hs X;injection hl with hl;subst hl;simp only[GH,ho]at hs;obtain⟨x,i,u,L⟩:=rY hs hr;have u:kE call (cO P K o) st=.ok x i:=by
   rcases u with⟨_,e⟩|⟨q,_,_,C,_⟩;·exact e
   ·rw[hv.gd]at C;cases C
  obtain⟨v,Z,p,r3,H,r5,r6,z⟩:=hv.qw call g st w x i blk f.kin f.hr N O u;have hid:(bE (ops.toList.map (bS P ops)) s.e).dst=some d:=by rw[fP ho];exact hd
  have S:d<n:=by have:=(jE E hi).2.1;rw[hid]at this;exact aT this
  have B:d<b.tmps.size:=qzj S f.v.size;have Q:Mid P K ops n ac g0 st0 w0 (s.e::D) A listed v (iY i o.dst x) w (b.put (some d) (vf ⟨blk,0,none⟩)) a:=by
   rw[hd];refine⟨f.kin.le p,qV Z (some d) x,⟨f.fr.os,f.fr.tape,f.fr.output,f.fr.size,f.fr.le.trans p,f.fr.keep,λc hc ho=>?_⟩,f.ext.trans z,⟨by have:=f.v.size;simpa [Act.put]using this,λt=>?_,?_⟩,by simp[Act.put,f.sz],f.df,λt ht Y=>?_,λj hj=>?_,λj hj m=>?_,f.anc,f.cl,f.ls,λj hj k hk=>?_⟩
   ·rcases r3 c ho with h|h;·exact f.fr.own c hc h
    ·subst h;omega
   ·rw[eU _ t B];show TR v i.R i.nR (gt (up1 i.T d x) t) _;rw[GJ _ _ _ H.lt];split;·exact H
    ·rw[r5];exact(f.v.slot t).mono p z
   ·show DR v i.R i.nR i.D b.defers;rw[r6];exact f.v.defers.mono p z
   ·rw[eU _ t B];split;·rename_i e;subst e;exact M
    ·rename_i V;refine f.eq t (λj hj m=>ht j (qzh.2 (.inr hj)) m) λj U hj=>?_;by_cases e:j=s.e;·rw[e,hid];exact λh=>V (jzt h).symm
     ·exact Y j U λh=>by
       rcases qzh.1 h with h|h;·exact e h
       ·exact hj h
   ·rcases f.sub j hj with h|⟨h,_⟩;·exact .inl (qzh.2 (.inr h))
    ·exact .inl (qzh.2 (.inl (jzt (h.symm.trans R))))
   ·rcases qzh.1 hj with hj|hj;·subst hj;rw[hu]at m;cases m
    ·exact⟨(f.flt j hj m).1,(f.flt j hj m).2.1⟩
   ·rcases qzh.1 hj with rfl|hj;·exact qzh.2 (.inr (W k hk))
    ·exact qzh.2 (.inr (f.dcl j hj k hk))
  exact Ih (call:=call) E Q hu X L F
 ·cases hl
def Sg(hc:lu P K call){Q:Exit->Act->World->Prop}{y:Nat}{F:St}(m:glB (ops.toList.map (bS P ops)) ac ops.size n=true)(V:∀i,ac=some i->∃o d zs el vf,ops[i]? =some o/\o.dst=some d/\AcV P K o zs el vf)(S:∀g w a,K.In g->HR g F w->Fr g0 w0 g w->Ext st0.R st0.nR F.R F.nR->FR g F a n->Q .normal a w): ∀(fuel:Nat)(rest:List lI)(listed:Array Bool)(D A:List Nat)(g:Gh)(st:St)(w:World)(b a:Act)(l:List Stp),Inv P K call ops n ac g0 st0 w0 D A listed g st w b a->cnt listed<=fuel->iO P K ops (kN rest)=some l->fB call l st=.ok y F->stB (ops.toList.map (bS P ops)) ac ops.size n D A rest=true->wpAny P .any ops Q fuel listed a w:=by intro fuel;induction fuel with
 |zero=>intro rest;induction rest with|nil=>intro listed D A g st w b a l c u hl hr f;have x:∀i,i<ops.size->listed.getD i false=true:=λi hi=>FZ (Nat.le_zero.1 u) (by rw[c.ls];exact hi);refine⟨?_,Dz S c x hl hr f⟩;refine List.eq_nil_iff_forall_not_mem.2 λi hi=>?_;obtain⟨h1,_⟩:=mem_ready.1 hi;obtain⟨h2,h3⟩:=vg h1;rw[x i (by rw[<-c.ls];exact h3)]at h2;cases h2|cons s r L=>intro listed D A g st w b a l c u hl hr f;have he:listed.getD s.e false=true:=FZ (Nat.le_zero.1 u) (by rw[c.ls];exact(zX f).1);obtain⟨g',st',k,E,M,N,O,R⟩:=yE m c he hl hr f;exact L _ _ _ g' st' w k a E M u N O R
 |succ fuel ih=>intro rest;induction rest with|nil=>
   intro listed D A g st w b a l c u hl hr f;refine⟨λh0=>Dz S c (Aa c.ls m h0) hl hr f,λi hi=>?_⟩;obtain⟨h1,o,ho,x⟩:=mem_ready.1 hi;obtain⟨h2,h3⟩:=vg h1;have z:i<ops.size:=by rw[<-c.ls];exact h3
   have v:∀j∈(bE (ops.toList.map (bS P ops)) i).pre,listed.getD j false=true:=λj hj=>by rw[fP ho]at hj;obtain⟨e,he,H,rfl⟩:=Bw.1 hj;exact x e he H
   have C:cnt (listed.setIfInBounds i true)<=fuel:=by have:=JS h1;omega
   have B:i∈D:=by have p:=f;simp only[stB]at p;rw[qqw]at p;simpa using p i (qzg.2 z)
   exact zT m c z ho B h2 v λw' k q t=>ih [] _ D A g st w' k q l t C hl hr f|cons s r L=>
   intro listed D A g st w b a l c u hl hr f;by_cases he:listed.getD s.e false=true;·obtain⟨g',st',k,E,M,N,O,R⟩:=yE m c he hl hr f;exact L _ _ _ g' st' w k a E M u N O R
   ·refine⟨λh0=>absurd (Aa c.ls m h0 s.e (zX f).1) he,λi hi=>?_⟩;obtain⟨h1,o,ho,x⟩:=mem_ready.1 hi;obtain⟨h2,h3⟩:=vg h1;have z:i<ops.size:=by rw[<-c.ls];exact h3
    have v:∀j∈(bE (ops.toList.map (bS P ops)) i).pre,listed.getD j false=true:=λj hj=>by rw[fP ho]at hj;obtain⟨e,he,H,rfl⟩:=Bw.1 hj;exact x e he H
    have C:cnt (listed.setIfInBounds i true)<=fuel:=by have:=JS h1;omega
    by_cases B:i∈D;·exact zT m c z ho B h2 v λw' k q t=>ih _ _ D A g st w' k q l t C hl hr f
    ·by_cases U:i=s.e;·subst U;exact IU hc m c ho h2 v hl hr f λg' st' w' k q E t W X p=>ih r _ _ _ g' st' w' k q E t C W X p
     ·have T:ac=some i:=by
       have p:=f;simp only[stB,qqn]at p;obtain⟨⟨⟨⟨⟨⟨⟨⟨⟨⟨_,_⟩,c3⟩,_⟩,_⟩,_⟩,_⟩,_⟩,_⟩,_⟩,_⟩:=p;rw[qqw]at c3;have:=c3 i (qzg.2 z);simp only[qji]at this;rcases this with((h|h)|h)|h;·exact absurd (by simpa using h) B
       ·exact absurd (ah h) U
       ·simpa using h
       ·exfalso;obtain⟨j,hj,I⟩:=jze.1 h;simp only[qqn,qji]at I;rcases I.2 with J|J;·exact he (ah J▸v j hj)
        ·rcases c.sub j (v j hj)with h|⟨h,_⟩;·simp[h]at I
         ·simp[h]at J
      obtain⟨Y,d,zs,el,vf,G,hd,hv⟩:=V i T;rw[ho]at G;injection G with G;subst G;exact IB m c z ho B h2 v T hv hd λw' q t=>ih _ _ D A g st w' b q l t C hl hr f
end
end Ev
namespace Ev
section
variable {P:Program}{K:Kon}{call:Nat->St->RS}{n:Nat}{ops:Array Oper}{g:Gh}{st:St}{w:World}{a:Act}
def After(K:Kon)(n:Nat)(g:Gh)(st:St)(w:World)(c:St)(d:Act)(w':World):Prop:= ∃g',K.In g'/\HR g' c w'/\Fr g w g' w'/\Ext st.R st.nR c.R c.nR/\FR g' c d n
def Wn(m:Nat):cnt (Array.replicate m false)=m:=by unfold cnt;rw[Array.toList_replicate,List.filter_replicate];simp
def Td(hm:P.follows .mixedOrders=true)(hc:lu P K call)(hk:K.In g)(J:HR g st w)(hf:FR g st a n){y:Nat}{h:St}{l:List Stp}{p:bY}(u:zu P K n ops p=true)(e:lM P K ops p=.reg l)(hr:fB call l st=.ok y h){id:Nat}{Q:Exit->Act->World->Prop}(H:∀w' f,After K n g st w h f w'->Q .normal f w'):(Code.region id ops true).wp P Q a w:=by
 unfold lM at e;split at e
 ·rename_i M hl;injection e with e;subst e
  ·simp only[zu,Ej,qqn]at u;obtain⟨c,⟨⟨⟨⟨s,v⟩,X⟩,x⟩,z⟩,R⟩:=u;rw[qqw]at v x z;have I:∀i,p.ac=some i->∃o d zs el vf,ops[i]? =some o/\o.dst=some d/\AcV P K o zs el vf:=λi hi=>by unfold acB at c;rw[hi]at c;dsimp only at c;cases ho:ops[i]? with|none=>rw[ho]at c;cases c|some o=>rw[ho]at c;obtain⟨zs,el,vf,hv⟩:=XL hk c;have h1:=c;simp only[acO,qqn]at h1;obtain⟨_,d,hd⟩:=FM h1.1;exact⟨o,d,zs,el,vf,rfl,hd,hv⟩
   have k:∀i∈p.fl,i<ops.size/\(bE (ops.toList.map (bS P ops)) i).q=true:=λi hi=>by have:=v i hi;simp only[qqn]at this;exact⟨aT this.1,this.2⟩
   have L:HR g st {w with drawn:=w.drawn+1}:=J.drew _;obtain⟨G,V,A,N,k1,k2,k3,k4,k5,k6,k7,k8,k9⟩:=wu (n:=n) (call:=call) p.fl (p.ck.map .chk++kN p.st) g st a M y h hk L hf (λi hi=>by obtain⟨f1,f2⟩:=k i hi;have r:ops[i]? =some ops[i]:=jqi f1;refine⟨_,r,(oiq r f2).1,?_⟩;have:=(jE s f1).2.1;rw[fP r]at this;exact this) hl hr;obtain⟨S,O,T,U⟩:=Cz p.ck (kN p.st) N y h k8 k9;have m:∀i,(Array.replicate ops.size false).getD i false=false:=λi=>by rw[qqg,Array.getElem?_replicate];split<;>rfl
   refine wp_region_any hm (Sg (g0:=g) (st0:=st) (w0:=w) hc s I (λg' w' f B C D E F=>H w' f ⟨g',B,C,D,E,F⟩) ops.size p.st _ p.fl [] G V _ A a O
    ⟨hk.le k2.le,k1,(Fr.drew g w _).trans k2,k4,k3,k5.symm,k6.symm,λt ht W=>?_,λi hi=>?_,λi hi _=>⟨(k i hi).1,(k i hi).2,S i (by simpa using x i hi)⟩,λi hi=>by simp at hi,λi hi=>?_,by simp,λi hi j hj=>?_⟩ (by rw[Wn];exact qqf _) T U R);·rw[k7 t λi hi o ho=>?_];have:=ht i hi (m i);rw[fP ho]at this;exact this
   ·rw[m]at hi;cases hi
   ·rw[m]at hi;cases hi
   ·have:=z i hi;unfold vS at this;rw[qqw]at this;simpa using this j hj
 ·cases e
def Hu(hc:lu P K call){Q:Exit->Act->World->Prop}{y:Nat}{g0:Gh}{st0:St}{w0:World}{h:St}(m:∀w' i,After K n g0 st0 w0 h i w'->Q .normal i w'): ∀(os:List Oper)(k:Nat)(l:List Stp)(g:Gh)(st:St)(w:World)(a:Act),(∀j,os[j]? =ops[k+j]?)->(∀o∈os,ltO n o.dst=true)->Ca P K ops os=some l->fB call l st=.ok y h->K.In g->HR g st w->Fr g0 w0 g w->Ext st0.R st0.nR st.R st.nR->FR g st a n->wpOps P ops Q (List.range' k os.length) a w
 |[],k,l,g,st,w,a,_,_,hl,hr,hk,e,c,f,hf=>by injection hl with hl;subst hl;change RS.ok 0 st=.ok y h at hr;injection hr with _ hr;subst hr;exact m w a ⟨g,hk,e,c,f,hf⟩|o::os,k,l,g,st,w,a,hj,hd,hl,hr,hk,e,c,f,hf=>by
  simp only[Ca]at hl;split at hl
  ·rename_i s r hs A;injection hl with hl;subst hl;obtain⟨x,B,q,t⟩:=rY hs hr;have ho:ops[k]? =some o:=by simpa using(hj 0).symm
   rw[qzv,List.range'_succ,wpOps_cons];refine SN hc hk e hf ho (λd z=>by have:=hd o (by simp);rw[z]at this;exact aT this) q λu w1 p h1 h2 h3 v=>?_;exact Hu hc m os (k+1) r u _ w1 p (λj=>by have:=hj (j+1);simpa [jqu,Nat.add_comm 1 j]using this) (λo ho=>hd o (by simp[ho])) A t (hk.le h2.le) h1 (c.trans h2) (f.trans v) h3
  ·cases hl
def Tp(hc:lu P K call)(hk:K.In g)(f:HR g st w)(hf:FR g st a n){y:Nat}{d:St}{l:List Stp}(hd:Li n ops=true)(hl:Ca P K ops ops.toList=some l)(hr:fB call l st=.ok y d){id:Nat}{Q:Exit->Act->World->Prop}(e:∀w' c,After K n g st w d c w'->Q .normal c w'):(Code.region id ops false).wp P Q a w:=by refine wp_region ?_;have:=Hu (ops:=ops) hc e ops.toList 0 l g st w a (λj=>by simp) (λo ho=>by unfold Li at hd;rw[qqw]at hd;exact hd o ho) hl hr hk f (Fr.refl _ _) (Ext.refl _ _) hf;rw[jql,<-List.range_eq_range']at this;exact this
end
end Ev
