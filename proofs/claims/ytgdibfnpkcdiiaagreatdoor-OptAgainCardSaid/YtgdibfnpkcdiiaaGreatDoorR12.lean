/- Joint text: EwB, EwC, EwD, EwDa. By an AI agent. -/
import Derived.Test.YtgdibfnpkcdiiaaGreatDoorRzy
import Derived.Test.YtgdibfnpkcdiiaaGreatDoorR11
set_option linter.all false
set_option maxRecDepth 100000
set_option maxHeartbeats 64000000
namespace Go.Proofs.YtgdibfnpkcdiiaaGreatDoor
namespace Ev
structure FR(g:Gh)(st:St)(a:Act)(n:Nat):Prop where
 size:n<=a.tmps.size
 slot:∀t,TR g st.R st.nR (gt st.T t) (a.eval (.tmp t))defers:DR g st.R st.nR st.D a.defers
theorem put_eq(d:Nat)(x:Nat)(st:St)(k:St->RS):put (some d) x st k=k {st with T:=up1 st.T d x}:=by cases st;simp only[put,VG,bX]
theorem Eb{w:Nat}(T d k:Nat)(h:w<2^128):gt (up1 T d w) k=if k=d then w else gt T k:=Vh T d k h
noncomputable def iF(st:St)(d:Option Nat)(x:Nat):St:=match d with|some d=>{st with T:=up1 st.T d x}|none=>st
theorem LW(d:Option Nat)(x:Nat)(st:St)(k:St->RS):put d x st k=k (iF st d x):=by cases d with|none=>rfl|some d=>exact put_eq d x st k
theorem eH{a:Act}{d:Nat}(v:Value)(t:Nat)(h:d<a.tmps.size):(a.put (some d) v).eval (.tmp t)=if t=d then v else a.eval (.tmp t):=by
 simp only[Act.put,Act.eval,qqg,qzy];by_cases e:t=d;·subst e;simp[h]
 ·rw[qzc (Ne.symm e),qzc e]
section
variable {P:Program}{K:Kon}{call:Nat->St->RS}{g:Gh}{st:St}{w:World}{o:Oper}{a:Act}{n:Nat}
theorem FR.opd(h:FR g st a n)(hk:K.In g)(y:Operand):TR g st.R st.nR (rd st.T (cOp K y)) (a.eval y):=FE hk λt e=>by subst e;exact h.slot t
theorem FR.put(h:FR g st a n){g':Gh}{st':St}{w':World}{x:Nat}{v:Value}{ds':List Deferred}(c:wh g st w g' st' w' x v a.defers ds'){d:Option Nat}(hd:∀i,d=some i->i<n):FR g' (iF st' d x) (({a with defers:=ds'}:Act).put d v) n:=by have hs:=h.size;cases d with|none=>exact⟨hs,λt=>by show TR _ _ _ (gt st'.T t) (a.eval (.tmp t));rw[c.T];exact(h.slot t).mono c.fr.le c.ext,c.D⟩|some d=>
  have hd:=hd d rfl;refine⟨by simpa [Act.put]using hs,λt=>?_,c.D⟩;rw[eH _ _ (by show d<a.tmps.size;omega)];show TR g' st'.R st'.nR (gt (up1 st'.T d x) t) _;rw[Eb _ _ _ c.tr.lt];split;·exact c.tr
  ·rw[c.T];exact(h.slot t).mono c.fr.le c.ext
theorem pG{g':Gh}{st':St}{w':World}(h:HR g' st' w')(d:Option Nat)(x:Nat):HR g' (iF st' d x) w':=by cases d with|none=>exact h|some d=>exact h.frame _ _ h.Rlt
theorem BM(h:FR g st a n){t:Nat}{b:Bool}(e:gt st.T t=if b then 17 else 1):a.tmps[t]? =some (.bool b):=by
 have ht:=h.slot t;rw[e]at ht;have hv:a.eval (.tmp t)=.bool b:=by obtain⟨c,f,i⟩:=(ht.aP (by cases b<;>decide) (by cases b<;>decide) (by cases b<;>decide) (by cases b<;>decide)).gL (by cases b<;>rfl);rw[i];cases b<;>cases c<;>first|rfl|(exact absurd f (by decide))
 simp only[Act.eval,qqg]at hv;cases d:a.tmps[t]? with|none=>rw[d]at hv;cases b<;>cases hv|some v=>rw[d]at hv;rw[qzm]at hv;rw[hv]
theorem H7{g:Gh}{R nR x:Nat}{v:Value}(h:TR g R nR x v)(c:x=14):v=undef:=by cases h with|unk=>omega|und=>rfl|cell _ _ h=>have:=h.tag;omega|agg s n=>exfalso;unfold dU at c;omega|tup s n=>exfalso;unfold eZ at c;omega
theorem J7(h:FR g st a n){t:Nat}(e:gt st.T t=14)(b:Bool):a.tmps[t]?≠some (.bool b):=by have hv:a.eval (.tmp t)=undef:=H7 (h.slot t) e;intro c;simp only[Act.eval,qqg,c,qzm]at hv;cases hv
theorem Ff(h:FR g st a n){ops:Array Oper}{q:Nat×Bool}{d:Nat}{b:Bool}(l:o.guard=some q)(hc:cGd ops q=some d)(e:gd st.T d=some b):Region.wanted o (yielded ops a.tmps)=b:=by
 obtain⟨j,f⟩:=q;unfold cGd at hc;split at hc
 ·rename_i s hs;dsimp only at hs;injection hc with hc;dsimp only at hc;have i:Nat.div d 2=s:=by show d/2=s;cases f<;>simp at hc<;>omega
  have k:Nat.mod d 2=if f then 1 else 0:=by show d%2=_;cases f<;>simp at hc⊢ <;>omega
  unfold gd at e;rw[i,k]at e;have p:yielded ops a.tmps j=match a.tmps[s]? with|some (.bool c)=>some c|_=>none:=by unfold yielded;rw[hs];rfl
  simp only[Region.wanted,l,p];cases h1:Nat.beq (gt st.T s) 17 with|true=>rw[h1,ak]at e;have h1:=ai h1;rw[BM h (b:=true) (by simpa using h1)];injection e with e;subst e;cases f<;>rfl|false=>rw[h1,ah]at e;cases h2:Nat.beq (gt st.T s) 1 with|true=>rw[h2,ak]at e;have h2:=ai h2;rw[BM h (b:=false) (by simpa using h2)];injection e with e;subst e;cases f<;>rfl|false=>rw[h2,ah]at e;cases h3:Nat.beq (gt st.T s) 14 with|false=>rw[h3,ah]at e;cases e|true=>
     rw[h3,ak]at e;injection e with e;subst e;have hn:=J7 h (ai h3);split;·rename_i c m;exact absurd m (hn c)
     ·cases f<;>rfl
 ·cases hc
def zU(call:Nat->St->RS)(P:Program)(K:Kon)(ops:Array Oper)(o:Oper)(st:St)(x:Nat)(st':St):Prop:=(o.guard=none/\jP call (cO P K o) st=.ok x st')\/ ∃q c b,o.guard=some q/\cGd ops q=some c/\gd st.T c=some b/\if b then jP call (cO P K o) st=.ok x st' else x=14/\st'=st
theorem qh{ops:Array Oper}{s:Stp}{l:List Stp}{y:Nat}{i:St}(hs:IX P K ops o=some s)(e:eX call (s::l) st=.ok y i):∃x st',zU call P K ops o st x st'/\eX call l (iF st' o.dst x)=.ok y i:=by
 have run:∀d co,Fb call d co st (eX call l)=.ok y i->∃x st',jP call co st=.ok x st'/\eX call l (iF st' d x)=.ok y i:=λd co e=>by unfold Fb at e;cases hr:jP call co st with|no=>rw[hr]at e;cases e|ok x st'=>rw[hr]at e;exact⟨x,st',rfl,(LW d x st' (eX call l)).symm.trans e⟩
 have mv:∀d x,cMv d x=some s->eX call l {st with T:=up1 st.T d (rd st.T x)}=.ok y i:=λd x h=>by cases x with|s t=>injection h with h;subst h;cases st;exact e|c w=>injection h with h;subst h;cases st;exact e
 have rn:∀d co,Ul d co=some s->Fb call d co st (eX call l)=.ok y i:=λd co h=>by cases co with
  |op f=>cases d with|none=>injection h with h;subst h;exact e|some d=>injection h with h;subst h;exact e
  |call f l=>injection h with h;subst h;exact e|dyn x l=>injection h with h;subst h;exact e|dfr x l=>injection h with h;subst h;exact e
 unfold IX at hs;split at hs
 ·rename_i j;split at hs
  ·rename_i x d ho hd;refine⟨_,st,.inl ⟨j,?_⟩,by rw[hd];exact mv d _ hs⟩;have:cO P K o=.op (rC (cOp K x)):=by simp[cO,mU,ho]
   rw[this];rfl
  ·rename_i x d ho hd;refine⟨_,st,.inl ⟨j,?_⟩,by rw[hd];exact mv d _ hs⟩;have:cO P K o=.op (rC (cOp K x)):=by simp[cO,mU,ho]
   rw[this];rfl
  ·obtain⟨x,st',h1,h2⟩:=run _ _ (rn _ _ hs);exact⟨x,st',.inl ⟨j,h1⟩,h2⟩
 ·rename_i q j;split at hs;·rename_i k p;injection hs with hs;subst hs;change Qx call k o.dst (cO P K o) st (eX call l)=.ok y i at e;unfold Qx at e;cases m:gd st.T k with|none=>rw[m]at e;cases e|some b=>rw[m]at e;cases b with|true=>obtain⟨x,st',h1,h2⟩:=run _ _ e;exact⟨x,st',.inr ⟨q,k,true,j,p,m,h1⟩,h2⟩|false=>change put o.dst 14 st (eX call l)=.ok y i at e;exact⟨14,st,.inr ⟨q,k,false,j,p,m,rfl,rfl⟩,(LW o.dst 14 st (eX call l)).symm.trans e⟩
  ·cases hs
theorem QZ(hc:kG P K call)(hk:K.In g)(j:HR g st w)(hf:FR g st a n){ops:Array Oper}{i:Nat}(ho:ops[i]? =some o)(hd:∀d,o.dst=some d->d<n){x:Nat}{st':St}(e:zU call P K ops o st x st'){next:Act->World->Prop}{Q:Exit->Act->World->Prop}(hn:∀g' w' k,HR g' (iF st' o.dst x) w'->Fr g w g' w'->FR g' (iF st' o.dst x) k n->Ext st.R st.nR (iF st' o.dst x).R (iF st' o.dst x).nR->next k w'):wpOp P ops Q i next a w:=by
 unfold wpOp;simp only[ho];have f:∀s:St,(iF s o.dst x).R=s.R/\(iF s o.dst x).nR=s.nR:=λs=>by cases o.dst<;>exact⟨rfl,rfl⟩
 have run:jP call (cO P K o) st=.ok x st'->o.wp P a w next Q:=λe=>step_ok hc hk j (λy _=>hf.opd hk y) hf.defers e λg' w' v ds' c=>hn g' w' _ (pG c.hr _ _) c.fr (hf.put c hd) (by rw[(f st').1,(f st').2];exact c.ext);rcases e with⟨h,e⟩|⟨q,p,b,h,m,l,e⟩;·rw[qzb (by simp[Region.wanted,h])];exact .inl (run e)
 ·rw[Ff hf h m l];cases b with|true=>rw[qzb rfl];exact .inl (run e)|false=>rw[qzc (by simp)];obtain⟨rfl,rfl⟩:=e;have c:wh g st' w g st' w 14 undef a.defers a.defers:=⟨j,Fr.refl _ _,Ext.refl _ _,.und,rfl,hf.defers⟩;exact hn g w (a.put o.dst undef) (pG j _ _) (Fr.refl _ _) (hf.put c hd) (by rw[(f st').1,(f st').2];exact Ext.refl _ _)
end
end Ev
namespace Ev
theorem TR.back{g g1:Gh}{R nR p r:Nat}(h:g.le g1)(q:Ext R nR p r){w:Nat}{v0 v:Value}(h0:TR g R nR w v0)(h1:TR g1 p r w v):TR g R nR w v:=by
 induction h0 generalizing v with|unk=>exact .unk _|und=>rw[H7 h1 rfl];exact .und|cell w v0 h0=>
  have ht:=h0.tag;by_cases hz:w=0;·subst hz;exact .unk _
  ·exact .cell _ _ (h0.back h (h1.aP ht.1 ht.2.1 ht.2.2 hz))|agg st n vs hn hs k hv hc=>
  obtain⟨st',l,m,c,d,s,t,u,e,f⟩:=h1.Bv (by unfold dU;omega);have j:st=st'/\n=l:=by unfold dU at c;omega
  obtain⟨rfl,rfl⟩:=j;rw[d];exact .agg st n m hn hs k e λi hi=>(hc i hi).back h (by have:=f i hi;rwa[q.2 _ oqo]at this)|tup st n vs hn hs k hv _ ih=>
  obtain⟨st',l,m,c,d,s,t,u,e,f⟩:=h1.rV (by unfold eZ;omega);have j:st=st'/\n=l:=by unfold eZ at c;omega
  obtain⟨rfl,rfl⟩:=j;rw[d];exact .tup st n m hn hs k e λi hi=>ih i hi (by have:=f i hi;rwa[q.2 _ oqo]at this)
theorem QW{g p:Gh}{st s:St}{w':World}(h:g.le p)(hr:HR p s w')(u:Ext st.R st.nR s.R s.nR){x y:Nat}{v0 v:Value}(h0:TR g st.R st.nR y v0)(h1:TR p s.R s.nR x v)(e:wW s x y=true):TR g st.R st.nR y v:=by unfold wW at e;cases z:Nat.beq x y with|true=>rw[ai z]at h1;exact h0.back h u h1|false=>rw[z,ah]at e;cases d:Nat.beq (Nat.mod y 16) 3 with
  |true=>rw[d,ak]at e;cases c:Nat.beq (Nat.mod x 16) 3 with|false=>rw[c,ah]at e;cases e|true=>rw[c,ak]at e;have d:y%16=3:=ai d;have c:x%16=3:=ai c;obtain⟨q,k,a3,a4,a5⟩:=h1.str c;obtain⟨b1,b2,r,l,t⟩:=h0.str d;rw[yF q b1]at e;have e:=jxu e;rw[hr.S,xS h l]at e;rw[k,e,<-b2];exact h0
  |false=>rw[d,ah]at e;cases c:Nat.beq (Nat.mod y 16) 12 with|false=>rw[c,ah]at e;cases e|true=>rw[c,ak]at e;cases f:Nat.beq (Nat.mod x 16) 12 with|false=>rw[f,ah]at e;cases e|true=>rw[f,ak]at e;cases j:Nat.beq (ln x) (ln y)with|false=>rw[j,ah]at e;cases e|true=>rw[j,ak]at e;have c:y%16=12:=ai c;have f:x%16=12:=ai f;have j:=ai j;have e:=ai e;obtain⟨vs,q,k,a3,a4,a5,C,A⟩:=h1.agg' f;obtain⟨us,b1,b2,r,l,t,D,B⟩:=h0.agg' c;rw[b1,k];refine .agg _ _ vs r l t oqo λi hi=>(B i hi).back h ?_;have h2:=A i oqo;have h3:=jqi (λm=>gt m i) e;simp only[jF,qzb (show i<ln x by omega)]at h3;rw[h3,qzb oqo,u.2 _ oqo]at h2;exact h2
end Ev
namespace Ev
section
variable {P:Program}{K:Kon}{call:Nat->St->RS}{g:Gh}{st:St}{w:World}{o:Oper}{a b:Act}{n:Nat}{ops:Array Oper}
theorem fB{i:Nat}(h:ops[i]? =some o):bH (ops.toList.map (bU P ops)) i=bU P ops o:=by unfold bH;rw[qqm,qqp,qjf,h];rfl
theorem Ay{j:Nat}:j∈(bU P ops o).pre↔∃e∈o.after,Region.binds .any e=true/\e.on=j:=by
 simp only[bU,qjb,jzt,jjd];constructor;·rintro⟨e,⟨h1,h2⟩,h3⟩;exact⟨e,h1,h2,h3⟩
 ·rintro⟨e,h1,h2,h3⟩;exact⟨e,⟨h1,h2⟩,h3⟩
theorem K8{t:Nat}(h:Operand.tmp t∈o.op.operands):t∈o.looksAt ops:=by unfold Oper.looksAt;refine qzu.2 (.inl (List.mem_filterMap.2 ⟨.tmp t,by simpa using h,rfl⟩))
theorem Lf{q:Nat×Bool}{s:Nat}(h:o.guard=some q)(hs:(ops[q.1]?).bind (·.dst)=some s):s∈o.looksAt ops:=by unfold Oper.looksAt;refine qzu.2 (.inr ?_);obtain⟨j,c⟩:=q;rw[h];dsimp only at hs⊢;rw[hs];simp
theorem oiq{i:Nat}(h:ops[i]? =some o)(c:(bH (ops.toList.map (bU P ops)) i).q=true):dB P o.op=true/\∃d,o.dst=some d:=by rw[fB h]at c;simp only[bU,qqn]at c;obtain⟨⟨h1,_⟩,h2⟩:=c;exact⟨h1,jxm.1 h2⟩
theorem EN{ops:Array Oper}{q:Nat×Bool}{d:Nat}{c:Bool}(m:o.guard=some q)(hc:cGd ops q=some d)(e:gd st.T d=some c)(hs:∀s,(ops[q.1]?).bind (·.dst)=some s->TR g st.R st.nR (gt st.T s) (a.eval (.tmp s))):Region.wanted o (yielded ops a.tmps)=c:=by
 obtain⟨s,h1⟩:∃s,(ops[q.1]?).bind (·.dst)=some s:=by
  obtain⟨j,i⟩:=q;unfold cGd at hc;split at hc;·rename_i s h;exact⟨s,h⟩
  ·cases hc
 have p:=hs s h1;let T':=up1 0 s (gt st.T s);have f:∀t,gt T' t=if t=s then gt st.T s else 0:=λt=>by show gt (up1 0 s (gt st.T s)) t=_;rw[Eb _ _ _ (WH _ _),vW]
 have l:FR g {st with T:=T',D:=[]} {a with defers:=[]} 0:=by
  refine⟨qqy _,λt=>?_,.nil⟩;show TR g st.R st.nR (gt T' t) (a.eval (.tmp t));rw[f t];split;·rename_i e;subst e;exact p
  ·exact .unk _
 refine Ff (a:={a with defers:=[]}) l m hc ?_;obtain⟨j,i⟩:=q;unfold cGd at hc;rw[h1]at hc;injection hc with hc;have k:Nat.div d 2=s:=by show d/2=s;cases i<;>simp at hc<;>omega
 unfold gd at e⊢;rw[k]at e⊢;show sel (Nat.beq (gt T' s) 17) _ (sel (Nat.beq (gt T' s) 1) _ (sel (Nat.beq (gt T' s) 14) _ _))=_;rw[f s,qzb rfl];exact e
theorem Oe(hc:kG P K call)(hk:K.In g)(f:HR g st w){i:Nat}(ho:ops[i]? =some o)(hl:∀t∈o.looksAt ops,TR g st.R st.nR (gt st.T t) (a.eval (.tmp t)))(hd:DR g st.R st.nR st.D a.defers){x:Nat}{st':St}(e:zU call P K ops o st x st'){next:Act->World->Prop}{Q:Exit->Act->World->Prop}(hn:∀g' w' v ds',wh g st w g' st' w' x v a.defers ds'->next (({a with defers:=ds'}:Act).put o.dst v) w'):wpOp P ops Q i next a w:=by
 have j:∀y∈o.op.operands,TR g st.R st.nR (rd st.T (cOp K y)) (a.eval y):=λy hm=>FE hk λt ht=>by subst ht;exact hl t (K8 hm)
 unfold wpOp;simp only[ho];rcases e with⟨d,e⟩|⟨q,m,c,d,l,k,e⟩;·rw[qzb (by simp[Region.wanted,d])];exact .inl (step_ok hc hk f j hd e hn)
 ·rw[EN d l k (λs h=>hl s (Lf d h))];cases c with|true=>rw[qzb rfl];exact .inl (step_ok hc hk f j hd e hn)|false=>rw[qzc (by simp)];obtain⟨rfl,rfl⟩:=e;exact hn g w undef a.defers ⟨f,Fr.refl _ _,Ext.refl _ _,.und,rfl,hd⟩
theorem xC(hk:K.In g)(f:HR g st w){i:Nat}(ho:ops[i]? =some o)(p:dB P o.op=true)(hl:∀t∈o.looksAt ops,TR g st.R st.nR (gt st.T t) (a.eval (.tmp t))){x:Nat}{st':St}(e:zU call P K ops o st x st'): ∃g' w' v,kX w w'/\HR g' st' w'/\HR g' st' w/\Fr g w g' w/\Ext st.R st.nR st'.R st'.nR/\TR g' st'.R st'.nR x v/\st'.T=st.T/\st'.D=st.D/\ ∀(next:Act->World->Prop)(Q:Exit->Act->World->Prop),next (a.put o.dst v) w'->wpOp P ops Q i next a w:=by
 have r:∀y∈o.op.operands,TR g st.R st.nR (rd st.T (cOp K y)) (a.eval y):=λy hm=>FE hk λt ht=>by subst ht;exact hl t (K8 hm)
 have run:∀(hw:Region.wanted o (yielded ops a.tmps)=true),jP call (cO P K o) st=.ok x st'->∃g' w' v,kX w w'/\HR g' st' w'/\HR g' st' w/\Fr g w g' w/\Ext st.R st.nR st'.R st'.nR/\TR g' st'.R st'.nR x v/\st'.T=st.T/\st'.D=st.D/\ ∀(next:Act->World->Prop)(Q:Exit->Act->World->Prop),next (a.put o.dst v) w'->wpOp P ops Q i next a w:=λhw e=>by
  obtain⟨g',w',v,h1,h2,h3,j,k⟩:=Qy hk f r p e;refine⟨g',w',v,k,h2.hr,h3,j,h2.ext,h2.tr,h2.T,h2.D,λnext Q hn=>?_⟩;unfold wpOp;simp only[ho];rw[qzb hw];refine .inl ?_;unfold Oper.wp;rcases h1 with h1|⟨h1,rfl⟩;·rw[h1,Oper.upon_value];exact hn
  ·rw[h1,Oper.upon_skip];exact hn
 rcases e with⟨d,e⟩|⟨q,u,c,d,m,l,e⟩;·exact run (by simp[Region.wanted,d]) e
 ·have hw:=EN (a:=a) d m l (λs h=>hl s (Lf d h));cases c with|true=>exact run hw e|false=>obtain⟨rfl,rfl⟩:=e;refine⟨g,w,undef,kX.refl w,f,f,Fr.refl _ _,Ext.refl _ _,.und,rfl,rfl,λnext Q hn=>?_⟩;unfold wpOp;simp only[ho];rw[qzc (by rw[hw];simp)];exact hn
def Ck(call:Nat->St->RS)(P:Program)(K:Kon)(ops:Array Oper)(st:St)(i:Nat):Prop:= ∃o d x c,ops[i]? =some o/\o.dst=some d/\zU call P K ops o st x c/\wW c x (gt st.T d)=true
theorem vQ:∀(fl:List Nat)(h:List Itm)(g:Gh)(st:St)(b:Act)(l:List Stp)(y:Nat)(f:St),K.In g->HR g st w->FR g st b n->(∀i∈fl,∃o,ops[i]? =some o/\dB P o.op=true/\ltO n o.dst=true)->gV P K ops (fl.map .run++h)=some l->eX call l st=.ok y f-> ∃g' st' c m,HR g' st' w/\Fr g w g' w/\FR g' st' c n/\Ext st.R st.nR st'.R st'.nR/\c.tmps.size=b.tmps.size/\c.defers=b.defers/\(∀t,(∀i∈fl,∀o,ops[i]? =some o->o.dst≠some t)->c.eval (.tmp t)=b.eval (.tmp t))/\gV P K ops h=some m/\eX call m st'=.ok y f
 |[],h,g,st,b,l,y,f,_,q,hf,_,hl,hr=>⟨g,st,b,l,q,Fr.refl _ _,hf,Ext.refl _ _,rfl,rfl,λ_ _=>rfl,hl,hr⟩|i::fl,h,g,st,b,l,y,f,hk,q,hf,B,hl,hr=>by
  obtain⟨o,ho,S,C⟩:=B i (by simp);rw[jqw,jjb,gV]at hl;split at hl
  ·rename_i s r hs T;injection hl with hl;subst hl;simp only[Dq,ho]at hs;obtain⟨x,st',E,F⟩:=qh hs hr;obtain⟨u,w1,v,h1,h2,h3,k,p,G,H,I,_⟩:=xC (call:=call) (a:=b) hk q ho S (λt _=>hf.slot t) E;have A:∀d,o.dst=some d->d<n:=λd hd=>by rw[hd]at C;exact aY C
   have Q:wh g st w u st' w x v b.defers b.defers:=⟨h3,k,p,G,H,by rw[I];exact hf.defers.mono k.le p⟩;have N:=hf.put Q A;have L:((({b with defers:=b.defers}:Act).put o.dst v)).tmps.size=b.tmps.size:=by cases o.dst<;>simp[Act.put]
   have J:((({b with defers:=b.defers}:Act).put o.dst v)).defers=b.defers:=by cases o.dst<;>rfl
   have z:(iF st' o.dst x).R=st'.R/\(iF st' o.dst x).nR=st'.nR:=by cases o.dst<;>exact⟨rfl,rfl⟩
   obtain⟨g',s',c,m,k1,k2,k3,k4,k5,k6,k7,k8,k9⟩:=vQ fl h u (iF st' o.dst x) _ r y f (hk.le k.le) (pG h3 _ _) N (λj hj=>B j (by simp[hj])) T F;refine⟨g',s',c,m,k1,k.trans k2,k3,p.trans (by rw[z.1,z.2]at k4;exact k4),k5.trans L,k6.trans J,λt ht=>?_,k8,k9⟩;rw[k7 t (λj hj=>ht j (by simp[hj]))];have D:=ht i (by simp) o ho;cases hd:o.dst with|none=>rfl|some d=>rw[hd]at D;have M:=A d hd;have:=hf.size;have O:d<({b with defers:=b.defers}:Act).tmps.size:=qzj M this;rw[eH v t O,qzc (λe=>D (by rw[e]))]
  ·cases hl
theorem A8:∀(ck:List Nat)(p:List Itm)(l:List Stp)(y:Nat)(f:St),gV P K ops (ck.map .chk++p)=some l->eX call l st=.ok y f->(∀i∈ck,Ck call P K ops st i)/\∃C,gV P K ops p=some C/\eX call C st=.ok y f
 |[],p,l,y,f,hl,hr=>⟨λi hi=>by simp at hi,l,hl,hr⟩|i::ck,p,l,y,f,hl,hr=>by
  rw[jqw,jjb,gV]at hl;split at hl
  ·rename_i s r hs D;injection hl with hl;subst hl;have one:∀d co,zf call d co st (eX call r)=.ok y f->∃x h,jP call co st=.ok x h/\wW h x (gt st.T d)=true/\eX call r st=.ok y f:=λd co e=>by unfold zf at e;cases B:jP call co st with|no=>rw[B]at e;cases e|ok x h=>rw[B]at e;obtain⟨k,m⟩:=ag e;exact⟨x,h,rfl,k,m⟩
   have key:Ck call P K ops st i/\eX call r st=.ok y f:=by
    unfold Dq at hs;split at hs;·cases‹Itm.chk i=Itm.run _›
    ·rename_i j hj;injection hj with hj;subst hj;split at hs
     ·rename_i o ho;split at hs;·rename_i d hd v;injection hs with hs;subst hs;obtain⟨x,h,k,m,z⟩:=one _ _ hr;exact⟨⟨o,d,x,h,ho,hd,.inl ⟨v,k⟩,m⟩,z⟩
      ·rename_i d q hd v;split at hs;·rename_i t A;injection hs with hs;subst hs;change Option.rec .no (λc=>sel c (zf call d (cO P K o) st (eX call r)) (sel (Nat.beq 14 (gt st.T d)) (eX call r st) .no)) (gd st.T t)=RS.ok y f at hr;cases u:gd st.T t with|none=>rw[u]at hr;cases hr|some c=>rw[u]at hr;cases c with|true=>obtain⟨x,h,k,m,z⟩:=one _ _ hr;exact⟨⟨o,d,x,h,ho,hd,.inr ⟨q,t,true,v,A,u,k⟩,m⟩,z⟩|false=>obtain⟨k,m⟩:=ag (b:=Nat.beq 14 (gt st.T d)) hr;refine⟨⟨o,d,14,st,ho,hd,.inr ⟨q,t,false,v,A,u,rfl,rfl⟩,?_⟩,m⟩;unfold wW;rw[k];rfl
       ·cases hs
      ·cases hs
     ·cases hs
   obtain⟨k1,k2⟩:=A8 ck p r y f D key.2;exact⟨λj hj=>by
    rcases qzh.1 hj with rfl|hj;·exact key.1
    ·exact k1 j hj,k2⟩
  ·cases hl
end
end Ev
namespace Ev
section
variable {g:Gh}{st:St}{w:World}
theorem HR.zS(h:HR g st w){c:Array Value}{e:TypeId}{blk:Nat}(d:w.heap[blk]? =some (.cells c e (0,0)))(ho:¬Own g blk){cw:Nat}(m:cw<2^(128*c.size))(hv:∀i,i<c.size->VR g (gt cw i) (c.getD i undef)):HR (g.put st.nM (.cells blk 0 c.size c.size)) {st with M:=ad st.M st.nM cw,nM:=st.nM+c.size+1} w:=by
 refine HR.grown h (i:=.cells blk 0 c.size c.size) (rW m) (by simp) ?_ (λ_ _ _=>rfl) ?_ (λws hw=>by cases hw) (λb d=>by cases d);·intro s blk base z room f j k _ hc;exact⟨f,j,k,hc.heap,rfl,hc.one,λ_=>⟨rfl,rfl⟩⟩
 ·intro b base z room hi;injection hi with h1 h2 h3 l;subst h1;subst h2;subst h3;subst l;refine⟨⟨c,e,(0,0),d,by omega,qqf _,λi hi=>(hv i hi).one,λo ho=>?_,λ_=>.inl rfl⟩,λs base' z' room' hs=>?_⟩;·rw[dM _ _ h.Mlt,qzc oqo,show st.nM+o-st.nM=o by omega,qja];exact(hv o ho).mono (Gh.lX _ (jL h (qqf _)))
  ·exact absurd (.inl ⟨s,base',z',room',hs⟩) ho
theorem kC{s blk n m k:Nat}{b:Nat}(h:Own (g.put s (.cells blk k n m)) b):Own g b\/b=blk:=by
 rcases h with⟨t,base,z,room,ht⟩|⟨t,ht⟩
 ·rw[Gh.bK]at ht;split at ht;·injection ht with h1;exact .inr h1.symm
  ·exact .inl (.inl ⟨t,base,z,room,ht⟩)
 ·rw[Gh.bK]at ht;split at ht;·cases ht
  ·exact .inl (.inr ⟨t,ht⟩)
end
structure AcV(P:Program)(K:Kon)(o:Oper)(zs:Array Value)(el:TypeId)(vf:Addr->Value):Prop where
 gd:o.guard=none
 run:∀(a:Act)(w:World),(execOp a.eval o).run P w=.ok (.value (vf ⟨w.heap.size,0,none⟩)) (w.alloc (.cells zs el (0,0)))zS:∀(call:Nat->St->RS)(g:Gh)(st:St)(w:World)(x:Nat)(st':St)(blk:Nat),K.In g->HR g st w->w.heap[blk]? =some (.cells zs el (0,0))->¬Own g blk->jP call (cO P K o) st=.ok x st'-> ∃g',HR g' st' w/\g.le g'/\(∀b,Own g' b->Own g b\/b=blk)/\TR g' st'.R st'.nR x (vf ⟨blk,0,none⟩)/\st'.T=st.T/\st'.D=st.D/\Ext st.R st.nR st'.R st'.nR
theorem Fp{o:Oper}(h:acC o=true):o.guard=none/\∃d,o.dst=some d:=by simp only[acC,qqn]at h;exact⟨by simpa using h.1.1,jxm.1 h.1.2⟩
section
variable {P:Program}{K:Kon}{o:Oper}
theorem Px{g0:Gh}(_hk0:K.In g0){t:TypeId}{i:TypeInfo}{z:Value}(m:o.guard=none)(ho:o.op=.alloc t)(hi:P.info? t=some i)(hz:i.zero=some z)(f:dZ K z.cells.toList=true)(hn:z.cells.size<16777216):AcV P K o z.cells t λa=>.pointer (some a):=by
 refine⟨m,λa w=>?_,λcall g st w x st' blk hk h k p e=>?_⟩
 ·have:(newVar t z).run P w=.ok ⟨w.heap.size,0,none⟩ (w.alloc (.cells z.cells t (0,0))):=by simp[newVar,newRow]
  simp[execOp,ho,Instr.alloc,zeroValue,jJ hi,hz,this]
 ·have l:cO P K o=.op (sZ z.cells.size (bW K z.cells.toList)):=by simp[cO,mU,ho,hi,hz,f,hn]
  rw[l]at e;change sZ z.cells.size (bW K z.cells.toList) st=.ok x st' at e;unfold sZ at e;obtain⟨h1,e⟩:=ag e;rw[bX]at e;injection e with c d;have h1:=aY h1;simp only[nA,nM]at c d;obtain⟨c1,c2⟩:=jo hk f;rw[jqh]at c1 c2;have hr:=h.zS k p c1 (λj hj=>by have:=c2 j hj;rwa[qqm,qjf,<-qqg]at this);subst d;refine⟨_,hr,Gh.lX _ (jL h (qqf _)),λb=>kC,?_,rfl,rfl,Ext.refl _ _⟩;have:x=bR st.nM z.cells.size 0:=by rw[<-c];rfl
  rw[this];exact .cell _ _ (.ptr st.nM z.cells.size 0 blk 0 z.cells.size h1 hn (by rw[Gh.bK,qzb rfl]) (qqy _))
theorem QR{g:Gh}{s l e blk x:Nat}(hs:s<16777216)(hz:l*e<16777216)(hl:l<16777216)(he:e<256)(hr:g.rho s=.cells blk 0 (l*e) (l*e))(c:7+16*s+268435456*(l*e)+4503599627370496*l+75557863725914323419136*e=x):VR g x (.slice (some ⟨blk,0,none⟩) l l):=by
 have:x=aX s (l*e) l e 0:=by rw[<-c];rfl
 rw[this];exact .sli s (l*e) l e 0 blk 0 (l*e) l _ hs hz hl he hr oqo (qqf _) (.inr ⟨rfl,by omega⟩)
theorem QD{g0:Gh}(C:K.In g0){t el:TypeId}{v:Value}{q:TypeInfo}{d:TypeDesc}{z:Value}(B:o.guard=none)(ho:o.op=.buildSlice t 1 #[(0,.const v)])(ht:P.underlying t=some (.slice el))(h:P.info? el=some q)(hd:P.underlying el=some d)(hz:q.zero=some z)(hs:q.size=1)(ha:fU d=false)(hc:fE (cV K v)=true):AcV P K o #[v] el λa=>.slice (some a) 1 1:=by
 have H:v.oneCell'=true:=((CZ C 0 0 v).fE hc).one;have A:=cells_one H;refine⟨B,λa w=>?_,λcall g st w x st' blk hk p y E e=>?_⟩;·simp[execOp,ho,Instr.buildSlice,jqa ht,dF h,hs,zeroValue,jJ h,hz,Instr.fill,Act.eval,A,newRow];rw[show Array.range 1=#[0]from rfl,List.map_toArray];rfl
 ·have f:cO P K o=no\/(dZ K (zeros z (1*q.size)).toList=true/\cO P K o=.op (Az 1 1 (bW K (zeros z (1*q.size)).toList) [⟨0,0,.c (cV K v)⟩])):=by
   have s:cO P K o=mF P K t 1 #[(0,.const v)]:=by simp only[cO,mU,ho]
   rw[s];unfold mF;simp only[ht,h,hd,hz];rw[qzc (by simp)];split;·rename_i h0;refine .inr ⟨h0.1,?_⟩;simp[mi,JO,hs,ha,cOp]
   ·left;rfl
  rcases f with f|⟨u,f⟩;·rw[f]at e;cases e
  ·rw[f]at e;change Az 1 1 (bW K (zeros z (1*q.size)).toList) [⟨0,0,.c (cV K v)⟩] st=.ok x st' at e;unfold Az at e;obtain⟨h1,e⟩:=ag e;have h1:=aY h1;rw[zB]at e;have F:∀T,rd T (.c (cV K v))=cV K v:=λ_=>rfl;simp only[F,hc,ak,BC,show Nat.beq 0 0=true from rfl,bX]at e;injection e with k m;simp only[nA,nM]at k m;obtain⟨c1,_⟩:=jo hk u;have D:(zeros z (1*q.size)).toList.length=1:=by simp[zeros,hs]
   rw[D]at c1;have i:VR g (cV K v) v:=(CZ hk 0 0 v).fE hc;have r:cV K v<2^(128*1):=by simpa using i.lt
   have G:up (bW K (zeros z (1*q.size)).toList) 0 1 (cV K v)<2^(128*1):=yM c1 oqo r;have hr:=p.zS y E (cw:=up (bW K (zeros z (1*q.size)).toList) 0 1 (cV K v)) G (λj hj=>by
    have hj:j=0:=by simpa using hj
    subst hj;rw[lT _ _ _ r,qzb oqo,fT _ i.lt,qzb rfl];exact i);subst m;refine⟨_,hr,Gh.lX _ (jL p (qqf _)),λb=>kC,?_,rfl,rfl,Ext.refl _ _⟩;exact .cell _ _ (QR (l:=1) (e:=1) h1 (by decide) (by decide) (by decide) (by rw[Gh.bK,qzb rfl];rfl) k)
theorem Va{g0:Gh}(e:K.In g0)(h:acO P K o=true):∃zs el vf,AcV P K o zs el vf:=by
 simp only[acO,qqn]at h;obtain⟨c,_⟩:=Fp h.1;have h2:=h.2;split at h2;·rename_i t ho;cases hi:P.info? t with|none=>rw[hi]at h2;cases h2|some i=>rw[hi,Option.any_some]at h2;cases hz:i.zero with|none=>rw[hz]at h2;cases h2|some z=>rw[hz,Option.any_some,qqn]at h2;exact⟨_,_,_,Px e c ho hi hz h2.1 (by simpa using h2.2)⟩
 ·rename_i t v ho;split at h2
  ·rename_i el ht;split at h2;·rename_i q d k hd;simp only[qqn]at h2;obtain⟨⟨⟨b1,b2⟩,f⟩,j⟩:=h2;obtain⟨z,hz⟩:=jxm.1 b1;exact⟨_,_,_,QD e c ho ht k hd hz (ai b2) (by simpa using f) j⟩
   ·cases h2
  ·cases h2
 ·cases h2
end
end Ev
