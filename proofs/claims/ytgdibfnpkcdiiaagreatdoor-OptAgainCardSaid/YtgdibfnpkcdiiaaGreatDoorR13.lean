/- Joint text: EwE, EwF, EwG, EwH, EwI. By an AI agent. -/
import Derived.Test.YtgdibfnpkcdiiaaGreatDoorRzy
import Derived.Test.YtgdibfnpkcdiiaaGreatDoorR12
set_option linter.all false
set_option maxRecDepth 100000
set_option maxHeartbeats 64000000
namespace Go.Proofs.YtgdibfnpkcdiiaaGreatDoor
namespace Ev
def cnt(l:Array Bool):Nat:=(l.toList.filter (λx=>!x)).length
theorem Ep:∀(l:List Bool)(i:Nat),l[i]? =some false->((l.set i true).filter (λx=>!x)).length+1=(l.filter (λx=>!x)).length
 |[],i,h=>by simp at h|x::l,0,h=>by simp at h;subst h;simp|x::l,i+1,h=>by
  have:=Ep l i (by simpa using h);rw[qqk,jzr,jzr];split;·simp only[qzv];omega
  ·exact this
theorem Ia{l:Array Bool}{i:Nat}(h:l.getD i true=false):cnt (l.setIfInBounds i true)+1=cnt l:=by unfold cnt;rw[Array.toList_setIfInBounds];refine Ep l.toList i ?_;rw[qjf];rw[qqg]at h;cases c:l[i]? with|none=>rw[c]at h;cases h|some b=>rw[c,qzm]at h;rw[h]
theorem Ew{l:Array Bool}(h:cnt l=0){i:Nat}(hi:i<l.size):l.getD i false=true:=by
 unfold cnt at h;have h0:=jxq.1 h;have hm:l[i]∈l.toList:=by simp
 have:=List.filter_eq_nil_iff.1 h0 _ hm;rw[qqg,jqd hi,qzm];simpa using this
theorem sN{l:Array Bool}{i:Nat}(h:l.getD i true=false):l.getD i false=false/\i<l.size:=by rw[qqg]at h⊢;cases c:l[i]? with|none=>rw[c]at h;cases h|some b=>rw[c,qzm]at h;rw[h];exact⟨rfl,(qqs.1 c).1⟩
theorem ML{l:Array Bool}{i:Nat}(h:l.getD i false=false)(hi:i<l.size):l.getD i true=false:=by rw[qqg,jqd hi,qzm]at h⊢;exact h
theorem dO{l:Array Bool}{i:Nat}(hi:i<l.size)(j:Nat):(l.setIfInBounds i true).getD j false=(if j=i then true else l.getD j false):=by
 by_cases e:j=i;·subst e;rw[qzb rfl,qqg,qzy];simp[hi]
 ·rw[qzc e,getD_set_ne false (Ne.symm e)]
section
variable {P:Program}{K:Kon}{call:Nat->St->RS}{n:Nat}{ops:Array Oper}{ac:Option Nat}{g0:Gh}{st0:St}{w0:World}
def Early(P:Program)(K:Kon)(ops:Array Oper)(w0:World)(g:Gh)(w:World)(a:Act)(i:Nat):Prop:= ∃o d zs el vf blk,ops[i]? =some o/\o.dst=some d/\AcV P K o zs el vf/\a.eval (.tmp d)=vf ⟨blk,0,none⟩/\w.heap[blk]? =some (.cells zs el (0,0))/\¬Own g blk/\w0.heap.size<=blk
structure Inv(P:Program)(K:Kon)(call:Nat->St->RS)(ops:Array Oper)(n:Nat)(ac:Option Nat)(g0:Gh)(st0:St)(w0:World)(D A:List Nat)(listed:Array Bool)(g:Gh)(st:St)(w:World)(b a:Act):Prop where
 kin:K.In g
 hr:HR g st w
 fr:Fr g0 w0 g w
 ext:Ext st0.R st0.nR st.R st.nR
 v:FR g st b n
 sz:a.tmps.size=b.tmps.size
 df:a.defers=b.defers
 eq:∀t,(∀i∈D,listed.getD i false=false->(bH (ops.toList.map (bU P ops)) i).dst≠some t)->(∀i,listed.getD i false=true->i∉D->(bH (ops.toList.map (bU P ops)) i).dst≠some t)->a.eval (.tmp t)=b.eval (.tmp t)sub:∀i,listed.getD i false=true->i∈D\/(ac=some i/\Early P K ops w0 g w a i)flt:∀i∈D,listed.getD i false=false->i<ops.size/\(bH (ops.toList.map (bU P ops)) i).q=true/\Ck call P K ops st i
 anc:∀i∈A,listed.getD i false=true
 cl:∀i,listed.getD i false=true->∀j∈(bH (ops.toList.map (bU P ops)) i).pre,listed.getD j false=true
 ls:listed.size=ops.size
 dcl:∀i∈D,∀j∈(bH (ops.toList.map (bU P ops)) i).pre,j∈D
theorem je{b:List OI}{N:Nat}(h:glB b ac N n=true){i:Nat}(hi:i<N):(∀j,j<N->(bH b j).q=true\/ac=some j->(i≠j->(bH b i).dst≠(bH b j).dst)/\∀t∈(bH b i).lk,(bH b j).dst=some t->j∈(bH b i).pre)/\ltO n (bH b i).dst=true/\∀j∈(bH b i).pre,j<i:=by
 unfold glB at h;rw[qqw]at h;have h:=h i (qzg.2 hi);simp only[qqn]at h;obtain⟨⟨h1,h2⟩,h3⟩:=h;rw[qqw]at h1 h3;refine⟨λj hj c=>?_,h2,λj hj=>aY (h3 j hj)⟩;have h1:=h1 j (qzg.2 hj);have e:(!(bH b j).q&&!decide (ac=some j))=false:=by
  rcases c with c|c;·rw[c];rfl
  ·rw[c];simp
 rw[e]at h1;simp only[Bool.false_or,qqn]at h1;refine⟨λd he=>?_,λt ht hd=>?_⟩;·rw[he]at h1;simp only[decide_true,Bool.not_true,Bool.or_false]at h1;exact d (ai h1.1)
 ·have:=qqw.1 h1.2 t ht;rw[hd]at this;simpa using this
theorem Fs{b:List OI}{e:Nat}{L:Nat->Prop}(he:∀j∈(bH b e).pre,L j)(hc:∀i,L i->∀j∈(bH b i).pre,L j):∀(l seen:List Nat),(∀i∈seen,L i)->Jv b e seen l=true->∀j∈l,L j
 |[],_,_,_,j,hj=>by simp at hj|k::l,seen,hs,h,j,hj=>by
  simp only[Jv,qqn,qji]at h;obtain⟨h1,h2⟩:=h;have hk:L k:=by
   rcases h1 with h1|h1;·exact he k (by simpa using h1)
   ·obtain⟨i,hi,c⟩:=jqv.1 h1;exact hc i (hs i hi) k (by simpa using c)
  rcases qzh.1 hj with rfl|hj;·exact hk
  ·exact Fs he hc l (k::seen) (λi hi=>by
    rcases qzh.1 hi with rfl|hi;·exact hk
    ·exact hs i hi) h2 j hj
theorem Cn{Q:Exit->Act->World->Prop}{y:Nat}{d:St}(h:∀g w a,K.In g->HR g d w->Fr g0 w0 g w->Ext st0.R st0.nR d.R d.nR->FR g d a n->Q .normal a w){listed:Array Bool}{D A:List Nat}{g:Gh}{st:St}{w:World}{b a:Act}{l:List Stp}(c:Inv P K call ops n ac g0 st0 w0 D A listed g st w b a)(j:∀i,i<ops.size->listed.getD i false=true)(hl:gV P K ops (jV [])=some l)(hr:eX call l st=.ok y d)(e:stB (ops.toList.map (bU P ops)) ac ops.size n D A []=true):Q .normal a w:=by
 simp only[jV,gV]at hl;injection hl with hl;subst hl;change RS.ok 0 st=.ok y d at hr;injection hr with _ hr;subst hr;refine h g w a c.kin c.hr c.fr c.ext ⟨by rw[c.sz];exact c.v.size,λt=>?_,by rw[c.df];exact c.v.defers⟩;rw[c.eq t (λi hi hu=>?_) (λi hi hu=>?_)];·exact c.v.slot t
 ·have:=j i (c.flt i hi hu).1;rw[this]at hu;cases hu
 ·exfalso;simp only[stB]at e;rw[qqw]at e;have k:i<ops.size:=by rw[<-c.ls];rw[qqg]at hi;cases f:listed[i]? with|none=>rw[f]at hi;cases hi|some b=>exact(qqs.1 f).1
  exact hu (by simpa using e i (qzg.2 k))
theorem zy{listed:Array Bool}(f:listed.size=ops.size)(d:glB (ops.toList.map (bU P ops)) ac ops.size n=true)(hr:Region.ready .any ops listed=[]):∀i,i<ops.size->listed.getD i false=true:=by intro i;induction i using Nat.strongRecOn with|ind i ih=>
  intro hi;cases j:listed.getD i false with|true=>rfl|false=>exfalso;have ho:ops[i]? =some ops[i]:=jqd hi;have:i∈Region.ready .any ops listed:=mem_ready.2 ⟨ML j (by rw[f];exact hi),ops[i],ho,λe he c=>by
    have h:e.on∈(bH (ops.toList.map (bU P ops)) i).pre:=by rw[fB ho];exact Ay.2 ⟨e,he,c,rfl⟩
    have b:=(je d hi).2.2 _ h;exact ih _ b (Nat.lt_trans b hi)⟩;rw[hr]at this;cases this
theorem Inv.np{D A:List Nat}{listed:Array Bool}{g:Gh}{st:St}{w:World}{b a:Act}(c:Inv P K call ops n ac g0 st0 w0 D A listed g st w b a)(d:glB (ops.toList.map (bU P ops)) ac ops.size n=true){i:Nat}{o:Oper}(hi:i<ops.size)(ho:ops[i]? =some o)(f:∀j∈(bH (ops.toList.map (bU P ops)) i).pre,listed.getD j false=true)(k:∀j∈(bH (ops.toList.map (bU P ops)) i).pre,j∈D):∀t∈o.looksAt ops,TR g st.R st.nR (gt st.T t) (a.eval (.tmp t)):=λt ht=>by
 rw[c.eq t (λj hj hu hd=>?_) (λj hl hj hd=>?_)];·exact c.v.slot t
 ·obtain⟨l,m,_⟩:=c.flt j hj hu;have:=((je d hi).1 j l (.inl m)).2 t (by rw[fB ho];exact ht) hd;rw[f j this]at hu;cases hu
 ·rcases c.sub j hl with h|⟨h,p,_,_,_,_,_,e,_⟩;·exact hj h
  ·exact hj (k j (((je d hi).1 j (qqs.1 e).1 (.inr h)).2 t (by rw[fB ho];exact ht) hd))
theorem Early.keep{g g':Gh}{w w':World}{a b:Act}{i:Nat}(h:Early P K ops w0 g w a i)(hf:Fr g w g' w')(he:∀o d,ops[i]? =some o->o.dst=some d->b.eval (.tmp d)=a.eval (.tmp d)):Early P K ops w0 g' w' b i:=by obtain⟨o,d,zs,el,vf,blk,h1,h2,h3,j,c,e,k⟩:=h;have f:=(qqs.1 c).1;exact⟨o,d,zs,el,vf,blk,h1,h2,h3,(he o d h1 h2).trans j,(hf.keep blk f e).trans c,λhn=>e (hf.own blk f hn),k⟩
theorem BZ{a:Act}{ds:List Deferred}(v:Value){d:Option Nat}{t:Nat}(h:d≠some t):(({a with defers:=ds}:Act).put d v).eval (.tmp t)=a.eval (.tmp t):=by cases d with|none=>rfl|some d=>have b:d≠t:=λe=>h (by rw[e]);simp only[Act.put,Act.eval,qqg,qzy,qzc b]
theorem Ag(s:glB (ops.toList.map (bU P ops)) ac ops.size n=true){listed:Array Bool}{D A:List Nat}{g:Gh}{st:St}{w:World}{b a:Act}(c:Inv P K call ops n ac g0 st0 w0 D A listed g st w b a){i:Nat}{o:Oper}(hi:i<ops.size)(ho:ops[i]? =some o)(p:i∈D)(hu:listed.getD i false=false)(B:∀j∈(bH (ops.toList.map (bU P ops)) i).pre,listed.getD j false=true){next:Act->World->Prop}{Q:Exit->Act->World->Prop}(hn:∀w' C u,Inv P K call ops n ac g0 st0 w0 D A (listed.setIfInBounds i true) g st w' C u->next u w'):wpOp P ops Q i next a w:=by
 obtain⟨_,S,o',d,x,d0,m,hd,e,hs⟩:=c.flt i p hu;rw[ho]at m;injection m with m;subst m;obtain⟨T,_⟩:=oiq ho S;obtain⟨g',w',v,h1,h2,h3,E,F,G,Y,Z,H⟩:=xC c.kin c.hr ho T (c.np s hi ho B (c.dcl i p)) e;have V:TR g st.R st.nR (gt st.T d) v:=QW E.le h2 F (c.v.slot d) G hs;obtain⟨k1,k2⟩:=h1 g st c.hr;have L:d<n:=by have:=(je s hi).2.1;rw[fB ho]at this;change ltO n o.dst=true at this;rw[hd]at this;exact aY this
 have y:=c.v.size;have q:d<b.tmps.size:=qzj L y;have I:d<a.tmps.size:=by rw[c.sz];exact q
 have hid:(bH (ops.toList.map (bU P ops)) i).dst=some d:=by rw[fB ho];exact hd
 have l:i<listed.size:=by rw[c.ls];exact hi
 refine H next Q (hn w' (b.put (some d) v) _ ?_);rw[hd];refine⟨c.kin,k1,c.fr.trans k2,c.ext,⟨by simpa [Act.put]using y,λt=>?_,c.v.defers⟩,by simp[Act.put,c.sz],c.df,λt ht U=>?_,λj hj=>?_,λj hj f=>?_,λj hj=>?_,λj hj k hk=>?_,by simp[c.ls],c.dcl⟩
 ·rw[eH v t q];split;·rename_i e;subst e;exact V
  ·exact c.v.slot t
 ·rw[eH v t I,eH v t q];split;·rfl
  ·rename_i R;refine c.eq t (λj hj f=>?_) (λj N hj=>?_)
   ·by_cases e:j=i;·subst e;rw[hid];exact λh=>R (by injection h with h;exact h.symm)
    ·exact ht j hj (by rw[dO l,qzc e];exact f)
   ·exact U j (by rw[dO l];split<;>first|rfl|exact N) hj
 ·rw[dO l]at hj;by_cases e:j=i;·subst e;exact .inl p
  ·rw[qzc e]at hj;rcases c.sub j hj with h|⟨h,he⟩;·exact .inl h
   ·by_cases M:j∈D;·exact .inl M
    ·refine .inr ⟨h,he.keep k2 λoj W z J=>?_⟩;refine BZ (ds:=a.defers) v λr=>?_;injection r with r;have O:=(qqs.1 z).1;refine((je s hi).1 j O (.inr h)).1 (λh=>e h.symm) ?_;rw[hid,fB z,r];exact J.symm
 ·rw[dO l]at f;by_cases e:j=i;·rw[qzb e]at f;cases f
  ·rw[qzc e]at f;exact c.flt j hj f
 ·rw[dO l];split;·rfl
  ·exact c.anc j hj
 ·rw[dO l]at hj⊢;split;·rfl
  ·by_cases e:j=i;·subst e;exact B k hk
   ·rw[qzc e]at hj;exact c.cl j hj k hk
theorem Gd(x:glB (ops.toList.map (bU P ops)) ac ops.size n=true){listed:Array Bool}{D A:List Nat}{g:Gh}{st:St}{w:World}{b a:Act}(c:Inv P K call ops n ac g0 st0 w0 D A listed g st w b a){i:Nat}{o:Oper}(hi:i<ops.size)(ho:ops[i]? =some o)(m:i∉D)(hu:listed.getD i false=false)(B:∀j∈(bH (ops.toList.map (bU P ops)) i).pre,listed.getD j false=true)(q:ac=some i){zs:Array Value}{el:TypeId}{vf:Addr->Value}(hv:AcV P K o zs el vf){d:Nat}(hd:o.dst=some d){next:Act->World->Prop}{Q:Exit->Act->World->Prop}(hn:∀w' p,Inv P K call ops n ac g0 st0 w0 D A (listed.setIfInBounds i true) g st w' b p->next p w'):wpOp P ops Q i next a w:=by
 have f:i<listed.size:=by rw[c.ls];exact hi
 have hid:(bH (ops.toList.map (bU P ops)) i).dst=some d:=by rw[fB ho];exact hd
 have v:d<n:=by have:=(je x hi).2.1;rw[hid]at this;exact aY this
 have r:d<a.tmps.size:=by rw[c.sz];exact qzj v c.v.size
 obtain⟨k1,k2⟩:=c.hr.push (.cells zs el (0,0));have y:∀j,listed.getD j false=true->j≠i:=λj hj e=>by subst e;rw[hj]at hu;cases hu
 unfold wpOp;simp only[ho];rw[qzb (by simp[Region.wanted,hv.gd])];refine .inl ?_;unfold Oper.wp;rw[hv.run,Oper.upon_value,hd];refine hn _ _ ⟨c.kin,k1,c.fr.trans k2,c.ext,c.v,by simp[Act.put,c.sz],c.df,λt ht u=>?_,λj hj=>?_,λj hj l=>?_,λj hj=>?_,λj hj k hk=>?_,by simp[c.ls],c.dcl⟩
 ·have C:t≠d:=λe=>u i (by rw[dO f,qzb rfl]) m (by rw[hid,e]);rw[eH _ t r,qzc C];refine c.eq t (λj hj l=>?_) (λj s hj=>?_);·exact ht j hj (by rw[dO f,qzc (λ(e:j=i)=>m (e▸hj))];exact l)
  ·exact u j (by rw[dO f,qzc (y j s)];exact s) hj
 ·rw[dO f]at hj;by_cases e:j=i;·subst e;refine .inr ⟨q,o,d,zs,el,vf,w.heap.size,ho,hd,hv,by rw[eH _ d r,qzb rfl],yG _ _,λz=>?_,c.fr.size⟩;exact absurd (Ab c.hr z) (Nat.lt_irrefl _)
  ·rw[qzc e]at hj;rcases c.sub j hj with h|⟨h,_⟩;·exact .inl h
   ·exact absurd (jzp (h.symm.trans q)) e
 ·rw[dO f]at l;by_cases e:j=i;·subst e;exact absurd hj m
  ·rw[qzc e]at l;exact c.flt j hj l
 ·rw[dO f];split;·rfl
  ·exact c.anc j hj
 ·rw[dO f]at hj⊢;split;·rfl
  ·by_cases e:j=i;·subst e;exact B k hk
   ·rw[qzc e]at hj;exact c.cl j hj k hk
structure Mid(P:Program)(K:Kon)(ops:Array Oper)(n:Nat)(ac:Option Nat)(g0:Gh)(st0:St)(w0:World)(D A:List Nat)(listed:Array Bool)(g:Gh)(st:St)(w:World)(b a:Act):Prop where
 kin:K.In g
 hr:HR g st w
 fr:Fr g0 w0 g w
 ext:Ext st0.R st0.nR st.R st.nR
 v:FR g st b n
 sz:a.tmps.size=b.tmps.size
 df:a.defers=b.defers
 eq:∀t,(∀i∈D,listed.getD i false=false->(bH (ops.toList.map (bU P ops)) i).dst≠some t)->(∀i,listed.getD i false=true->i∉D->(bH (ops.toList.map (bU P ops)) i).dst≠some t)->a.eval (.tmp t)=b.eval (.tmp t)sub:∀i,listed.getD i false=true->i∈D\/(ac=some i/\Early P K ops w0 g w a i)flt:∀i∈D,listed.getD i false=false->i<ops.size/\(bH (ops.toList.map (bU P ops)) i).q=true
 anc:∀i∈A,listed.getD i false=true
 cl:∀i,listed.getD i false=true->∀j∈(bH (ops.toList.map (bU P ops)) i).pre,listed.getD j false=true
 ls:listed.size=ops.size
 dcl:∀i∈D,∀j∈(bH (ops.toList.map (bU P ops)) i).pre,j∈D
theorem Dw(G:glB (ops.toList.map (bU P ops)) ac ops.size n=true){y:Nat}{m:St}{listed:Array Bool}{D A:List Nat}{s:kz}{r:List kz}{g:Gh}{st:St}{w:World}{b a:Act}{l:List Stp}(c:Mid P K ops n ac g0 st0 w0 (s.e::D) A listed g st w b a)(he:listed.getD s.e false=true)(hl:gV P K ops (s.fl.map .run++(s.ck.map .chk++jV r))=some l)(hr:eX call l st=.ok y m)(x:stB (ops.toList.map (bU P ops)) ac ops.size n D A (s::r)=true): ∃g' st' C B,Inv P K call ops n ac g0 st0 w0 (s.fl++s.e::D) (s.anc++A) listed g' st' w C a/\gV P K ops (jV r)=some B/\eX call B st'=.ok y m/\stB (ops.toList.map (bU P ops)) ac ops.size n (s.fl++s.e::D) (s.anc++A) r=true:=by
 simp only[stB,qqn]at x;obtain⟨⟨⟨⟨⟨⟨⟨⟨⟨⟨c1,c2⟩,_⟩,c4⟩,c5⟩,c6⟩,c7⟩,c8⟩,S⟩,p⟩,c9⟩:=x;rw[qqw]at c6 p;have k:∀i∈s.fl,i<ops.size/\(bH (ops.toList.map (bU P ops)) i).q=true/\i∉D/\i≠s.e/\ac≠some i:=λi hm=>by have:=c6 i hm;simp only[qqn]at this;obtain⟨⟨⟨⟨f1,f2⟩,f3⟩,f4⟩,f5⟩:=this;exact⟨aY f1,f2,by simpa using f3,λe=>(by rw[e]at f4;rw[Nat.beq_refl]at f4;cases f4),by simpa using f5⟩
 obtain⟨F,R,E,J,k1,k2,k3,k4,k5,k6,k7,k8,k9⟩:=vQ (n:=n) (call:=call) s.fl (s.ck.map .chk++jV r) g st _ l y m c.kin c.hr c.v (λi hm=>by obtain⟨f1,f2,_⟩:=k i hm;have f:ops[i]? =some ops[i]:=jqd f1;refine⟨_,f,(oiq f f2).1,?_⟩;have:=(je G f1).2.1;rw[fB f]at this;exact this) hl hr;obtain⟨N,M,O,Q⟩:=A8 s.ck (jV r) J y m k8 k9;have u:∀j∈s.anc,listed.getD j false=true:=Fs (L:=λj=>listed.getD j false=true) (c.cl s.e he) c.cl s.anc [] (λi hm=>by simp at hm) c5;have z:∀i∈s.fl,listed.getD i false=false:=λi hm=>by obtain⟨f1,f2,f3,f4,f5⟩:=k i hm;cases H:listed.getD i false with|false=>rfl|true=>
   rcases c.sub i H with h|⟨h,_⟩
   ·rcases qzh.1 h with h|h;·exact absurd h f4
    ·exact absurd h f3
   ·exact absurd h f5
 refine⟨F,R,E,M,⟨c.kin.le k2.le,k1,c.fr.trans k2,c.ext.trans k4,k3,c.sz.trans k5.symm,c.df.trans k6.symm,λt ht I=>?_,λj hj=>?_,λj hj d=>?_,λj hj=>?_,c.cl,c.ls,λi hi j hj=>?_⟩,O,Q,c9⟩
 ·rw[k7 t λi hm T f=>?_]
  ·refine c.eq t (λj hj d=>ht j (qzu.2 (.inr hj)) d) λj v hj=>I j v λh=>?_;rcases qzu.1 h with h|h;·have:=z j h;rw[v]at this;cases this
   ·exact hj h
  ·have:=ht i (qzu.2 (.inl hm)) (z i hm);rw[fB f]at this;exact this
 ·rcases c.sub j hj with h|⟨h1,h2⟩;·exact .inl (qzu.2 (.inr h))
  ·exact .inr ⟨h1,h2.keep k2 λ_ _ _ _=>rfl⟩
 ·have o:j<ops.size/\(bH (ops.toList.map (bU P ops)) j).q=true:=by
   rcases qzu.1 hj with hj|hj;·exact⟨(k j hj).1,(k j hj).2.1⟩
   ·exact c.flt j hj d
  refine⟨o.1,o.2,?_⟩;rw[qqw]at c8;have:=c8 j hj;rw[o.2]at this;simp only[qji,Bool.not_true,qzr,jxo]at this;rcases this with(h|h)|h;·have h:=ai h;subst h;rw[he]at d;cases d
  ·exact N j (by simpa using h)
  ·have hm:j∈s.anc++A:=by simpa using h
   have:listed.getD j false=true:=by
    rcases qzu.1 hm with hm|hm;·exact u j hm
    ·exact c.anc j hm
   rw[this]at d;cases d
 ·rcases qzu.1 hj with hj|hj;·exact u j hj
  ·exact c.anc j hj
 ·rcases qzu.1 hi with hi|hi;·have:=p i hi;unfold vO at this;rw[qqw]at this;simpa using this j hj
  ·exact qzu.2 (.inr (c.dcl i hi j hj))
theorem yU{D A:List Nat}{s:kz}{r:List kz}(c:stB (ops.toList.map (bU P ops)) ac ops.size n D A (s::r)=true):s.e<ops.size/\s.e∉D/\∀j∈(bH (ops.toList.map (bU P ops)) s.e).pre,j∈D:=by simp only[stB,qqn]at c;obtain⟨⟨⟨⟨⟨⟨⟨⟨⟨⟨c1,c2⟩,_⟩,c4⟩,c5⟩,c6⟩,c7⟩,c8⟩,b⟩,d⟩,c9⟩:=c;refine⟨aY c2,by simpa using c1,λj hj=>?_⟩;unfold vO at b;rw[qqw]at b;simpa using b j hj
theorem Gq(hc:kG P K call)(q:glB (ops.toList.map (bU P ops)) ac ops.size n=true){y:Nat}{M:St}{listed:Array Bool}{D A:List Nat}{s:kz}{r:List kz}{g:Gh}{st:St}{w:World}{b a:Act}{l:List Stp}(c:Inv P K call ops n ac g0 st0 w0 D A listed g st w b a){o:Oper}(ho:ops[s.e]? =some o)(_hu:listed.getD s.e false=false)(I:∀j∈(bH (ops.toList.map (bU P ops)) s.e).pre,listed.getD j false=true)(hl:gV P K ops (jV (s::r))=some l)(hr:eX call l st=.ok y M)(L:stB (ops.toList.map (bU P ops)) ac ops.size n D A (s::r)=true){next:Act->World->Prop}{Q:Exit->Act->World->Prop}(hn:∀g' st' w' z C u,Inv P K call ops n ac g0 st0 w0 (s.fl++s.e::D) (s.anc++A) (listed.setIfInBounds s.e true) g' st' w' z C->gV P K ops (jV r)=some u->eX call u st'=.ok y M->stB (ops.toList.map (bU P ops)) ac ops.size n (s.fl++s.e::D) (s.anc++A) r=true->next C w'):wpOp P ops Q s.e next a w:=by
 obtain⟨hi,W,J⟩:=yU L;have i:s.e<listed.size:=by rw[c.ls];exact hi
 simp only[jV,gV]at hl;split at hl
 ·rename_i sp rr hs i0;injection hl with hl;subst hl;simp only[Dq,ho]at hs;obtain⟨x,p,N,O⟩:=qh hs hr;have hid:(bH (ops.toList.map (bU P ops)) s.e).dst=o.dst:=by rw[fB ho];rfl
  have G:∀d,o.dst=some d->d<n:=λd hd=>by have:=(je q hi).2.1;rw[hid,hd]at this;exact aY this
  refine Oe hc c.kin c.hr ho (c.np q hi ho I J) (by rw[c.df];exact c.v.defers) N λS w1 v ds' m=>?_;have Y:=c.v.put (a:=b) (by rw[<-c.df];exact m) G;have E:(iF p o.dst x).R=p.R/\(iF p o.dst x).nR=p.nR:=by cases o.dst<;>exact⟨rfl,rfl⟩
  have T:Mid P K ops n ac g0 st0 w0 (s.e::D) A (listed.setIfInBounds s.e true) S (iF p o.dst x) w1 (({b with defers:=ds'}:Act).put o.dst v) (({a with defers:=ds'}:Act).put o.dst v):=by
   refine⟨c.kin.le m.fr.le,pG m.hr _ _,c.fr.trans m.fr,c.ext.trans (by rw[E.1,E.2];exact m.ext),Y,?_,?_,λt ht j0=>?_,λj hj=>?_,λj hj f=>?_,λj hj=>?_,λj hj k hk=>?_,by simp[c.ls],λj hj k hk=>?_⟩;·cases o.dst<;>simp[Act.put,c.sz]
   ·cases o.dst<;>rfl
   ·have B:a.eval (.tmp t)=b.eval (.tmp t)\/o.dst=some t:=by
     by_cases hd:o.dst=some t;·exact .inr hd
     ·refine .inl (c.eq t (λj hj f=>ht j (qzh.2 (.inr hj)) ?_) λj Z hj=>?_);·rw[dO i,qzc (λ(e:j=s.e)=>W (e▸hj))];exact f
      ·by_cases e:j=s.e;·rw[e,hid];exact hd
       ·exact j0 j (by rw[dO i,qzc e];exact Z) λh=>by
         rcases qzh.1 h with h|h;·exact e h
         ·exact hj h
    cases hd:o.dst with
    |none=>
     rw[hd]at B;rcases B with h|h;·exact h
     ·cases h|some d=>
     have F:d<b.tmps.size:=qzj (G d hd) c.v.size;rw[eH (a:={a with defers:=ds'}) v t (show d<a.tmps.size by rw[c.sz];exact F),eH (a:={b with defers:=ds'}) v t F];split;·rfl
     ·rename_i e0;rcases B with h|h;·exact h
      ·rw[hd]at h;injection h with h;exact absurd h.symm e0
   ·rw[dO i]at hj;by_cases e:j=s.e;·subst e;exact .inl (by simp)
    ·rw[qzc e]at hj;rcases c.sub j hj with h|⟨h1,h2⟩;·exact .inl (qzh.2 (.inr h))
     ·refine .inr ⟨h1,h2.keep m.fr λoj dj H V=>BZ v λU=>?_⟩;have d0:=(qqs.1 H).1;refine((je q hi).1 j d0 (.inr h1)).1 (λh=>e h.symm) ?_;rw[hid,fB H,U];exact V.symm
   ·rw[dO i]at f;by_cases e:j=s.e;·rw[qzb e]at f;cases f
    ·rw[qzc e]at f;rcases qzh.1 hj with hj|hj;·exact absurd hj e
     ·exact⟨(c.flt j hj f).1,(c.flt j hj f).2.1⟩
   ·rw[dO i];split;·rfl
    ·exact c.anc j hj
   ·rw[dO i]at hj⊢;split;·rfl
    ·by_cases e:j=s.e;·subst e;exact I k hk
     ·rw[qzc e]at hj;exact c.cl j hj k hk
   ·rcases qzh.1 hj with rfl|hj;·exact qzh.2 (.inr (J k hk))
    ·exact qzh.2 (.inr (c.dcl j hj k hk))
  obtain⟨g',st',z,u,m1,m2,m3,m4⟩:=Dw (call:=call) q T (by rw[dO i,qzb rfl]) i0 O L;exact hn g' st' w1 z _ u m1 m2 m3 m4
 ·cases hl
theorem xz(E:glB (ops.toList.map (bU P ops)) ac ops.size n=true){y:Nat}{I:St}{listed:Array Bool}{D A:List Nat}{s:kz}{r:List kz}{g:Gh}{st:St}{w:World}{b a:Act}{l:List Stp}(f:Inv P K call ops n ac g0 st0 w0 D A listed g st w b a)(hu:listed.getD s.e false=true)(hl:gV P K ops (jV (s::r))=some l)(hr:eX call l st=.ok y I)(F:stB (ops.toList.map (bU P ops)) ac ops.size n D A (s::r)=true): ∃g' st' J G,Inv P K call ops n ac g0 st0 w0 (s.fl++s.e::D) (s.anc++A) listed g' st' w J a/\gV P K ops (jV r)=some G/\eX call G st'=.ok y I/\stB (ops.toList.map (bU P ops)) ac ops.size n (s.fl++s.e::D) (s.anc++A) r=true:=by
 obtain⟨hi,T,W⟩:=yU F;rcases f.sub s.e hu with h|⟨R,o,d,zs,el,vf,blk,ho,hd,hv,M,N,O,h7⟩;·exact absurd h T
 simp only[jV,gV]at hl;split at hl
 ·rename_i sp rr hs Y;injection hl with hl;subst hl;simp only[Dq,ho]at hs;obtain⟨x,i,u,L⟩:=qh hs hr;have u:jP call (cO P K o) st=.ok x i:=by
   rcases u with⟨_,e⟩|⟨q,_,_,C,_⟩;·exact e
   ·rw[hv.gd]at C;cases C
  obtain⟨v,r1,p,r3,H,r5,r6,z⟩:=hv.zS call g st w x i blk f.kin f.hr N O u;have hid:(bH (ops.toList.map (bU P ops)) s.e).dst=some d:=by rw[fB ho];exact hd
  have S:d<n:=by have:=(je E hi).2.1;rw[hid]at this;exact aY this
  have B:d<b.tmps.size:=qzj S f.v.size;have Q:Mid P K ops n ac g0 st0 w0 (s.e::D) A listed v (iF i o.dst x) w (b.put (some d) (vf ⟨blk,0,none⟩)) a:=by
   rw[hd];refine⟨f.kin.le p,pG r1 (some d) x,⟨f.fr.os,f.fr.tape,f.fr.output,f.fr.size,f.fr.le.trans p,f.fr.keep,λc hc ho=>?_⟩,f.ext.trans z,⟨by have:=f.v.size;simpa [Act.put]using this,λt=>?_,?_⟩,by simp[Act.put,f.sz],f.df,λt ht Z=>?_,λj hj=>?_,λj hj m=>?_,f.anc,f.cl,f.ls,λj hj k hk=>?_⟩
   ·rcases r3 c ho with h|h;·exact f.fr.own c hc h
    ·subst h;omega
   ·rw[eH _ t B];show TR v i.R i.nR (gt (up1 i.T d x) t) _;rw[Eb _ _ _ H.lt];split;·exact H
    ·rw[r5];exact(f.v.slot t).mono p z
   ·show DR v i.R i.nR i.D b.defers;rw[r6];exact f.v.defers.mono p z
   ·rw[eH _ t B];split;·rename_i e;subst e;exact M
    ·rename_i V;refine f.eq t (λj hj m=>ht j (qzh.2 (.inr hj)) m) λj U hj=>?_;by_cases e:j=s.e;·rw[e,hid];exact λh=>V (jzp h).symm
     ·exact Z j U λh=>by
       rcases qzh.1 h with h|h;·exact e h
       ·exact hj h
   ·rcases f.sub j hj with h|⟨h,_⟩;·exact .inl (qzh.2 (.inr h))
    ·exact .inl (qzh.2 (.inl (jzp (h.symm.trans R))))
   ·rcases qzh.1 hj with hj|hj;·subst hj;rw[hu]at m;cases m
    ·exact⟨(f.flt j hj m).1,(f.flt j hj m).2.1⟩
   ·rcases qzh.1 hj with rfl|hj;·exact qzh.2 (.inr (W k hk))
    ·exact qzh.2 (.inr (f.dcl j hj k hk))
  exact Dw (call:=call) E Q hu Y L F
 ·cases hl
theorem QM(hc:kG P K call){Q:Exit->Act->World->Prop}{y:Nat}{F:St}(m:glB (ops.toList.map (bU P ops)) ac ops.size n=true)(V:∀i,ac=some i->∃o d zs el vf,ops[i]? =some o/\o.dst=some d/\AcV P K o zs el vf)(S:∀g w a,K.In g->HR g F w->Fr g0 w0 g w->Ext st0.R st0.nR F.R F.nR->FR g F a n->Q .normal a w): ∀(fuel:Nat)(rest:List kz)(listed:Array Bool)(D A:List Nat)(g:Gh)(st:St)(w:World)(b a:Act)(l:List Stp),Inv P K call ops n ac g0 st0 w0 D A listed g st w b a->cnt listed<=fuel->gV P K ops (jV rest)=some l->eX call l st=.ok y F->stB (ops.toList.map (bU P ops)) ac ops.size n D A rest=true->wpAny P .any ops Q fuel listed a w:=by intro fuel;induction fuel with
 |zero=>intro rest;induction rest with|nil=>intro listed D A g st w b a l c u hl hr f;have x:∀i,i<ops.size->listed.getD i false=true:=λi hi=>Ew (Nat.le_zero.1 u) (by rw[c.ls];exact hi);refine⟨?_,Cn S c x hl hr f⟩;refine List.eq_nil_iff_forall_not_mem.2 λi hi=>?_;obtain⟨h1,_⟩:=mem_ready.1 hi;obtain⟨h2,h3⟩:=sN h1;rw[x i (by rw[<-c.ls];exact h3)]at h2;cases h2|cons s r L=>intro listed D A g st w b a l c u hl hr f;have he:listed.getD s.e false=true:=Ew (Nat.le_zero.1 u) (by rw[c.ls];exact(yU f).1);obtain⟨g',st',k,E,M,N,O,R⟩:=xz m c he hl hr f;exact L _ _ _ g' st' w k a E M u N O R
 |succ fuel ih=>intro rest;induction rest with|nil=>
   intro listed D A g st w b a l c u hl hr f;refine⟨λh0=>Cn S c (zy c.ls m h0) hl hr f,λi hi=>?_⟩;obtain⟨h1,o,ho,x⟩:=mem_ready.1 hi;obtain⟨h2,h3⟩:=sN h1;have z:i<ops.size:=by rw[<-c.ls];exact h3
   have v:∀j∈(bH (ops.toList.map (bU P ops)) i).pre,listed.getD j false=true:=λj hj=>by rw[fB ho]at hj;obtain⟨e,he,H,rfl⟩:=Ay.1 hj;exact x e he H
   have C:cnt (listed.setIfInBounds i true)<=fuel:=by have:=Ia h1;omega
   have B:i∈D:=by have p:=f;simp only[stB]at p;rw[qqw]at p;simpa using p i (qzg.2 z)
   exact Ag m c z ho B h2 v λw' k q t=>ih [] _ D A g st w' k q l t C hl hr f|cons s r L=>
   intro listed D A g st w b a l c u hl hr f;by_cases he:listed.getD s.e false=true;·obtain⟨g',st',k,E,M,N,O,R⟩:=xz m c he hl hr f;exact L _ _ _ g' st' w k a E M u N O R
   ·refine⟨λh0=>absurd (zy c.ls m h0 s.e (yU f).1) he,λi hi=>?_⟩;obtain⟨h1,o,ho,x⟩:=mem_ready.1 hi;obtain⟨h2,h3⟩:=sN h1;have z:i<ops.size:=by rw[<-c.ls];exact h3
    have v:∀j∈(bH (ops.toList.map (bU P ops)) i).pre,listed.getD j false=true:=λj hj=>by rw[fB ho]at hj;obtain⟨e,he,H,rfl⟩:=Ay.1 hj;exact x e he H
    have C:cnt (listed.setIfInBounds i true)<=fuel:=by have:=Ia h1;omega
    by_cases B:i∈D;·exact Ag m c z ho B h2 v λw' k q t=>ih _ _ D A g st w' k q l t C hl hr f
    ·by_cases U:i=s.e;·subst U;exact Gq hc m c ho h2 v hl hr f λg' st' w' k q E t W Y p=>ih r _ _ _ g' st' w' k q E t C W Y p
     ·have T:ac=some i:=by
       have p:=f;simp only[stB,qqn]at p;obtain⟨⟨⟨⟨⟨⟨⟨⟨⟨⟨_,_⟩,c3⟩,_⟩,_⟩,_⟩,_⟩,_⟩,_⟩,_⟩,_⟩:=p;rw[qqw]at c3;have:=c3 i (qzg.2 z);simp only[qji]at this;rcases this with((h|h)|h)|h;·exact absurd (by simpa using h) B
       ·exact absurd (ai h) U
       ·simpa using h
       ·exfalso;obtain⟨j,hj,I⟩:=jqv.1 h;simp only[qqn,qji]at I;rcases I.2 with J|J;·exact he (ai J▸v j hj)
        ·rcases c.sub j (v j hj)with h|⟨h,_⟩;·simp[h]at I
         ·simp[h]at J
      obtain⟨Z,d,zs,el,vf,G,hd,hv⟩:=V i T;rw[ho]at G;injection G with G;subst G;exact Gd m c z ho B h2 v T hv hd λw' q t=>ih _ _ D A g st w' b q l t C hl hr f
end
end Ev
namespace Ev
section
variable {P:Program}{K:Kon}{call:Nat->St->RS}{n:Nat}{ops:Array Oper}{g:Gh}{st:St}{w:World}{a:Act}
def After(K:Kon)(n:Nat)(g:Gh)(st:St)(w:World)(b:St)(c:Act)(w':World):Prop:= ∃g',K.In g'/\HR g' b w'/\Fr g w g' w'/\Ext st.R st.nR b.R b.nR/\FR g' b c n
theorem Sw(m:Nat):cnt (Array.replicate m false)=m:=by unfold cnt;rw[Array.toList_replicate,List.filter_replicate];simp
theorem OE(hm:P.follows .mixedOrders=true)(hc:kG P K call)(hk:K.In g)(I:HR g st w)(hf:FR g st a n){y:Nat}{f:St}{l:List Stp}{p:cZ}(s:xQ P K n ops p=true)(c:kQ P K ops p=.reg l)(hr:eX call l st=.ok y f){id:Nat}{Q:Exit->Act->World->Prop}(G:∀w' e,After K n g st w f e w'->Q .normal e w'):(Code.region id ops true).wp P Q a w:=by
 unfold kQ at c;split at c
 ·rename_i L hl;injection c with c;subst c
  ·simp only[xQ,CX,qqn]at s;obtain⟨b,⟨⟨⟨⟨r,u⟩,W⟩,v⟩,x⟩,O⟩:=s;rw[qqw]at u v x;have H:∀i,p.ac=some i->∃o d zs el vf,ops[i]? =some o/\o.dst=some d/\AcV P K o zs el vf:=λi hi=>by unfold acB at b;rw[hi]at b;dsimp only at b;cases ho:ops[i]? with|none=>rw[ho]at b;cases b|some o=>rw[ho]at b;obtain⟨zs,el,vf,hv⟩:=Va hk b;have h1:=b;simp only[acO,qqn]at h1;obtain⟨_,d,hd⟩:=Fp h1.1;exact⟨o,d,zs,el,vf,rfl,hd,hv⟩
   have h:∀i∈p.fl,i<ops.size/\(bH (ops.toList.map (bU P ops)) i).q=true:=λi hi=>by have:=u i hi;simp only[qqn]at this;exact⟨aY this.1,this.2⟩
   have J:HR g st {w with drawn:=w.drawn+1}:=I.drew _;obtain⟨F,U,z,M,k1,k2,k3,k4,k5,k6,k7,k8,k9⟩:=vQ (n:=n) (call:=call) p.fl (p.ck.map .chk++jV p.st) g st a L y f hk J hf (λi hi=>by obtain⟨f1,f2⟩:=h i hi;have m:ops[i]? =some ops[i]:=jqd f1;refine⟨_,m,(oiq m f2).1,?_⟩;have:=(je r f1).2.1;rw[fB m]at this;exact this) hl hr;obtain⟨R,N,S,T⟩:=A8 p.ck (jV p.st) M y f k8 k9;have k:∀i,(Array.replicate ops.size false).getD i false=false:=λi=>by rw[qqg,Array.getElem?_replicate];split<;>rfl
   refine wp_region_any hm (QM (g0:=g) (st0:=st) (w0:=w) hc r H (λg' w' e A B C D E=>G w' e ⟨g',A,B,C,D,E⟩) ops.size p.st _ p.fl [] F U _ z a N
    ⟨hk.le k2.le,k1,(Fr.drew g w _).trans k2,k4,k3,k5.symm,k6.symm,λt ht V=>?_,λi hi=>?_,λi hi _=>⟨(h i hi).1,(h i hi).2,R i (by simpa using v i hi)⟩,λi hi=>by simp at hi,λi hi=>?_,by simp,λi hi j hj=>?_⟩ (by rw[Sw];exact qqf _) S T O);·rw[k7 t λi hi o ho=>?_];have:=ht i hi (k i);rw[fB ho]at this;exact this
   ·rw[k]at hi;cases hi
   ·rw[k]at hi;cases hi
   ·have:=x i hi;unfold vO at this;rw[qqw]at this;simpa using this j hj
 ·cases c
theorem Du(hc:kG P K call){Q:Exit->Act->World->Prop}{y:Nat}{g0:Gh}{st0:St}{w0:World}{f:St}(i:∀w' h,After K n g0 st0 w0 f h w'->Q .normal h w'): ∀(os:List Oper)(k:Nat)(l:List Stp)(g:Gh)(st:St)(w:World)(a:Act),(∀j,os[j]? =ops[k+j]?)->(∀o∈os,ltO n o.dst=true)->Bi P K ops os=some l->eX call l st=.ok y f->K.In g->HR g st w->Fr g0 w0 g w->Ext st0.R st0.nR st.R st.nR->FR g st a n->wpOps P ops Q (List.range' k os.length) a w
 |[],k,l,g,st,w,a,_,_,hl,hr,hk,c,b,e,hf=>by injection hl with hl;subst hl;change RS.ok 0 st=.ok y f at hr;injection hr with _ hr;subst hr;exact i w a ⟨g,hk,c,b,e,hf⟩|o::os,k,l,g,st,w,a,hj,hd,hl,hr,hk,c,b,e,hf=>by
  simp only[Bi]at hl;split at hl
  ·rename_i s r hs z;injection hl with hl;subst hl;obtain⟨x,A,p,q⟩:=qh hs hr;have ho:ops[k]? =some o:=by simpa using(hj 0).symm
   rw[qzv,List.range'_succ,wpOps_cons];refine QZ hc hk c hf ho (λd v=>by have:=hd o (by simp);rw[v]at this;exact aY this) p λt w1 m h1 h2 h3 u=>?_;exact Du hc i os (k+1) r t _ w1 m (λj=>by have:=hj (j+1);simpa [jqp,Nat.add_comm 1 j]using this) (λo ho=>hd o (by simp[ho])) z q (hk.le h2.le) h1 (b.trans h2) (e.trans u) h3
  ·cases hl
theorem Pk(hc:kG P K call)(hk:K.In g)(e:HR g st w)(hf:FR g st a n){y:Nat}{c:St}{l:List Stp}(hd:I8 n ops=true)(hl:Bi P K ops ops.toList=some l)(hr:eX call l st=.ok y c){id:Nat}{Q:Exit->Act->World->Prop}(d:∀w' b,After K n g st w c b w'->Q .normal b w'):(Code.region id ops false).wp P Q a w:=by refine wp_region ?_;have:=Du (ops:=ops) hc d ops.toList 0 l g st w a (λj=>by simp) (λo ho=>by unfold I8 at hd;rw[qqw]at hd;exact hd o ho) hl hr hk e (Fr.refl _ _) (Ext.refl _ _) hf;rw[jqh,<-List.range_eq_range']at this;exact this
end
end Ev
namespace Ev
def Ac:Nat->Exit|0=>.normal|1=>.ret|n+2=>.exit n
section
variable {P:Program}{K:Kon}{X:Nat->Option cZ}{call:Nat->St->RS}{n:Nat}
theorem After.trans{g:Gh}{st:St}{w:World}{b:St}{w1:World}{d:St}{c:Act}{w':World}{g1:Gh}(h1:Fr g w g1 w1)(h2:Ext st.R st.nR b.R b.nR)(k:After K n g1 b w1 d c w'):After K n g st w d c w':=by obtain⟨g',e,f,h,i,j⟩:=k;exact⟨g',e,f,h1.trans h,h2.trans i,j⟩
def Wq(P:Program)(K:Kon)(X:Nat->Option cZ)(call:Nat->St->RS)(n m:Nat):Prop:= ∀(c:Code)(g:Gh)(st:St)(w:World)(a:Act)(x:Nat)(d:St)(Q:Exit->Act->World->Prop),okX P K X n c=true->K.In g->HR g st w->FR g st a n->gZ call m (fM P K X n c) st=.ok x d->(∀w' b,After K n g st w d b w'->Q (Ac x) b w')->c.wp P Q a w
def Rk(P:Program)(K:Kon)(X:Nat->Option cZ)(call:Nat->St->RS)(n m:Nat):Prop:= ∀(c:Code)(g:Gh)(st:St)(w:World)(a:Act)(x:Nat)(d:St)(Q:Exit->Act->World->Prop),okX P K X n c=true->K.In g->HR g st w->FR g st a n->gZ call m (.loop (fM P K X n c)) st=.ok x d->(∀w' b,After K n g st w d b w'->Q (Ac x) b w')->Code.rounds P c Q m a w
theorem Ca{x:Nat}(h:x≠0)(N:Act->World->Prop)(Q:Exit->Act->World->Prop)(a:Act)(w:World):Exit.then N Q (Ac x) a w=Q (Ac x) a w:=by match x,h with|1,_=>rfl|k+2,_=>rfl
theorem K4{l:List Stp}{st:St}{x:Nat}{b:St}(e:DF call l st=.ok x b):x=0/\∃y,eX call l st=.ok y b:=by unfold DF at e;cases h:eX call l st with|no=>rw[h]at e;cases e|ok y s=>rw[h]at e;injection e with c d;subst d;exact⟨c.symm,y,rfl⟩
theorem IJ(P:Program)(K:Kon)(ops:Array Oper)(p:cZ):kQ P K ops p=.bad\/∃l,kQ P K ops p=.reg l:=by
 unfold kQ;split;·exact .inr ⟨_,rfl⟩
 ·exact .inl rfl
theorem MP{P:Program}{K:Kon}{n:Nat}{ops:Array Oper}:yS P K n ops=.bad\/∃p,xQ P K n ops p=true/\yS P K n ops=kQ P K ops p:=by
 unfold yS;dsimp only;split;·rename_i h;exact .inr ⟨_,h,rfl⟩
 ·exact .inl rfl
theorem G5{a b:Code}(h:okX P K X n (.seq a b)=true):okX P K X n a=true/\okX P K X n b=true:=by have h:(okX P K X n a&&okX P K X n b)=true:=h;simpa using h
theorem Fg{c:Operand}{a b:Code}(h:okX P K X n (.cond c a b)=true):okX P K X n a=true/\okX P K X n b=true:=by have h:(okX P K X n a&&okX P K X n b)=true:=h;simpa using h
theorem yI(hm:P.follows .mixedOrders=true)(hc:kG P K call):∀m,Wq P K X call n m/\Rk P K X call n m
 |0=>⟨(λ_ _ _ _ _ _ _ _ _ _ _ _ e _=>nomatch e),(λ_ _ _ _ _ _ _ _ _ _ _ _ e _=>nomatch e)⟩|m+1=>by
  obtain⟨A,R⟩:=yI hm hc m;have N:Rk P K X call n (m+1):=λc g st w a x j Q r hk s hf e f=>by change JM (gZ call m) (fM P K X n c) st=.ok x j at e;unfold JM at e;rw[jqx];cases h1:gZ call m (fM P K X n c) st with|no=>rw[h1]at e;cases e|ok t z=>rw[h1]at e;dsimp only at e;refine A c g st w a t z _ r hk s hf h1 λw1 o h2=>?_;cases h3:Nat.beq t 0 with|true=>rw[h3,ak]at e;have h3:=ai h3;subst h3;show Code.rounds P c Q m o w1;obtain⟨G,i,q,D,E,F⟩:=h2;exact R c G z w1 o x j Q r i q F e λw' C h=>f w' C (h.trans D E)|false=>rw[h3,ah]at e;injection e with u v;subst u;subst v;rw[Ca (fH h3)];exact f w1 o h2
  refine⟨λc g st w a x j Q r hk s hf e f=>?_,N⟩;have L:After K n g st w st a w:=⟨g,hk,s,Fr.refl _ _,Ext.refl _ _,hf⟩;cases c with
  |skip=>change RS.ok 0 st=.ok x j at e;injection e with i q;subst i;subst q;exact wp_skip (f w a L)|region id ops d=>cases d with
   |true=>
    have M:∀p,xQ P K n ops p=true->gZ call (m+1) (kQ P K ops p) st=.ok x j->(Code.region id ops true).wp P Q a w:=λp I e=>by
     rcases IJ P K ops p with B|⟨l,B⟩;·rw[B]at e;cases e
     ·rw[B]at e;change DF call l st=.ok x j at e;obtain⟨J,y,i⟩:=K4 e;subst J;exact OE hm hc hk s hf I B i f
    change gZ call (m+1) (match X id with|some p=>kQ P K ops p|none=>yS P K n ops) st=.ok x j at e;change(match X id with|some p=>xQ P K n ops p|none=>true)=true at r;cases O:X id with|some p=>rw[O]at e r;exact M p r e|none=>
     rw[O]at e;dsimp only at e;rcases MP (P:=P) (K:=K) (n:=n) (ops:=ops)with H|⟨p,I,H⟩;·rw[H]at e;cases e
     ·rw[H]at e;exact M p I e
   |false=>
    change gZ call (m+1) (if I8 n ops=true then(match Bi P K ops ops.toList with|some l=>.reg l|none=>.bad)else .bad) st=.ok x j at e;split at e
    ·rename_i hd;split at e;·rename_i l hl;change DF call l st=.ok x j at e;obtain⟨J,y,i⟩:=K4 e;subst J;exact Pk hc hk s hf hd hl i f
     ·cases e
    ·cases e
  |seq c1 c2=>change Ol (gZ call m) (fM P K X n c1) (fM P K X n c2) st=.ok x j at e;unfold Ol at e;refine wp_seq ?_;cases h1:gZ call m (fM P K X n c1) st with|no=>rw[h1]at e;cases e|ok t z=>rw[h1]at e;dsimp only at e;refine A c1 g st w a t z _ (G5 r).1 hk s hf h1 λw1 o h2=>?_;cases h3:Nat.beq t 0 with|true=>rw[h3,ak]at e;have h3:=ai h3;subst h3;obtain⟨G,i,q,D,E,F⟩:=h2;exact A c2 G z w1 o x j Q (G5 r).2 i q F e λw' C h=>f w' C (h.trans D E)|false=>rw[h3,ah]at e;injection e with u v;subst u;subst v;rw[Ca (fH h3)];exact f w1 o h2
  |cond c c1 c2=>
   change IM (gZ call m) (cOp K c) (fM P K X n c1) (fM P K X n c2) st=.ok x j at e;unfold IM at e;have ht:=hf.opd hk c
   cases h1:Nat.beq (rd st.T (cOp K c)) 17 with|true=>
    rw[h1,ak]at e;have h1:=ai h1;obtain⟨b,i,q⟩:=(ht.aP oqo oqo oqo oqo).gL oqo;have:b=true:=by cases b with|true=>rfl|false=>rw[h1]at i;exact absurd i (by decide)
    subst this;exact wp_cond_true q (A c1 g st w a x j Q (Fg r).1 hk s hf e f)|false=>
    rw[h1,ah]at e;obtain⟨h2,e⟩:=ag e;have h2:=ai h2;obtain⟨b,i,q⟩:=(ht.aP oqo oqo oqo oqo).gL oqo;have:b=false:=by cases b with|false=>rfl|true=>rw[h2]at i;exact absurd i (by decide)
    subst this;exact wp_cond_false q (A c2 g st w a x j Q (Fg r).2 hk s hf e f)
  |block id c=>change QQ (gZ call m) id (fM P K X n c) st=.ok x j at e;unfold QQ at e;refine wp_block ?_;cases h1:gZ call m (fM P K X n c) st with|no=>rw[h1]at e;cases e|ok t z=>rw[h1]at e;dsimp only at e;refine A c g st w a t z _ r hk s hf h1 λw1 o h2=>?_;cases h3:Nat.beq t (Nat.add id 2)with|true=>rw[h3,ak]at e;have h3:=ai h3;injection e with u v;subst u;subst v;subst h3;show Exit.inBlock id Q (.exit id) o w1;simp only[Exit.inBlock,jzo];exact f w1 o h2|false=>rw[h3,ah]at e;have h3:=fH h3;injection e with u v;subst u;subst v;match t,h3,f with|0,_,f=>exact f w1 o h2|1,_,f=>exact f w1 o h2|k+2,h3,f=>show Exit.inBlock id Q (.exit k) o w1;simp only[Exit.inBlock];rw[qzc (λh=>h3 (by rw[h]))];exact f w1 o h2
  |loop c=>exact jzk (m+1) (N c g st w a x j Q r hk s hf e f)|exit id=>change RS.ok (Nat.add id 2) st=.ok x j at e;injection e with i q;subst i;subst q;exact wp_exit (f w a L)|ret=>change RS.ok 1 st=.ok x j at e;injection e with i q;subst i;subst q;exact wp_ret (f w a L)|_=>cases e
end
end Ev
namespace Ev
section
variable {P:Program}{K:Kon}{g:Gh}{st:St}{w:World}{n:Nat}
def kK(tmps:Array Value):ResultVar->Sem Value| .tmp t=>pure (tmps.getD t undef)| .cell a t=>do loadVar t (<-asAddr (tmps.getD a undef))
theorem DX{t:TypeId}{x:Nat}{st':St}{tmps:Array Value}{c:Nat}(hk:K.In g)(i:HR g st w)(hs:∀t,TR g st.R st.nR (gt st.T t) (tmps.getD t undef)){f:St->RS}(e:f st=.ok x st')(hf:∀o:Oper,o.op=.load t (.tmp c)->OpV P K o f):∃g' w' v,((Instr.loadAt t (tmps.getD c undef)).run P w=.ok v w')/\Post g st w g' st' w' x v:=by
 let o:Oper:={(default:Oper)with op:=.load t (.tmp c)};obtain⟨g',w',v,h1,h2,_⟩:=hf o rfl g st {tmps:=tmps,defers:=[]} w x st' hk i (λy k=>by
  have:y=.tmp c:=by simpa [o,Op.operands]using k
  subst this;exact hs c) e;have j:(execOp ({tmps:=tmps,defers:=[]}:Act).eval o).run P w=((Instr.loadAt t (tmps.getD c undef)).run P w).andThen λv w=>.ok (.value v) w:=by show((do let v<-Instr.loadAt t (tmps.getD c undef);pure (Next.value v)):Sem Next).run P w=_;rw[qjm];rfl
 rw[j]at h1;cases d:(Instr.loadAt t (tmps.getD c undef)).run P w with|halt z w1=>rw[d]at h1;rcases h1 with h1|⟨h1,_⟩<;>cases h1|ok u w1=>
  rw[d]at h1;rcases h1 with h1|⟨h1,_⟩;·change Result.ok (Next.value u) w1=_ at h1;injection h1 with b h;injection b with b;subst b;subst h;exact⟨g',w1,u,rfl,h2⟩
  ·cases h1
theorem uj{t:TypeId}{ad v:Value}{w w':World}(h:(Instr.loadAt t ad).run P w=.ok v w'):((do loadVar t (<-asAddr ad)):Sem Value).run P w=.ok v w':=by unfold Instr.loadAt Instr.sureAddr at h;unfold asAddr;cases ad with
 |pointer q=>cases q with|some q=>exact h|none=>simp at h
 |_=>simp at h
theorem Am{ad:Addr}{v:Value}{w w':World}(h:(load ad).run P w=.ok v w'):w'=w:=by
 rw[run_load]at h;split at h;·injection h with _ h;exact h.symm
 ·split at h;·injection h with _ h;exact h.symm
  ·cases h
theorem qg{ad:Addr}:∀(n i:Nat)(b:Array Value){vs:Array Value}{w w':World},(loadCellsFrom ad i n b).run P w=.ok vs w'->w'=w|0,i,b,vs,w,w',h=>by change Result.ok b w=.ok vs w' at h;injection h with _ h;exact h.symm|n+1,i,b,vs,w,w',h=>by unfold loadCellsFrom at h;rw[qjm]at h;cases c:(load (ad.add i)).run P w with|halt _ _=>rw[c]at h;cases h|ok u w1=>rw[c]at h;have:=Am c;subst this;exact qg n (i+1) _ h
theorem Fx{tmps:Array Value}{r:ResultVar}{v:Value}{w w':World}{l:List ResultVar}{e:List RV}(hc:iB P K (r::l)=some e)(h:(kK tmps r).run P w=.ok v w'):w'=w:=by cases r with|tmp t=>change Result.ok (tmps.getD t undef) w=.ok v w' at h;injection h with _ h;exact h.symm|cell a t=>
  simp only[iB]at hc;split at hc;·rename_i d i k hd hi j;unfold kK at h;rw[qjm]at h;cases b:(asAddr (tmps.getD a undef)).run P w with|halt _ _=>rw[b]at h;cases h|ok ad w1=>
    rw[b]at h;have c:w1=w:=by
     unfold asAddr at b;split at b;·change Result.ok _ w=.ok ad w1 at b;injection b with _ b;exact b.symm
     ·first|cases b|simp[runtimePanic]at b
     ·first|cases b|simp[stuck]at b
    subst c;change(loadVar t ad).run P w1=.ok v w' at h;unfold loadVar at h;rw[qjm,pQ hd]at h;cases ha:fU d with
    |true=>rw[ha]at h;simp only[qjl,jzo,qjm,dF hi]at h;cases hz:(loadCells ad i.size).run P w1 with|halt _ _=>rw[hz]at h;cases h|ok u f=>rw[hz]at h;have:=qg _ _ _ hz;subst this;change Result.ok (Value.agg u) f=.ok v w' at h;injection h with _ h;exact h.symm
    |false=>rw[ha]at h;exact Am h
  ·cases hc
theorem G6{tmps:Array Value}(hk:K.In g)(b:HR g st w)(hs:∀t,TR g st.R st.nR (gt st.T t) (tmps.getD t undef)){r:ResultVar}{m:RV}{l:List ResultVar}{k:List RV}(hc:iB P K (r::l)=some (m::k)){x:Nat}{st':St}(e:ET m st=.ok x st'):iB P K l=some k/\∃g' w' v,(kK tmps r).run P w=.ok v w'/\Post g st w g' st' w' x v:=by cases r with
 |tmp t=>simp only[iB]at hc;cases h:iB P K l with|none=>rw[h]at hc;cases hc|some y=>rw[h]at hc;simp only[jqb,qzk,jxg]at hc;obtain⟨rfl,rfl⟩:=hc;change RS.ok (gt st.T t) st=.ok x st' at e;injection e with p q;subst p;subst q;exact⟨rfl,g,w,tmps.getD t undef,rfl,.same b (hs t)⟩
 |cell a t=>
  simp only[iB]at hc;split at hc
  ·rename_i d i u hd hi j;split at hc;·rename_i ha;simp only[qzk,jxg]at hc;obtain⟨rfl,rfl⟩:=hc;obtain⟨g',w',v,h1,h2⟩:=DX (P:=P) (K:=K) (c:=a) (t:=t) (f:=D9 (.s a)) hk b hs e λo ho=>Hm ho hd ha;exact⟨j,g',w',v,uj h1,h2⟩
   ·rename_i ha;split at hc;·rename_i hn;simp only[qzk,jxg]at hc;obtain⟨rfl,rfl⟩:=hc;obtain⟨g',w',v,h1,h2⟩:=DX (P:=P) (K:=K) (c:=a) (t:=t) (f:=yN i.size (.s a)) hk b hs e λo ho=>Dr ho hd (JY ha) hi hn;exact⟨j,g',w',v,uj h1,h2⟩
    ·cases hc
  ·cases hc
end
end Ev
namespace Ev
section
variable {P:Program}{K:Kon}{tmps:Array Value}
theorem EJ{α:Type}(l:List α)(d:α){i:Nat}(h:i<l.length):l.reverse.getD i d=l.getD (l.length-1-i) d:=by rw[qqm,qqm,List.getElem?_reverse h]
theorem Post.trans{g:Gh}{st:St}{w:World}{g1:Gh}{b:St}{w1:World}{e:Nat}{v1:Value}{g2:Gh}{c:St}{d:World}{x:Nat}{v:Value}(h:Post g st w g1 b w1 e v1)(k:Post g1 b w1 g2 c d x v):Post g st w g2 c d x v:=⟨k.hr,h.fr.trans k.fr,h.ext.trans k.ext,k.tr,k.T.trans h.T,k.D.trans h.D⟩
theorem pM:∀(l:List ResultVar)(b:List RV),iB P K l=some b->b.length=l.length
 |[],b,h=>by injection h with h;subst h;rfl| .tmp t::l,b,h=>by simp only[iB]at h;cases c:iB P K l with|none=>rw[c]at h;cases h|some r=>rw[c]at h;simp only[jqb,qzk]at h;subst h;rw[qzv,qzv,pM l r c]
 | .cell a t::l,b,h=>by
  simp only[iB]at h;split at h
  ·rename_i d i r h1 h2 h3;have:=pM l r h3;split at h;·injection h with h;subst h;simp[this]
   ·split at h;·injection h with h;subst h;simp[this]
    ·cases h
  ·cases h
theorem Ha:∀(l:List ResultVar)(f:List RV)(g:Gh)(st:St)(w:World)(c:List Nat)(av:List Value)(x:Nat)(st':St),K.In g->HR g st w->(∀t,TR g st.R st.nR (gt st.T t) (tmps.getD t undef))->iB P K l=some f->av.length=c.length->(∀i,i<c.length->TR g st.R st.nR (c.getD i 0) (av.getD i undef))->QY f st c=.ok x st'-> ∃g' w' vs,(l.mapM (kK tmps)).run P w=.ok vs w'/\vs.length=l.length/\Post g st w g' st' w' x (.tuple (av.reverse++vs).toArray)
 |[],f,g,st,w,c,av,x,st',hk,d,hs,hc,hl,hv,e=>by
  injection hc with hc;subst hc;change sel (Nat.blt st.nR 4294967296) (sel (Nat.blt c.length 16777216) (fc (ad st.R st.nR (dV c.reverse)) λR=>RS.ok (eZ st.nR c.length) {st with R:=R,nR:=Nat.add st.nR c.length}) RS.no) RS.no=RS.ok x st' at e;obtain⟨h1,e⟩:=ag e;obtain⟨h2,e⟩:=ag e;rw[bX]at e;injection e with q m;have h1:=aY h1;have h2:=aY h2;simp only[nA]at m;have p:∀y∈c.reverse,y<2^128:=λy B=>by obtain⟨i,hi,he⟩:=List.getElem_of_mem (List.mem_reverse.1 B);have:=(hv i hi).lt;rw[qqm,qqh hi,qzm,he]at this;exact this
  have z:dV c.reverse<2^(128*c.length):=by have:=lS c.reverse p;rwa[List.length_reverse]at this
  have o:=Ext.ad c.length (dV c.reverse) d.Rlt;subst m;refine⟨g,w,[],by simp,rfl,⟨d.frame _ _ (ic d.Rlt z),Fr.refl _ _,o,?_,rfl,rfl⟩⟩;rw[<-q];refine .tup _ _ _ h2 h1 (qqf _) (by simp[hl]) λi hi=>?_;rw[dM _ _ d.Rlt,qzc oqo,show st.nR+i-st.nR=i by omega,gy _ _ p,EJ _ _ hi];have hz:(av.reverse++[]).toArray.getD i undef=av.getD (c.length-1-i) undef:=by rw[List.append_nil,qqg,jxy,<-qqm,EJ _ _ oqo,hl]
  rw[hz];exact(hv _ oqo).mono (Gh.le.refl g) o|r::l,f,g,st,w,c,av,x,st',hk,d,hs,hc,hl,hv,e=>by
  have A:∃j h,f=j::h:=by have:=pM _ _ hc;cases f with|nil=>simp at this|cons a b=>exact⟨a,b,rfl⟩
  obtain⟨j,h,rfl⟩:=A;change RS.rec .no (λw st=>fc w λw=>QY h st (w::c)) (ET j st)=RS.ok x st' at e;cases k:ET j st with|no=>rw[k]at e;cases e|ok D C=>rw[k]at e;dsimp only at e;rw[bX]at e;obtain⟨u,s,w1,v,h1,h2⟩:=G6 hk d hs hc k;obtain⟨g',w',vs,k1,k2,k3⟩:=Ha l h s C w1 (D::c) (v::av) x st' (hk.le h2.fr.le) h2.hr (λt=>by rw[h2.T];exact(hs t).mono h2.fr.le h2.ext) u (by simp[hl]) (λi hi=>by cases i with|zero=>exact h2.tr|succ i=>exact(hv i (by simpa using hi)).mono h2.fr.le h2.ext) e;refine⟨g',w',v::vs,by simp[List.mapM_cons,h1,k1],by simp[k2],?_⟩;have:=h2.trans k3;simpa using this
theorem yY:∀(l:List ResultVar)(e:List RV){w w':World}{vs:List Value},iB P K l=some e->(l.mapM (kK tmps)).run P w=.ok vs w'->w'=w|[],e,w,w',vs,_,h=>by simp at h;exact h.2.symm|r::l,e,w,w',vs,hc,h=>by rw[List.mapM_cons,qjm]at h;cases d:(kK tmps r).run P w with|halt _ _=>rw[d]at h;cases h|ok u w1=>rw[d]at h;have:=Fx hc d;subst this;rw[qjl,qjm]at h;cases hz:(l.mapM (kK tmps)).run P w1 with|halt _ _=>rw[hz]at h;cases h|ok us f=>
    rw[hz]at h;have c:∃b,iB P K l=some b:=by cases hl:iB P K l with|some b=>exact⟨b,rfl⟩|none=>cases r with|tmp t=>simp[iB,hl]at hc|cell a t=>
       simp only[iB,hl]at hc;split at hc;·rename_i h3;cases h3
       ·cases hc
    obtain⟨b,c⟩:=c;have:=yY l b c hz;subst this;change Result.ok (u::us) f=.ok vs w' at h;injection h with _ h;exact h.symm
theorem ug{fn:Func}{c:List RV}{w w':World}{v:Value}(hc:iB P K fn.results.toList=some c)(h:(results fn tmps).run P w=.ok v w'):w'=w:=by have b:results fn tmps=(do let vs<-fn.results.mapM (kK tmps)pure (if h:vs.size=1 then vs[0]else .tuple vs)):=rfl;rw[b,Array.mapM_eq_mapM_toList,qjm,Sem.run_map]at h;cases hz:(fn.results.toList.mapM (kK tmps)).run P w with|halt _ _=>rw[hz]at h;cases h|ok us d=>rw[hz]at h;have:=yY _ _ hc hz;subst this;simp at h;exact h.2.symm
theorem MF{fn:Func}{d:List RV}{g:Gh}{st:St}{w:World}{x:Nat}{st':St}(hk:K.In g)(j:HR g st w)(hs:∀t,TR g st.R st.nR (gt st.T t) (tmps.getD t undef))(hc:iB P K fn.results.toList=some d)(e:res d st=.ok x st'): ∃g' w' v,(results fn tmps).run P w=.ok v w'/\Post g st w g' st' w' x v:=by have u:results fn tmps=(do let vs<-fn.results.mapM (kK tmps)pure (if h:vs.size=1 then vs[0]else .tuple vs)):=rfl;rw[u,Array.mapM_eq_mapM_toList];generalize fn.results.toList=l at*;match l,hc with
 |[],hc=>injection hc with hc;subst hc;change RS.ok 14 st=.ok x st' at e;injection e with p s;subst p;subst s;exact⟨g,w,undef,by simp[undef],.same j .und⟩|[r],hc=>
  have k:∃f,d=[f]:=by have:=pM _ _ hc;match d,this with|[a],_=>exact⟨a,rfl⟩
  obtain⟨f,rfl⟩:=k;obtain⟨_,g',w',v,h1,h2⟩:=G6 hk j hs hc e;exact⟨g',w',v,by simp[h1],h2⟩|r::q::l,hc=>
  have k:∃f m o,d=f::m::o:=by have:=pM _ _ hc;match d,this with|a::b::c,_=>exact⟨a,b,c,rfl⟩
  obtain⟨f,m,o,rfl⟩:=k;obtain⟨g',w',vs,k1,k2,k3⟩:=Ha (r::q::l) _ g st w [] [] x st' hk j hs hc rfl (λi hi=>by simp at hi) e;refine⟨g',w',.tuple vs.toArray,?_,by simpa using k3⟩;have:¬vs.toArray.size=1:=by simp at k2⊢;omega
  simp only[qjm,Sem.run_map,k1];simp[k2]
end
end Ev
