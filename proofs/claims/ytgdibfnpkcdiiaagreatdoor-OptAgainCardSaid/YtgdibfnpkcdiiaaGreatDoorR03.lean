/- Joint text: HChn, HDraw. By an AI agent. -/
import Derived.Test.YtgdibfnpkcdiiaaGreatDoorR02
set_option linter.all false
set_option maxRecDepth 100000
set_option maxHeartbeats 64000000
namespace Go.Proofs.YtgdibfnpkcdiiaaGreatDoor
open Go Go.RowKit
abbrev Told:=Option (Gs×Value)
def bC(vs:List Told)(j:Nat):Bool:=match vs[j]? with|some (some _)=>true|_=>false
def ll(vs:List Told)(j:Nat):Bool:=match vs[j]? with|some none=>true|_=>false
def tK(ops:Array Oper)(vs:List Told)(sz i:Nat):Bool:=match ops[i]? with|none=>false|some o=>(match o.dst with|some d=>decide (d<sz)&&(List.range vs.length).all (λj=>j==i||bu ops j !=some d)|none=>false)&&o.after.all (λe=>!Region.binds .any e||(decide (e.on<i)&&bC vs e.on))&&(o.looksAt ops).all (λt=>(List.range vs.length).all λj=>bu ops j !=some t||needs o j||(ll vs j&&(match ops[j]? with|some c=>needs c i|none=>false)))&&(match vs[i]? with|some (some v)=>jT ops o v.1|_=>false)
def yH(ops:Array Oper)(vs:List Told)(i:Nat):Bool:=match ops[i]? with|none=>false|some o=>o.after.all (λe=>!Region.binds .any e||decide (e.on<i))&&(o.looksAt ops).all (λt=>(List.range vs.length).all λj=>bu ops j !=some t||ll vs j||needs o j)&&(match o.dst with|some d=>(List.range vs.length).all (λj=>!bC vs j||bu ops j !=some d)|none=>true)
def gQ(ops:Array Oper)(vs:List Told)(sz:Nat):Bool:=Region.noSelect ops&&decide (vs.length=ops.size)&&(List.range vs.length).all (λi=>if bC vs i then tK ops vs sz i else yH ops vs i)
def eF(ops:Array Oper):Nat->List Told->Act->Act|_,[],a=>a|i,none::r,a=>eF ops (i+1) r a|i,some v::r,a=>eF ops (i+1) r (a.put (bu ops i) v.2)
section
variable {P:Program}{ops:Array Oper}{Q:Exit->Act->World->Prop}
def canon(vs:List Told)(listed:Array Bool):Array Bool:=((List.range listed.size).map λj=>bC vs j||listed.getD j false).toArray
theorem vE(vs:List Told)(listed:Array Bool)(j:Nat)(d:Bool)(h:j<listed.size):(canon vs listed).getD j d=(bC vs j||listed.getD j false):=by simp[canon,h]
theorem M3(vs:List Told)(listed:Array Bool)(i:Nat)(hi:i<listed.size):canon vs (listed.setIfInBounds i true)=(canon vs listed).setIfInBounds i true:=by
 refine Array.ext (by simp[canon]) λj h1 h2=>?_;have hj:j<listed.size:=by simpa [canon]using h1
 by_cases b:i=j;·subst b;simp[canon,hi]
 ·simp[canon,b,jql b]
theorem Gi(vs:List Told)(listed:Array Bool)(i:Nat)(hf:bC vs i=true):canon vs (listed.setIfInBounds i true)=canon vs listed:=by
 refine Array.ext (by simp[canon]) λj h1 h2=>?_;by_cases b:i=j;·subst b;simp[canon,hf]
 ·simp[canon,jql b]
theorem qE:∀(vs:List Told)(i:Nat)(a:Act),(eF ops i vs a).tmps.size=a.tmps.size/\(eF ops i vs a).defers=a.defers|[],_,_=>⟨rfl,rfl⟩|none::r,i,a=>qE r (i+1) a|some v::r,i,a=>by have ih:=qE r (i+1) (a.put (bu ops i) v.2);rw[eF,ih.1,ih.2];cases bu ops i<;>simp[Act.put]
theorem kZ:∀(vs:List Told)(i:Nat)(a:Act)(t:Nat),(∀j,bC vs j=true->bu ops (i+j)≠some t)->(eF ops i vs a).tmps[t]? =a.tmps[t]? |[],_,_,_,_=>rfl|none::r,i,a,t,h=>by rw[eF];exact kZ r (i+1) a t λj hj=>by have:=h (j+1) (by simpa [bC]using hj);rwa[show i+1+j=i+(j+1)by omega]|some v::r,i,a,t,h=>by rw[eF,kZ r (i+1) _ t λj hj=>by have:=h (j+1) (by simpa [bC]using hj);rwa[show i+1+j=i+(j+1)by omega]];have h0:=h 0 rfl;rw[qzz]at h0;cases hd:bu ops i with|none=>rfl|some d=>simp only[Act.put];rw[jql (λe=>h0 (by rw[hd,e]))]
theorem wF:∀(vs:List Told)(i:Nat)(a:Act)(j t:Nat)(v:Gs×Value),vs[j]? =some (some v)->bu ops (i+j)=some t->t<a.tmps.size->(∀k,bC vs k=true->k≠j->bu ops (i+k)≠some t)->(eF ops i vs a).tmps[t]? =some v.2|[],_,_,_,_,_,h,_,_,_=>by simp at h|none::r,i,a,0,t,v,h,hd,ht,hn=>by simp at h|some u::r,i,a,0,t,v,h,hd,ht,hn=>by simp at h;subst h;rw[eF,kZ r (i+1) _ t (λk hk=>by have:=hn (k+1) (by simpa [bC]using hk) oqo;rwa[show i+1+k=i+(k+1)by omega])];rw[qzz]at hd;rw[hd];simp only[Act.put];rw[jzi ht]|none::r,i,a,j+1,t,v,h,hd,ht,hn=>by rw[eF];exact wF r (i+1) a j t v (by simpa using h) (by rwa[show i+1+j=i+(j+1)by omega]) ht (λk hk b=>by have:=hn (k+1) (by simpa [bC]using hk) oqo;rwa[show i+1+k=i+(k+1)by omega])|some u::r,i,a,j+1,t,v,h,hd,ht,hn=>by rw[eF];refine wF r (i+1) _ j t v (by simpa using h) (by rwa[show i+1+j=i+(j+1)by omega]) ?_ (λk hk b=>by have:=hn (k+1) (by simpa [bC]using hk) oqo;rwa[show i+1+k=i+(k+1)by omega]);cases bu ops i<;>simp[Act.put,ht]
theorem QK{vs:List Told}{j:Nat}(h:bC vs j=true):∃v,vs[j]? =some (some v):=by unfold bC at h;cases hv:vs[j]? with|none=>rw[hv]at h;cases h|some x=>cases x with|none=>rw[hv]at h;cases h|some v=>exact⟨v,rfl⟩
theorem iJ{vs:List Told}{j:Nat}(h:bC vs j=true):j<vs.length:=by obtain⟨v,hv⟩:=QK h;exact(qqi.1 hv).1
theorem kI{o:Oper}{j:Nat}(h:needs o j=true):∃e∈o.after,Region.binds .any e=true/\e.on=j:=by unfold needs at h;rw[<-Array.any_toList,jqv]at h;obtain⟨e,he,b⟩:=h;simp only[qqn,jqz]at b;exact⟨e,jjd.1 he,b.1,b.2⟩
theorem RO{vs:List Told}{j:Nat}(hj:j<vs.length)(h:bC vs j=false):ll vs j=true:=by unfold bC at h;unfold ll;rw[qqh hj]at h⊢;cases b:vs[j]with|none=>rfl|some v=>rw[b]at h;cases h
theorem pR{vs:List Told}{j:Nat}(h:ll vs j=true):bC vs j=false:=by unfold ll at h;unfold bC;cases hv:vs[j]? with|none=>rfl|some x=>cases x with|none=>rfl|some v=>rw[hv]at h;cases h
def dE(P:Program)(F:Act)(W:World)(o:Oper)(gs:Gs)(v:Value):Prop:=if isGo F gs=true then(execOp F.eval o).run P W=.ok (.value v) W else undef=v
def gW(P:Program)(F:Act)(W:World):List Oper->List Told->Prop|o::os,some v::vs=>dE P F W o v.1 v.2/\gW P F W os vs|_::os,none::vs=>gW P F W os vs|_,_=>True
theorem gW.at{F:Act}{W:World}:∀{os:List Oper}{vs:List Told}{i:Nat}{o:Oper}{v:Gs×Value},gW P F W os vs->os[i]? =some o->vs[i]? =some (some v)->dE P F W o v.1 v.2|[],_,_,_,_,_,h,_=>by simp at h|_::_,[],_,_,_,_,_,h=>by simp at h|o::os,none::vs,0,_,_,hr,h,k=>by simp at k|o::os,some v::vs,0,_,_,hr,h,k=>by simp at h k;subst h k;exact hr.1|o::os,none::vs,i+1,_,_,hr,h,k=>gW.at (os:=os) (vs:=vs) (i:=i) hr (by simpa using h) (by simpa using k)|o::os,some v::vs,i+1,_,_,hr,h,k=>gW.at (os:=os) (vs:=vs) (i:=i) hr.2 (by simpa using h) (by simpa using k)
theorem LB{o:Oper}{A a:Act}(hd:a.defers=A.defers){j k:Act->World->Prop}(g:∀ds v b,j (Act.put ⟨A.tmps,ds⟩ o.dst v) b->k (Act.put ⟨a.tmps,ds⟩ o.dst v) b)(l:∀c b,Q (.panic c) A b->Q (.panic c) a b)(r:Result Next)(h:Oper.upon P o A j Q r):Oper.upon P o a k Q r:=by
 have p:∀v,A.put o.dst v=Act.put ⟨A.tmps,A.defers⟩ o.dst v:=λ_=>rfl;have i:∀v,a.put o.dst v=Act.put ⟨a.tmps,A.defers⟩ o.dst v:=λ_=>by rw[<-hd]
 cases r with
 |ok n w'=>cases n with
  |value v=>simp only[Oper.upon]at h⊢;rw[i];exact g _ _ _ h|skip=>simp only[Oper.upon]at h⊢;rw[i];exact g _ _ _ h|defer d=>simp only[Oper.upon]at h⊢;rw[hd];exact g _ _ _ h|enter f args=>simp only[Oper.upon]at h⊢;refine Calls.mono h λe m he=>?_;cases e with|returned u=>simp only at he⊢;rw[i];exact g _ _ _ he|panicked c=>exact l _ _ he|outgrown=>exact he
  |row row args=>simp only[Oper.upon]at h⊢;refine Rows.mono h λu m he=>?_;rw[i];exact g _ _ _ he|_=>exact h.elim
 |halt x w'=>cases x with|panic v=>simp only[Oper.upon]at h⊢;exact l _ _ h|_=>exact h.elim
theorem lM{vs:List Told}{sz i:Nat}(h:tK ops vs sz i=true):∃o d v,ops[i]? =some o/\o.dst=some d/\bu ops i=some d/\d<sz/\vs[i]? =some (some v)/\jT ops o v.1=true/\(∀j,j<vs.length->j≠i->bu ops j≠some d)/\(∀e∈o.after,Region.binds .any e=true->e.on<i/\bC vs e.on=true)/\∀t∈o.looksAt ops,∀j,j<vs.length->bu ops j=some t->needs o j=true\/(ll vs j=true/\∃c,ops[j]? =some c/\needs c i=true):=by unfold tK at h;cases ho:ops[i]? with|none=>rw[ho]at h;cases h|some o=>rw[ho]at h;simp only[qqn]at h;obtain⟨⟨⟨h1,h2⟩,h3⟩,f⟩:=h;cases hd:o.dst with|none=>rw[hd]at h1;cases h1|some d=>
   rw[hd]at h1;simp only[qqd,qji,jqz,jxl]at h1;rw[jxr]at h2;simp only[qqw,qzg,qji,jxl,qqn]at h3;have hv:∃v,vs[i]? =some (some v)/\jT ops o v.1=true:=by cases g:vs[i]? with|none=>rw[g]at f;cases f|some x=>cases x with|none=>rw[g]at f;cases f|some v=>rw[g]at f;exact⟨v,rfl,f⟩
   obtain⟨v,n,p⟩:=hv;refine⟨o,d,v,rfl,hd,by unfold bu;rw[ho];exact hd,h1.1,n,p,λj hj m=>(h1.2 j hj).resolve_left m,λe he k=>?_,λt ht j hj l=>?_⟩;·have:=h2 e he;rw[k]at this;simpa using this
   ·rcases h3 t ht j hj with(b|b)|b;·exact absurd l b
    ·exact Or.inl b
    ·refine Or.inr ⟨b.1,?_⟩;cases hc:ops[j]? with|none=>rw[hc]at b;cases b.2|some c=>rw[hc]at b;exact⟨c,rfl,b.2⟩
theorem Co{vs:List Told}{i:Nat}(h:yH ops vs i=true):∃o,ops[i]? =some o/\(∀e∈o.after,Region.binds .any e=true->e.on<i)/\(∀t∈o.looksAt ops,∀j,j<vs.length->bu ops j=some t->ll vs j=true\/needs o j=true)/\∀j,j<vs.length->bC vs j=true->∀d,o.dst=some d->bu ops j≠some d:=by unfold yH at h;cases ho:ops[i]? with|none=>rw[ho]at h;cases h|some o=>
  rw[ho]at h;simp only[qqn]at h;obtain⟨⟨h2,h3⟩,c⟩:=h;rw[jxr]at h2;simp only[qqw,qzg,qji,jxl]at h3;refine⟨o,rfl,λe he f=>?_,λt ht j hj hd=>?_,λj hj hf d hd=>?_⟩;·have:=h2 e he;rw[f]at this;simpa using this
  ·rcases h3 t ht j hj with(b|b)|b;·exact absurd hd b
   ·exact Or.inl b
   ·exact Or.inr b
  ·rw[hd]at c;simp only[qqw,qzg,qji,jxl,qjj]at c;exact(c j hj).resolve_left (by rw[hf];simp)
def aft(ops:Array Oper)(i:Nat):List Nat:=match ops[i]? with|some o=>(o.after.toList.filter (Region.binds .any)).map (·.on)|none=>[]
def mark(ops:Array Oper):Nat->List Nat->List Nat|0,L=>L|k+1,L=>mark ops k (if L.contains k then aft ops k++L else L)
def fA(vs:List Told)(ops:Array Oper)(i:Nat):Bool:=(List.range ops.size).all λj=>!bC vs j||(mark ops (i+1) [i]).contains j
theorem Cy{ops:Array Oper}{p:Nat->Prop}(h:∀k,p k->∀e∈aft ops k,p e):∀(k:Nat)(L:List Nat),(∀x∈L,p x)->∀x∈mark ops k L,p x
 |0,L,c=>c|k+1,L,c=>by
  refine Cy h k _ λx b=>?_;split at b
  ·rename_i hk;rcases qzu.1 b with b|b;·exact h k (c k (by simpa using hk)) x b
   ·exact c x b
  ·exact c x b
def wpAnyS(P:Program)(vs:List Told)(ops:Array Oper)(Q:Exit->Act->World->Prop)(S:World->Prop):Nat->Array Bool->Act->World->Prop|0,listed,a,w=>Region.ready .any ops listed=[]/\Q .normal a w|fuel+1,listed,a,w=>(Region.ready .any ops listed=[]->Q .normal a w)/\∀i∈Region.ready .any ops listed,wpOp P ops Q i (λb w'=>(S w'\/fA vs ops i=true)/\wpAnyS P vs ops Q S fuel (listed.setIfInBounds i true) b w') a w
structure Mid(P:Program)(ops:Array Oper)(Q:Exit->Act->World->Prop)(vs:List Told)(F:Act)(S:World->Prop)(listed:Array Bool)(a:Act)(W:World)(A:Act):Prop where
 size:listed.size=ops.size
 defers:a.defers=A.defers
 Ap:a.tmps.size=A.tmps.size
 JZ:A.tmps.size=F.tmps.size
 same:∀t,(∀j,bC vs j=true->listed.getD j false=false->bu ops j≠some t)->a.tmps[t]? =A.tmps[t]?
 float:∀j v t,vs[j]? =some (some v)->bu ops j=some t->A.tmps[t]? =some v.2
 still:∀t,(∀j,ll vs j=true->listed.getD j false=true->bu ops j≠some t)->A.tmps[t]? =F.tmps[t]?
 deps:∀j o,ops[j]? =some o->listed.getD j false=true->∀e∈o.after,Region.binds .any e=true->listed.getD e.on false=true
 world:S W\/∀j,bC vs j=true->listed.getD j false=true
 rest:∃k,wpAnyS P vs ops Q S k (canon vs listed) A W
theorem xx(S:World->Prop)(vs:List Told)(F:Act)(z:gQ ops vs F.tmps.size=true)(hQ:∀c a Y w,a.defers=Y.defers->Q (.panic c) a w->Q (.panic c) Y w)(s1:∀W,S W->∀(i:Nat)(o:Oper)(v:Gs×Value),ops[i]? =some o->vs[i]? =some (some v)->dE P F W o v.1 v.2): ∀(fuel:Nat)(listed:Array Bool)(a:Act)(W:World)(A:Act),((List.range ops.size).filter λj=>!listed.getD j false).length<=fuel->Mid P ops Q vs F S listed a W A->wpAny P .any ops Q fuel listed a W:=by
 have hk:=z;unfold gQ at hk;simp only[qqd]at hk;obtain⟨⟨a1,N⟩,y0⟩:=hk;have r0:∀i,bC vs i=true->tK ops vs F.tmps.size i=true:=λi hi=>by have:=y0 i (iJ hi);rwa[qzb hi]at this
 have j0:∀i,i<vs.length->bC vs i=false->yH ops vs i=true:=λi hi hf=>by have:=y0 i hi;rwa[qzc (by rw[hf];simp)]at this
 have x0:∀i o,ops[i]? =some o->∀e∈o.after,Region.binds .any e=true->e.on<i:=by
  intro i o ho e he f;have hi:i<vs.length:=by rw[N];exact(qqs.1 ho).1
  cases hf:bC vs i with|true=>obtain⟨C,d,v,l,_,_,_,_,_,_,h,_⟩:=lM (r0 i hf);rw[ho]at l;injection l with s;subst s;exact(h e he f).1|false=>obtain⟨C,l,h,_,_⟩:=Co (j0 i hi hf);rw[ho]at l;injection l with s;subst s;exact h e he f
 have getD_eq:∀(listed:Array Bool)(j:Nat),j<listed.size->listed.getD j false=listed.getD j true:=by intro listed j hj;simp[hj]
 have done:∀(listed:Array Bool),listed.size=ops.size->Region.ready .any ops listed=[]->∀j,j<ops.size->listed.getD j false=true:=by intro listed v1 hr j;induction j using Nat.strongRecOn with|ind j ih=>intro hj;cases hl:listed.getD j false with|true=>rfl|false=>exfalso;have ho:ops[j]? =some ops[j]:=jqd hj;have:j∈Region.ready .any ops listed:=mem_ready.2 ⟨by rw[<-getD_eq listed j oqo];exact hl,_,ho,λe he f=>ih e.on (x0 j _ ho e he f) (by have:=x0 j _ ho e he f;omega)⟩;rw[hr]at this;simp at this
 have d0:∀(listed:Array Bool)(a:Act)(W:World)(A:Act),Mid P ops Q vs F S listed a W A->Region.ready .any ops listed=[]->Q .normal a W:=by
  intro listed a W A h hr;have i0:=done listed h.size hr;have d1:a=A:=by
   have h1:=h.defers;have h2:a.tmps=A.tmps:=Array.ext_getElem? λt=>h.same t λj hj g=>by rw[i0 j (by rw[<-N];exact iJ hj)]at g;cases g
   cases a;cases A;simp only at h1 h2;rw[h1,h2]
  obtain⟨k,hk⟩:=h.rest;have X:Region.ready .any ops (canon vs listed)=[]:=by cases X:Region.ready .any ops (canon vs listed)with|nil=>rfl|cons i r=>
    have hi:i∈Region.ready .any ops (canon vs listed):=by rw[X];simp
    obtain⟨h0,o,ho,_⟩:=mem_ready.1 hi;have y:=(qqs.1 ho).1;rw[vE _ _ _ _ (by rw[h.size];exact y),i0 i y]at h0;simp at h0
  rw[d1];cases k with|zero=>exact hk.2|succ k=>exact hk.1 X
 intro fuel;induction fuel with|zero=>
  intro listed a W A m1 h;have hr:Region.ready .any ops listed=[]:=by cases hr:Region.ready .any ops listed with|nil=>rfl|cons i r=>
    have hi:i∈Region.ready .any ops listed:=by rw[hr];simp
    obtain⟨h0,o,ho,_⟩:=mem_ready.1 hi;have y:=(qqs.1 ho).1;have:i∈(List.range ops.size).filter λj=>!listed.getD j false:=jzt.2 ⟨qzg.2 y,by rw[getD_eq listed i (by rw[h.size];exact y),h0];rfl⟩;have:=List.length_pos_of_mem this;omega
  exact⟨hr,d0 listed a W A h hr⟩|succ fuel ih=>
  intro listed a W A m1 h;refine⟨λhr=>d0 listed a W A h hr,λi hi=>?_⟩;obtain⟨h0,o,ho,E⟩:=mem_ready.1 hi;have y:=(qqs.1 ho).1;have M:i<listed.size:=by rw[h.size];exact y
  have I:listed.getD i false=false:=by rw[getD_eq listed i M];exact h0
  have B:∀j,(listed.setIfInBounds i true).getD j false=(j==i||listed.getD j false):=by
   intro j;by_cases m:i=j;·subst m;simp[M]
   ·rw[getD_set_ne false m];simp[Ne.symm m]
  have l0:((List.range ops.size).filter λj=>!(listed.setIfInBounds i true).getD j false).length<=fuel:=by
   have e:((List.range ops.size).filter λj=>!(listed.setIfInBounds i true).getD j false)=((List.range ops.size).filter λj=>!listed.getD j false).filter (λj=>j !=i):=by
    rw[List.filter_filter];refine List.filter_congr λj hj=>?_;rw[B];by_cases m:j=i;·subst m;simp
    ·simp[bne,show(j==i)=false by simpa using m]
   have r1:i∈(List.range ops.size).filter λj=>!listed.getD j false:=jzt.2 ⟨qzg.2 y,by rw[I];rfl⟩;have:=(List.length_filter_lt_length_iff_exists (p:=λj=>j !=i)).2 ⟨i,r1,by simp⟩;rw[e];omega
  have o0:∀j C,ops[j]? =some C->(listed.setIfInBounds i true).getD j false=true->∀e∈C.after,Region.binds .any e=true->(listed.setIfInBounds i true).getD e.on false=true:=by
   intro j C l hj e he f;rw[B]at hj⊢;by_cases m:j=i;·subst m;rw[ho]at l;injection l with s;subst s;rw[E e he f];simp
   ·have hj:listed.getD j false=true:=by simpa [m]using hj
    rw[h.deps j C l hj e he f];simp
  cases hf:bC vs i with|true=>
   obtain⟨C,d,v,l,hd,n0,l1,hv,n1,p0,g1,O⟩:=lM (r0 i hf);rw[ho]at l;injection l with s;subst s;have U:∀t∈o.looksAt ops,a.tmps[t]? =F.tmps[t]?:=by
    intro t ht;have h1:a.tmps[t]? =A.tmps[t]?:=by
     refine h.same t λj hj g G=>?_;rcases O t ht j (iJ hj) G with hn|⟨hc,_⟩;·obtain⟨e,he,f,rfl⟩:=kI hn;rw[E e he f]at g;cases g
     ·rw[pR hc]at hj;cases hj
    rw[h1];refine h.still t λj hj g G=>?_;have p1:j<vs.length:=by unfold ll at hj;cases R:vs[j]? with|none=>rw[R]at hj;cases hj|some x=>exact(qqi.1 R).1
    rcases O t ht j p1 G with hn|⟨_,c,hc,hn⟩;·obtain⟨e,he,f,rfl⟩:=kI hn;have:=(g1 e he f).2;rw[pR hj]at this;cases this
    ·obtain⟨e,he,f,rfl⟩:=kI hn;have:=h.deps j c hc g e he f;rw[I]at this;cases this
   obtain⟨K,T⟩:=lY (ops:=ops) o (λcs b=>Region.noSelect_spec a1 i o cs b ho) a F U;have e0:S W:=h.world.resolve_right λH=>by rw[H i hf]at I;cases I
   have hr:=s1 W e0 i o v ho hv;have J:wpAny P .any ops Q fuel (listed.setIfInBounds i true) (a.put o.dst v.2) W:=by
    refine ih _ _ _ A l0 ⟨by simp[h.size],by rw[hd];exact h.defers,by rw[hd];simp[Act.put,h.Ap],h.JZ,λt ht=>?_,h.float,λt ht=>?_,o0,Or.inl e0,?_⟩
    ·rw[hd];simp only[Act.put];by_cases n:d=t;·subst n;rw[jzi (by rw[h.Ap,h.JZ];exact l1)];exact(h.float i v d hv n0).symm
     ·rw[jql n];refine h.same t λj hj g=>?_;by_cases m:j=i;·subst m;rw[n0];intro e;injection e with e;exact n e
      ·exact ht j hj (by rw[B,g];simp[m])
    ·refine h.still t λj hj g=>ht j hj (by rw[B,g];simp)
    ·rw[Gi vs listed i hf];exact h.rest
   unfold Go.wpOp;simp only[ho];rw[T,jR n1];unfold dE at hr;split;·rename_i hw;rw[qzb hw]at hr;refine Or.inl ?_;unfold Oper.wp;rw[K,hr];exact J
   ·rename_i hw;rw[qzc hw]at hr;rw[hr];exact J|false=>
   have s0:i<vs.length:=by rw[N];exact y
   have j1:=RO s0 hf;obtain⟨C,l,i1,O,p0⟩:=Co (j0 i s0 hf);rw[ho]at l;injection l with s;subst s;have U:∀t∈o.looksAt ops,a.tmps[t]? =A.tmps[t]?:=by
    intro t ht;refine h.same t λj hj g G=>?_;rcases O t ht j (iJ hj) G with hc|hn;·rw[pR hc]at hj;cases hj
    ·obtain⟨e,he,f,rfl⟩:=kI hn;rw[E e he f]at g;cases g
   obtain⟨K,T⟩:=lY (ops:=ops) o (λcs b=>Region.noSelect_spec a1 i o cs b ho) a A U;obtain⟨k,hk⟩:=h.rest;have V:i∈Region.ready .any ops (canon vs listed):=mem_ready.2 ⟨by rw[vE _ _ _ _ M,hf,I];rfl,o,ho,λe he f=>by have t1:=i1 e he f;rw[vE _ _ _ _ oqo,E e he f];simp⟩;obtain⟨k,rfl⟩:∃q,k=q+1:=by cases k with|zero=>rw[hk.1]at V;simp at V|succ k=>exact⟨k,rfl⟩
   have hc:=hk.2 i V;have J:∀ds v D,((S D\/fA vs ops i=true)/\wpAnyS P vs ops Q S k ((canon vs listed).setIfInBounds i true) (Act.put ⟨A.tmps,ds⟩ o.dst v) D)->wpAny P .any ops Q fuel (listed.setIfInBounds i true) (Act.put ⟨a.tmps,ds⟩ o.dst v) D:=by
    intro ds v D m0;refine ih _ _ _ (Act.put ⟨A.tmps,ds⟩ o.dst v) l0 ⟨by simp[h.size],?_,?_,?_,λt ht=>?_,λj u t hj ht=>?_,λt ht=>?_,o0,m0.1.imp id (λhn j hj=>?_),k,by rw[M3 _ _ _ M];exact m0.2⟩;·cases o.dst<;>rfl
    ·cases o.dst<;>simp[Act.put,h.Ap]
    ·cases o.dst<;>simp[Act.put,h.JZ]
    ·have h1:a.tmps[t]? =A.tmps[t]?:=h.same t λj hj g=>ht j hj (by
      rw[B,g];have:j≠i:=λe=>by rw[e,hf]at hj;cases hj
      simp[this]);cases hd:o.dst with|none=>exact h1|some d=>
      simp only[Act.put];by_cases n:d=t
      ·subst n;by_cases L:d<A.tmps.size;·rw[jzi L,jzi (by rw[h.Ap];exact L)]
       ·have q1:(a.tmps.setIfInBounds d v)[d]? =none:=jzv (by rw[Array.size_setIfInBounds,h.Ap];exact Nat.le_of_not_lt L);have q2:(A.tmps.setIfInBounds d v)[d]? =none:=jzv (by rw[Array.size_setIfInBounds];exact Nat.le_of_not_lt L);rw[q1,q2]
      ·rw[jql n,jql n];exact h1
    ·have h1:=h.float j u t hj ht;cases hd:o.dst with|none=>exact h1|some d=>
      have q0:bC vs j=true:=by unfold bC;rw[hj]
      have n:d≠t:=λe=>p0 j (iJ q0) q0 d hd (by rw[ht,e]);simp only[Act.put];rw[jql n];exact h1
    ·have h1:=h.still t λj hj g=>ht j hj (by rw[B,g];simp);cases hd:o.dst with|none=>exact h1|some d=>have n:d≠t:=λe=>ht i j1 (by rw[B];simp) (by unfold bu;rw[ho];simp[hd,e]);simp only[Act.put];rw[jql n];exact h1
    ·unfold fA at hn;simp only[qqw,qzg,List.contains_iff_mem,qji,qjj]at hn;have o1:=(hn j (by rw[<-N];exact iJ hj)).resolve_left (by rw[hj];simp);have key:=Cy (ops:=ops) (p:=λk=>k=i\/listed.getD k false=true) (λk hk e he=>by unfold aft at he;cases z:ops[k]? with|none=>rw[z]at he;simp at he|some o2=>
       rw[z]at he;simp only[qjb,jzt,jjd]at he;obtain⟨Z,⟨he,f⟩,rfl⟩:=he;rcases hk with rfl|hk;·rw[ho]at z;injection z with z;subst z;exact Or.inr (E Z he f)
       ·exact Or.inr (h.deps k o2 z hk Z he f)) (i+1) [i] (λx R=>Or.inl (by simpa using R)) j o1;rw[B];rcases key with e|e;·simp[e]
     ·simp[e]
   unfold Go.wpOp at hc;simp only[ho]at hc;unfold Go.wpOp;simp only[ho];rw[T];split
   ·rename_i hw;rw[qzb hw]at hc;rcases hc with hc|⟨ha,hl⟩;·refine Or.inl ?_;unfold Oper.wp at hc⊢;rw[K];exact LB h.defers (λds v D H=>J ds v D H) (λc D H=>hQ c _ _ _ h.defers.symm H) _ hc
    ·refine Or.inr ⟨?_,hl⟩;unfold Oper.asks at ha⊢;rw[K];exact ha
   ·rename_i hw;rw[qzc hw]at hc;have:=J A.defers undef W hc;rw[<-h.defers]at this;exact this
end
theorem qy{P:Program}{Q:Exit->Act->World->Prop}{id:Nat}{l:List Oper}(vs:List Told)(S:World->Prop)(k:Nat){a0:Act}{w0:World}(hm:P.follows .mixedOrders=true)(x:∀c a n w,a.defers=n.defers->Q (.panic c) a w->Q (.panic c) n w)(u:gQ l.toArray vs a0.tmps.size=true)(hS:∀b,b.heap=w0.heap->Below w0.heap.size w0 b->S b)(h:∀(F A:Act)(b:World),A=a0->F=eF l.toArray 0 vs A->b.heap=w0.heap->Below w0.heap.size w0 b->(∀W,S W->gW P F W l vs)/\wpAnyS P vs l.toArray Q S k ((List.range l.length).map (bC vs)).toArray F b):(Code.region id l.toArray true).wp P Q a0 w0:=by
 have p:Below w0.heap.size w0 {w0 with drawn:=w0.drawn+1}:=⟨rfl,rfl,rfl,qqf _,λ_ _=>rfl⟩;obtain⟨h1,h2⟩:=h _ a0 {w0 with drawn:=w0.drawn+1} rfl rfl rfl p;have hS:=hS {w0 with drawn:=w0.drawn+1} rfl p;have m:=(qE (ops:=l.toArray) vs 0 a0);have g:∀j,(Array.replicate l.toArray.size false).getD j false=false:=λj=>by simp only[qqg,Array.getElem?_replicate];split<;>rfl
 have f:=u;unfold gQ at f;simp only[qqd]at f;refine wp_region_any hm (xx S vs (eF l.toArray 0 vs a0) (by rw[m.1];exact u) x (λW y i o v ho hv=>(h1 W y).at (i:=i) (by simpa using ho) hv) _ _ _ _ (eF l.toArray 0 vs a0) (qzi (jzy _ _) (by simp))
  ⟨by simp,m.2.symm,m.1.symm,rfl,λt ht=>?_,λj v t hj ht=>?_,λ_ _=>rfl,λj o _ hl=>(by rw[g]at hl;cases hl),Or.inl hS,k,?_⟩);·exact(kZ vs 0 a0 t λj hj=>by rw[qja];exact ht j hj (g j)).symm
 ·have s:bC vs j=true:=by unfold bC;rw[hj]
  have r:=f.2 j (iJ s);rw[qzb s]at r;obtain⟨o,d,E,ho,hd,q,B,D,_,z,_,_⟩:=lM r;rw[ht]at q;injection q with e;subst e;exact wF vs 0 a0 j t v hj (by rw[qja];exact ht) B λk hk C=>by rw[qja];exact z k (iJ hk) C
 ·have e:canon vs (Array.replicate l.toArray.size false)=((List.range l.length).map (bC vs)).toArray:=by unfold canon;congr 1;simp only[jxc,jxd];refine jqg λj _=>?_;have:=g j;simp only[jxd]at this;rw[this];simp
  rw[e];exact h2
section
variable {P:Program}{vs:List Told}{ops:Array Oper}{Q:Exit->Act->World->Prop}{S:World->Prop}{fuel:Nat}{listed:Array Bool}{a:Act}{w:World}
theorem aF(i:Nat){o:Oper}(ho:ops[i]? =some o)(hr:Region.ready .any ops listed=[i])(h:∀K:Act->World->Prop,Hid (∀b w',(S w'\/fA vs ops i=true)->wpAnyS P vs ops Q S fuel (listed.setIfInBounds i true) b w'->K b w')->if Region.wanted o (yielded ops a.tmps)=true then Oper.wp P o a w K Q else K (a.put o.dst undef) w):wpAnyS P vs ops Q S (fuel+1) listed a w:=by
 refine⟨λc=>by rw[hr]at c;simp at c,λj hj=>?_⟩;rw[hr]at hj;simp at hj;subst hj;have:=h (λb w'=>(S w'\/fA vs ops j=true)/\wpAnyS P vs ops Q S fuel (listed.setIfInBounds j true) b w') (hqh λb w' h1 h2=>⟨h1,h2⟩);unfold Go.wpOp;simp only[ho];split;·rename_i hw;rw[qzb hw]at this;exact Or.inl this
 ·rename_i hw;rw[qzc hw]at this;exact this
theorem zA(i j:Nat){o p:Oper}(ho:ops[i]? =some o)(e:ops[j]? =some p)(hr:Region.ready .any ops listed=[i,j])(h:∀K:Act->World->Prop,Hid (∀b w',(S w'\/fA vs ops i=true)->wpAnyS P vs ops Q S fuel (listed.setIfInBounds i true) b w'->K b w')->if Region.wanted o (yielded ops a.tmps)=true then Oper.wp P o a w K Q else K (a.put o.dst undef) w)(h2:∀K:Act->World->Prop,Hid (∀b w',(S w'\/fA vs ops j=true)->wpAnyS P vs ops Q S fuel (listed.setIfInBounds j true) b w'->K b w')->if Region.wanted p (yielded ops a.tmps)=true then Oper.wp P p a w K Q else K (a.put p.dst undef) w):wpAnyS P vs ops Q S (fuel+1) listed a w:=by
 refine⟨λd=>by rw[hr]at d;simp at d,λq c=>?_⟩;rw[hr]at c;simp at c;rcases c with rfl|rfl
 ·have:=h (λb w'=>(S w'\/fA vs ops q=true)/\wpAnyS P vs ops Q S fuel (listed.setIfInBounds q true) b w') (hqh λb w' h1 h2=>⟨h1,h2⟩);unfold Go.wpOp;simp only[ho];split;·rename_i hw;rw[qzb hw]at this;exact Or.inl this
  ·rename_i hw;rw[qzc hw]at this;exact this
 ·have:=h2 (λb w'=>(S w'\/fA vs ops q=true)/\wpAnyS P vs ops Q S fuel (listed.setIfInBounds q true) b w') (hqh λb w' h1 h2=>⟨h1,h2⟩);unfold Go.wpOp;simp only[e];split;·rename_i hw;rw[qzb hw]at this;exact Or.inl this
  ·rename_i hw;rw[qzc hw]at this;exact this
theorem aH(hr:Region.ready .any ops listed=[])(h:Q .normal a w):wpAnyS P vs ops Q S 0 listed a w:=⟨hr,h⟩
end
section
variable {P:Program}{F:Act}{W:World}{o:Oper}{v:Value}
theorem dE.val(h:(execOp F.eval o).run P W=.ok (.value v) W):dE P F W o none v:=by unfold dE isGo;simpa using h
theorem gW.cons{os:List Oper}{vs:List Told}{gs:Gs}(h:dE P F W o gs v)(k:gW P F W os vs):gW P F W (o::os) (some (gs,v)::vs):=⟨h,k⟩
theorem gW.pass{os:List Oper}{vs:List Told}(k:gW P F W os vs):gW P F W (o::os) (none::vs):=k
theorem gW.nil{os:List Oper}:gW P F W os []:=by cases os<;>trivial
end
def oD(ops:Array Oper)(o:Oper):Gs:=match o.guard with|none=>none|some (g,w)=>match bu ops g with|some s=>some (s,w)|none=>none
def vsD(ops:Array Oper):List Oper->List Bool->List Told|o::os,m::ms=>(if m then some (oD ops o,undef)else none)::vsD ops os ms|_,_=>[]
def yQ(ops:Array Oper)(b:List Bool)(sz:Nat):Bool:=decide (b.length=ops.size)&&gQ ops (vsD ops ops.toList b) sz
def rE(b:List Bool)(ops:Array Oper)(i:Nat):Bool:=(List.range ops.size).all λj=>!b.getD j false||(mark ops (i+1) [i]).contains j
section
variable {P:Program}{ops:Array Oper}{S:World->Prop}{Q:Act->Prop}
def mJ(P:Program)(ops:Array Oper)(S:World->Prop)(Q:Act->Prop):List Oper->List Bool->Act->Prop|o::os,m::ms,a=>if m then(if Region.wanted o (yielded ops a.tmps)=true then∃v,(∀W,S W->(execOp a.eval o).run P W=.ok (.value v) W)/\mJ P ops S Q os ms (a.put o.dst v)else mJ P ops S Q os ms (a.put o.dst undef))else mJ P ops S Q os ms a|_,_,a=>Q a
theorem aW{a:Act}(h:Q a):mJ P ops S Q [] [] a:=h
theorem aV{a:Act}{o:Oper}{os:List Oper}{ms:List Bool}(h:mJ P ops S Q os ms a):mJ P ops S Q (o::os) (false::ms) a:=h
theorem aI{a:Act}{o:Oper}{os:List Oper}{ms:List Bool}(h:∀K:Act->Prop,(∀a,mJ P ops S Q os ms a->K a)->if Region.wanted o (yielded ops a.tmps)=true then∃v,(∀W,S W->(execOp a.eval o).run P W=.ok (.value v) W)/\K (a.put o.dst v)else K (a.put o.dst undef)):mJ P ops S Q (o::os) (true::ms) a:=h _ (λ_ h=>h)
def shape(vs:List Told):List (Option Gs):=vs.map (Option.map Prod.fst)
theorem vT:∀(os:List Oper)(ms:List Bool)(i:Nat)(a:Act),os.length=ms.length->(∀(j:Nat)(o:Oper),os[j]? =some o->ops[i+j]? =some o)->(∀(j:Nat)(o:Oper),os[j]? =some o->ms[j]? =some true->jT ops o (oD ops o)=true)->mJ P ops S Q os ms a-> ∃vs:List Told,shape vs=shape (vsD ops os ms)/\Q (eF ops i vs a)/\∀(j:Nat)(o:Oper)(v:Gs×Value),os[j]? =some o->vs[j]? =some (some v)->jT ops o v.1=true/\∀W,S W->dE P (eF ops i (vs.take j) a) W o v.1 v.2
 |[],[],i,a,_,_,_,h=>⟨[],rfl,h,λj o v e=>by simp at e⟩|[],_::_,_,_,e,_,_,_=>by simp at e|_::_,[],_,_,e,_,_,_=>by simp at e|o::os,m::ms,i,a,hl,ho,g,h=>by
  have q:ops[i]? =some o:=by simpa using ho 0 o rfl
  have hd:bu ops i=o.dst:=by unfold bu;rw[q];rfl
  have n:os.length=ms.length:=by simpa using hl
  have p:∀(j:Nat)(b:Oper),os[j]? =some b->ops[i+1+j]? =some b:=λj b e=>by have:=ho (j+1) b (by simpa using e);rw[show i+1+j=i+(j+1)by omega];exact this
  have k:∀(j:Nat)(b:Oper),os[j]? =some b->ms[j]? =some true->jT ops b (oD ops b)=true:=λj b e c=>g (j+1) b (by simpa using e) (by simpa using c);cases m with
  |false=>
   obtain⟨vs,h1,h2,h3⟩:=vT os ms (i+1) a n p k h;refine⟨none::vs,?_,h2,λj b v d c=>?_⟩;·simp only[shape,vsD,jqw,qzc Bool.false_ne_true]at h1⊢;rw[h1]
   ·cases j with|zero=>simp at c|succ j=>exact h3 j b v (by simpa using d) (by simpa using c)
  |true=>
   have l:=g 0 o rfl rfl;have key:∀(v:Value),(∀W,S W->dE P a W o (oD ops o) v)->mJ P ops S Q os ms (a.put o.dst v)->∃vs:List Told,shape vs=shape (vsD ops (o::os) (true::ms))/\Q (eF ops i vs a)/\∀(j:Nat)(b:Oper)(v:Gs×Value),(o::os)[j]? =some b->vs[j]? =some (some v)->jT ops b v.1=true/\∀W,S W->dE P (eF ops i (vs.take j) a) W b v.1 v.2:=λv r hw=>by obtain⟨vs,h1,h2,h3⟩:=vT os ms (i+1) (a.put o.dst v) n p k hw;exact⟨some (oD ops o,v)::vs,by simp only[shape,vsD,jqw,jzo]at h1⊢;rw[h1];rfl,by show Q (eF ops (i+1) vs (a.put (bu ops i) v));rw[hd];exact h2,λj b u d c=>by cases j with|zero=>simp at d c;subst d;subst c;exact⟨l,r⟩|succ j=>have:=h3 j b u (by simpa using d) (by simpa using c);refine⟨this.1,λW f=>?_⟩;show dE P (eF ops (i+1) (vs.take j) (a.put (bu ops i) v)) W b u.1 u.2;rw[hd];exact this.2 W f⟩
   have hw:=jR (F:=a) l;unfold mJ at h;simp only[jzo]at h;split at h;·rename_i t;obtain⟨v,h1,h2⟩:=h;exact key v (λW f=>by unfold dE;rw[<-hw,qzb t];exact h1 W f) h2
   ·rename_i s;exact key undef (λW _=>by unfold dE;rw[<-hw,qzc s]) h
theorem xW{vs us:List Told}(h:shape vs=shape us)(j:Nat):(vs[j]?).map (Option.map Prod.fst)=(us[j]?).map (Option.map Prod.fst):=by have:=jqi (λl:List (Option Gs)=>l[j]?) h;simpa [shape]using this
theorem uQ{vs us:List Told}(h:shape vs=shape us):vs.length=us.length:=by have:=jqi List.length h;simpa [shape]using this
theorem xU{vs us:List Told}(h:shape vs=shape us)(j:Nat):bC vs j=bC us j:=by have:=xW h j;unfold bC;cases hv:vs[j]? with
 |none=>cases hu:us[j]? with|none=>rfl|some u=>rw[hv,hu]at this;simp at this
 |some v=>cases hu:us[j]? with|none=>rw[hv,hu]at this;simp at this|some u=>rw[hv,hu]at this;cases v<;>cases u<;>simp at this<;>rfl
theorem PL{vs us:List Told}(h:shape vs=shape us)(j:Nat):ll vs j=ll us j:=by have:=xW h j;unfold ll;cases hv:vs[j]? with
 |none=>cases hu:us[j]? with|none=>rfl|some u=>rw[hv,hu]at this;simp at this
 |some v=>cases hu:us[j]? with|none=>rw[hv,hu]at this;simp at this|some u=>rw[hv,hu]at this;cases v<;>cases u<;>simp at this<;>rfl
theorem Ch{vs us:List Told}(h:shape vs=shape us)(sz:Nat):gQ ops vs sz=gQ ops us sz:=by
 have c:bC vs=bC us:=funext (xU h);have e:ll vs=ll us:=funext (PL h);have d:=uQ h;have f:∀i,tK ops vs sz i=tK ops us sz i:=λi=>by unfold tK;cases hi:ops[i]? with|none=>rfl|some o=>have b:=xW h i;simp only[c,e,d];congr 1;cases hv:vs[i]? with
   |none=>cases hu:us[i]? with|none=>rfl|some u=>rw[hv,hu]at b;simp at b
   |some v=>cases hu:us[i]? with|none=>rw[hv,hu]at b;simp at b|some u=>
     rw[hv,hu]at b;cases v<;>cases u<;>simp at b;·rfl
     ·simp only[b]
 have g:∀i,yH ops vs i=yH ops us i:=λi=>by unfold yH;simp only[c,e,d]
 unfold gQ;simp only[c,d,f,g]
theorem uB:∀(os:List Oper)(ms:List Bool)(j:Nat),os.length=ms.length->bC (vsD ops os ms) j=ms.getD j false|[],[],j,_=>by simp[vsD,bC]|[],_::_,_,h=>by simp at h|_::_,[],_,h=>by simp at h|o::os,m::ms,0,_=>by cases m<;>simp[vsD,bC]|o::os,m::ms,j+1,h=>by have:=uB os ms j (by simpa using h);simpa [vsD,bC]using this
theorem qK:∀(vs:List Told)(i j:Nat)(a:Act),eF ops i vs a=eF ops (i+min j vs.length) (vs.drop j) (eF ops i (vs.take j) a)|[],i,j,a=>by simp[eF]|v::vs,i,0,a=>by simp[eF]|none::vs,i,j+1,a=>by have:=qK vs (i+1) j a;simp only[List.take_succ_cons,List.drop_succ_cons,eF,qzv];rw[this];congr 1;omega|some v::vs,i,j+1,a=>by have:=qK vs (i+1) j (a.put (bu ops i) v.2);simp only[List.take_succ_cons,List.drop_succ_cons,eF,qzv];rw[this];congr 1;omega
theorem wK{F:Act}{W:World}:∀(os:List Oper)(vs:List Told),(∀(j:Nat)(o:Oper)(v:Gs×Value),os[j]? =some o->vs[j]? =some (some v)->dE P F W o v.1 v.2)->gW P F W os vs|[],[],_=>trivial|[],_::_,_=>trivial|_::_,[],_=>trivial|o::os,none::vs,h=>wK os vs λj o v b c=>h (j+1) o v (by simpa using b) (by simpa using c)|o::os,some v::vs,h=>⟨h 0 o v rfl rfl,wK os vs λj o v b c=>h (j+1) o v (by simpa using b) (by simpa using c)⟩
end
theorem wp_region_draw{P:Program}{Q:Exit->Act->World->Prop}{id:Nat}{l:List Oper}(d:List Bool)(S:World->Prop)(k:Nat){a0:Act}{w0:World}(hm:P.follows .mixedOrders=true)(T:∀c a B w,a.defers=B.defers->Q (.panic c) a w->Q (.panic c) B w)(m0:yQ l.toArray d a0.tmps.size=true)(hS:∀f,f.heap=w0.heap->Below w0.heap.size w0 f->S f)(h:mJ P l.toArray S (λF=>∀(vs:List Told)(f:World),Hid (∀i,fA vs l.toArray i=rE d l.toArray i)->f.heap=w0.heap->Below w0.heap.size w0 f->wpAnyS P vs l.toArray Q S k d.toArray F f) l d a0):(Code.region id l.toArray true).wp P Q a0 w0:=by
 have hk:=m0;unfold yQ at hk;simp only[qqn,qqu,jxd]at hk;obtain⟨j0,K⟩:=hk;have p:l.length=d.length:=j0.symm;have z:=K;unfold gQ at z;simp only[qqd]at z;obtain⟨⟨o0,_⟩,n0⟩:=z;have G:(vsD l.toArray l d).length=l.length:=by
  have:∀(os:List Oper)(ms:List Bool),os.length=ms.length->(vsD l.toArray os ms).length=os.length:=by intro os;induction os with
   |nil=>intro ms h;cases ms with|nil=>rfl|cons=>simp at h
   |cons o os ih=>intro ms h;cases ms with|nil=>simp at h|cons m ms=>simp[vsD,ih ms (by simpa using h)]
  exact this l d p
 have d0:∀(j:Nat)(o:Oper),l[j]? =some o->d[j]? =some true->jT l.toArray o (oD l.toArray o)=true:=λj o ho I=>by
  have hj:=(qqi.1 ho).1;have h1:=n0 j (by rw[G];exact hj);have n:bC (vsD l.toArray l d) j=true:=by rw[uB l d j p,qqm,I];rfl
  rw[qzb n]at h1;have hv:∀(os:List Oper)(ms:List Bool)(j:Nat)(o:Oper),os[j]? =some o->ms[j]? =some true->(vsD l.toArray os ms)[j]? =some (some (oD l.toArray o,undef)):=by intro os;induction os with|nil=>intro ms j o h;simp at h|cons o' os ih=>intro ms j o h h2;cases ms with|nil=>simp at h2|cons m ms=>cases j with|zero=>simp at h h2;subst h;subst h2;simp[vsD]|succ j=>simpa [vsD]using ih ms j o (by simpa using h) (by simpa using h2)
  have hv:=hv l d j o ho I;unfold tK at h1;have u:l.toArray[j]? =some o:=by simpa using ho
  rw[u]at h1;simp only[hv,qqn]at h1;exact h1.2
 obtain⟨vs,h1,h2,h3⟩:=vT l d 0 a0 p (λj o e=>by simpa using e) d0 h;have L:gQ l.toArray vs a0.tmps.size=true:=by rw[Ch h1];simpa using K
 have n:∀j,bC vs j=d.getD j false:=λj=>by rw[xU h1,uB l d j p]
 have N:vs.length=l.length:=by rw[uQ h1,G]
 have p0:∀(o:Oper),o∈l->∀cs b,o.op≠.select cs b:=λo ho=>by obtain⟨j,hj⟩:=jqr.1 ho;exact λcs b=>Region.noSelect_spec o0 j o cs b (by simpa using hj)
 have l0:∀i,fA vs l.toArray i=rE d l.toArray i:=λi=>by unfold fA rE;have:bC vs=λj=>d.getD j false:=funext n;rw[this]
 refine qy vs S k hm T L hS λF A f E hF X V=>⟨λW U=>?_,?_⟩
 ·subst E;refine wK l vs λj o v g r=>?_;have C:=(h3 j o v g r).2 W U;have hj:=(qqi.1 g).1;have e0:bC vs j=true:=by unfold bC;rw[r]
  have x:=L;unfold gQ at x;simp only[qqd]at x;have D:=x.2 j (by rw[N];exact hj);rw[qzb e0]at D;obtain⟨o',_,v',f1,_,_,_,_,_,_,O,R⟩:=lM D;have u:l.toArray[j]? =some o:=by simpa using g
  rw[u]at f1;obtain rfl:=jzp f1;have M:=qK (ops:=l.toArray) vs 0 j A;rw[qja,jzd (by rw[N];omega)]at M;have Y:∀t∈o.looksAt l.toArray,(eF l.toArray 0 (vs.take j) A).tmps[t]? =F.tmps[t]?:=λt ht=>by
   rw[hF,M];refine(kZ _ _ _ t λq y hd=>?_).symm;have J:bC vs (j+q)=true:=by unfold bC at y⊢;rw[jzq]at y;exact y
   rcases R t ht (j+q) (iJ J) (by simpa using hd)with s|s;·obtain⟨e,he,Z,q0⟩:=kI s;have:=(O e he Z).1;omega
   ·have:=pR s.1;rw[J]at this;cases this
  obtain⟨q1,q2⟩:=lY (ops:=l.toArray) o (p0 o (qqr g)) _ _ Y;have H:=(h3 j o v g r).1;have w1:=jR (F:=eF l.toArray 0 (vs.take j) A) H;have w2:=jR (F:=F) H;unfold dE at C⊢;rw[<-w2,<-q2,w1];rw[<-q1];exact C
 ·have i0:((List.range l.length).map (bC vs)).toArray=d.toArray:=by
   congr 1;apply jqq;intro j;rw[qqp];by_cases hj:j<l.length;·rw[qqz hj,jqb,n,qqm,qqh oqo];rfl
   ·rw[qza (by simp;omega),qza oqo];rfl
  rw[i0,hF];subst E;exact h2 vs f (hqh l0) X V
