/- Joint text: HReg, HChn. By an AI agent. -/
import Derived.Test.YtgdibfnpkcdiiaaGreatDoorSzz
import Derived.Orders
import Derived.Below
import Derived.Tactics2
import Derived.Lib.Hide
set_option linter.all false
set_option maxRecDepth 100000
set_option maxHeartbeats 64000000
namespace Go.Proofs.YtgdibfnpkcdiiaaGreatDoor
open Go Go.RowKit
def aW(ops:Array Oper)(i:Nat):Option Nat:=(ops[i]?).bind (·.dst)
def needs(o:Oper)(j:Nat):Bool:=o.after.any λe=>Region.binds .any e&&e.on==j
def ER(ops:Array Oper)(n sz i:Nat):Bool:=match ops[i]? with|none=>false|some o=>(match o.dst with|some d=>decide (d<sz)&&(List.range n).all (λj=>j==i||aW ops j !=some d)|none=>false)&&o.after.all (λe=>!Region.binds .any e||decide (e.on<i))&&(o.looksAt ops).all (λt=>(List.range n).all λj=>aW ops j !=some t||needs o j)
def Gt(ops:Array Oper)(n:Nat):Bool:=match ops[n]? with|some o=>(List.range n).all (needs o)&&o.after.all (λe=>!Region.binds .any e||decide (e.on<n))|none=>true
def yg(ops:Array Oper)(n sz:Nat):Bool:=Region.noSelect ops&&decide (n<=ops.size)&&decide (ops.size<=n+1)&&(List.range n).all (ER ops n sz)&&Gt ops n
def mD(ops:Array Oper):Nat->List Value->Act->Act|_,[],a=>a|i,v::r,a=>mD ops (i+1) r (a.put (aW ops i) v)
section
variable {P:Program}{ops:Array Oper}{Q:Exit->Act->World->Prop}
abbrev Gs:=Option (Nat×Bool)
def isGo(F:Act)(gs:Gs):Bool:=match gs with|none=>true|some (s,c)=>match F.tmps[s]? with|some (.bool b)=>b==c|_=>false
def kT(ops:Array Oper)(o:Oper)(gs:Gs):Bool:=match o.guard,gs with|none,none=>true|some (g,w),some (s,w')=>aW ops g==some s&&w==w'|_,_=>false
def kK{ops:Array Oper}{F:Act}{o:Oper}{gs:Gs}(h:kT ops o gs=true):Region.wanted o (yielded ops F.tmps)=isGo F gs:=by unfold kT at h;unfold Region.wanted isGo;cases b:o.guard with
 |none=>rw[b]at h;cases gs with|none=>rfl|some x=>cases h
 |some c=>obtain⟨g,w⟩:=c;rw[b]at h;cases gs with|none=>cases h|some x=>obtain⟨s,w'⟩:=x;simp only[qqn,jzb]at h;obtain⟨h1,rfl⟩:=h;unfold aW at h1;simp only[yielded,h1,Option.bind_some];cases F.tmps[s]? with|none=>rfl|some u=>cases u<;>rfl
def bu(P:Program)(F:Act)(W:World)(o:Oper)(gs:Gs)(v:Value):Prop:=if isGo F gs=true then match(execOp F.eval o).run P W with| .ok (.value u) b=>u=v/\Below W.heap.size W b| .ok .skip b=>undef=v/\Below W.heap.size W b| .ok (.enter f args) b=>Calls P f args b (λe c=>e=.returned v/\Below W.heap.size W c)|_=>False else undef=v
def nC(o:Oper)(hs:∀cs b,o.op≠.select cs b)(a b:Act)(h:∀t∈o.looksAt ops,a.tmps[t]? =b.tmps[t]?):execOp a.eval o=execOp b.eval o/\Region.wanted o (yielded ops a.tmps)=Region.wanted o (yielded ops b.tmps):=by
 refine⟨execOp_congr o hs λx i=>?_,?_⟩;·cases x with|tmp t=>have:=h t (List.mem_append_left _ (List.mem_filterMap.2 ⟨.tmp t,by simpa using i,rfl⟩));show a.tmps.getD t undef=b.tmps.getD t undef;rw[qqg,qqg,this]|const v=>rfl|global g=>rfl|func f=>rfl
 ·unfold Region.wanted;cases e:o.guard with|none=>rfl|some c=>obtain⟨g,j⟩:=c;simp only;congr 1;unfold yielded;cases hd:(ops[g]?).bind (·.dst)with|none=>rfl|some d=>have:=h d (List.mem_append_right _ (by rw[e];simp[hd]));simp[this]
def bu.wpOp{F a:Act}{W:World}{i:Nat}{o:Oper}{gs:Gs}{v:Value}(hi:ops[i]? =some o)(hs:∀cs b,o.op≠.select cs b)(m:kT ops o gs=true)(h:bu P F W o gs v)(l:∀t∈o.looksAt ops,a.tmps[t]? =F.tmps[t]?){K:Act->World->Prop}(d:∀g,Below W.heap.size W g->K (a.put o.dst v) g):wpOp P ops Q i K a W:=by
 obtain⟨j,k⟩:=nC (ops:=ops) o hs a F l;unfold Go.wpOp;simp only[hi];rw[k,kK m];unfold bu at h;split;·rename_i hw;rw[qzb hw]at h;refine Or.inl ?_;unfold Oper.wp;rw[j];revert h;cases(execOp F.eval o).run P W with
  |ok x g=>cases x with|value u=>rintro⟨rfl,c⟩;exact d _ c|skip=>rintro⟨rfl,c⟩;exact d _ c|enter f args=>intro h;refine Calls.mono h ?_;rintro e n⟨rfl,c⟩;exact d _ c|_=>intro h;exact h.elim
  |halt=>intro h;exact h.elim
 ·rename_i hw;rw[qzc hw]at h;subst h;exact d _ (qjk _ _)
def lay_size:∀(b:List Value)(i:Nat)(a:Act),(mD ops i b a).tmps.size=a.tmps.size/\(mD ops i b a).defers=a.defers|[],_,_=>⟨rfl,rfl⟩|v::r,i,a=>by have ih:=lay_size r (i+1) (a.put (aW ops i) v);rw[mD,ih.1,ih.2];cases aW ops i<;>simp[Act.put]
def xP:∀(b:List Value)(i:Nat)(a:Act)(t:Nat),(∀j,j<b.length->aW ops (i+j)≠some t)->(mD ops i b a).tmps[t]? =a.tmps[t]? |[],_,_,_,_=>rfl|v::r,i,a,t,h=>by rw[mD,xP r (i+1) _ t (λj hj=>by have:=h (j+1) (by simp;omega);rwa[show i+1+j=i+(j+1)by omega])];have h0:=h 0 (by simp);rw[qzz]at h0;cases hd:aW ops i with|none=>rfl|some d=>simp only[Act.put];rw[jqt (λe=>h0 (by rw[hd,e]))]
def EI:∀(b:List Value)(i:Nat)(a:Act)(j t:Nat)(v:Value),b[j]? =some v->aW ops (i+j)=some t->t<a.tmps.size->(∀k,k<b.length->k≠j->aW ops (i+k)≠some t)->(mD ops i b a).tmps[t]? =some v|[],_,_,_,_,_,h,_,_,_=>by simp at h|u::r,i,a,0,t,v,h,hd,ht,hn=>by simp at h;subst h;rw[mD,xP r (i+1) _ t (λk hk=>by have:=hn (k+1) (by simp;omega) oqo;rwa[show i+1+k=i+(k+1)by omega])];rw[qzz]at hd;rw[hd];simp only[Act.put];rw[jzn ht]|u::r,i,a,j+1,t,v,h,hd,ht,hn=>by rw[mD];refine EI r (i+1) _ j t v (by simpa using h) (by rwa[show i+1+j=i+(j+1)by omega]) ?_ (λk hk c=>by have:=hn (k+1) (by simp;omega) oqo;rwa[show i+1+k=i+(k+1)by omega]);cases aW ops i<;>simp[Act.put,ht]
def o9{n sz i:Nat}(h:ER ops n sz i=true):∃o d,ops[i]? =some o/\o.dst=some d/\aW ops i=some d/\d<sz/\(∀j,j<n->j≠i->aW ops j≠some d)/\(∀e∈o.after,Region.binds .any e=true->e.on<i)/\∀t∈o.looksAt ops,∀j,j<n->aW ops j=some t->∃e∈o.after,Region.binds .any e=true/\e.on=j:=by unfold ER at h;cases ho:ops[i]? with|none=>rw[ho]at h;cases h|some o=>rw[ho]at h;simp only[qqn]at h;obtain⟨⟨h1,h2⟩,h3⟩:=h;cases hd:o.dst with|none=>rw[hd]at h1;cases h1|some d=>
   rw[hd]at h1;simp only[qqd,qji,jzb,jxw]at h1;rw[jjd]at h2;simp only[qqw,qzg,qji,jxw]at h3;refine⟨o,d,rfl,hd,by unfold aW;rw[ho];exact hd,h1.1,λj hj g=>(h1.2 j hj).resolve_left g,λe he c=>?_,λt ht j hj f=>?_⟩;·have:=h2 e he;rw[c]at this;simpa using this
   ·have:=(h3 t ht j hj).resolve_left (λb=>b f);unfold needs at this;rw[<-Array.any_toList,jze]at this;obtain⟨e,he,b⟩:=this;have he:e∈o.after:=jjm.1 he;simp only[qqn,jzb]at b;exact⟨e,he,b.1,b.2⟩
structure Laid(ops:Array Oper)(n:Nat)(F a0:Act)(L:Nat->Bool)(a:Act):Prop where
 defers:a.defers=F.defers
 size:a.tmps.size=F.tmps.size
 yes:∀j t,j<n->L j=true->aW ops j=some t->a.tmps[t]? =F.tmps[t]?
 no:∀t,(∀j,j<n->L j=true->aW ops j≠some t)->a.tmps[t]? =a0.tmps[t]?
def Laid.all{n:Nat}{F a0 a:Act}{L:Nat->Bool}(h:Laid ops n F a0 L a)(hF:∀t,(∀j,j<n->aW ops j≠some t)->F.tmps[t]? =a0.tmps[t]?)(c:∀j,j<n->L j=true):a=F:=by obtain⟨h1,h2,h3,b⟩:=h;cases a with|mk d e=>cases F with|mk f df=>
 simp only at h1 h2;subst h1;congr 1;refine Array.ext_getElem? λt=>?_;by_cases hd:∃j,j<n/\aW ops j=some t;·obtain⟨j,hj,hd⟩:=hd;exact h3 j t hj (c j hj) hd
 ·have hn:∀j,j<n->aW ops j≠some t:=λj hj he=>hd ⟨j,hj,he⟩;have:=hF t hn;rw[show d[t]? =a0.tmps[t]? from b t (λj hj _=>hn j hj),<-this]
def Laid.put{n i sz:Nat}{F a0 a:Act}{L k:Nat->Bool}(h:Laid ops n F a0 L a)(r:ER ops n sz i=true)(s:a.tmps.size=sz)(hi:i<n)(b:∀j,k j=(j==i||L j)){o:Oper}(ho:ops[i]? =some o){v:Value}(hv:∀t,aW ops i=some t->F.tmps[t]? =some v):Laid ops n F a0 k (a.put o.dst v):=by
 obtain⟨u,d,l,hd,c,q,p,_,_⟩:=o9 r;rw[ho]at l;injection l with e;subst e;rw[hd];refine⟨h.defers,by simp[Act.put,h.size],λj t hj hl ht=>?_,λt ht=>?_⟩
 ·by_cases g:j=i
  ·subst g;rw[c]at ht;injection ht with e;subst e;simp only[Act.put];have m:d<a.tmps.size:=by rw[s];exact q
   rw[jzn m,hv _ c]
  ·have f:d≠t:=λe=>p j hj g (by rw[e];exact ht);simp only[Act.put];rw[jqt f];exact h.yes j t hj (by rw[b]at hl;simpa [g]using hl) ht
 ·have f:d≠t:=λe=>ht i hi (by rw[b];simp) (by rw[c,e]);simp only[Act.put];rw[jqt f];exact h.no t λj hj hl=>ht j hj (by rw[b,hl];simp)
def Laid.agree{n i sz:Nat}{F a0 a:Act}{L:Nat->Bool}(h:Laid ops n F a0 L a)(l:ER ops n sz i=true)(hF:∀t,(∀j,j<n->aW ops j≠some t)->F.tmps[t]? =a0.tmps[t]?){o:Oper}(ho:ops[i]? =some o)(f:∀e∈o.after,Region.binds .any e=true->L e.on=true):∀t∈o.looksAt ops,a.tmps[t]? =F.tmps[t]?:=by
 obtain⟨s,d,c,hd,p,r,q,m,k⟩:=o9 l;rw[ho]at c;injection c with e;subst e;intro t ht;by_cases hw:∃j,j<n/\aW ops j=some t;·obtain⟨j,hj,b⟩:=hw;obtain⟨e,he,g,rfl⟩:=k t ht j hj b;exact h.yes _ t hj (f e he g) b
 ·have hn:∀j,j<n->aW ops j≠some t:=λj hj he=>hw ⟨j,hj,he⟩;rw[hF t hn];exact h.no t λj hj _=>hn j hj
def eZ(P:Program)(F:Act)(W:World):List Oper->List (Gs×Value)->Prop|o::os,v::vs=>bu P F W o v.1 v.2/\eZ P F W os vs|_,_=>True
def eZ.nil{F:Act}{W:World}{os:List Oper}:eZ P F W os []:=by cases os<;>trivial
def eZ.cons{F:Act}{W:World}{os:List Oper}{vs:List (Gs×Value)}{o:Oper}{gs:Gs}{v:Value}(h:bu P F W o gs v)(k:eZ P F W os vs):eZ P F W (o::os) ((gs,v)::vs):=⟨h,k⟩
def eZ.at{F:Act}{W:World}:∀{os:List Oper}{vs:List (Gs×Value)}{i:Nat}{o:Oper}{v:Gs×Value},eZ P F W os vs->os[i]? =some o->vs[i]? =some v->bu P F W o v.1 v.2|[],_,_,_,_,_,h,_=>by simp at h|_::_,[],_,_,_,_,_,h=>by simp at h|o::os,v::vs,0,_,_,hr,h,k=>by simp at h k;subst h k;exact hr.1|o::os,v::vs,i+1,_,_,hr,h,k=>eZ.at (i:=i) hr.2 (by simpa using h) (by simpa using k)
def xy(ops:Array Oper):List Oper->List (Gs×Value)->Bool|o::os,v::vs=>kT ops o v.1&&xy ops os vs|_,_=>true
def Ig:∀{os:List Oper}{vs:List (Gs×Value)}{i:Nat}{o:Oper}{v:Gs×Value},xy ops os vs=true->os[i]? =some o->vs[i]? =some v->kT ops o v.1=true|[],_,_,_,_,_,h,_=>by simp at h|_::_,[],_,_,_,_,_,h=>by simp at h|o::os,v::vs,0,_,_,hr,h,k=>by simp at h k;subst h k;rw[xy,qqn]at hr;exact hr.1|o::os,v::vs,i+1,_,_,hr,h,k=>by rw[xy,qqn]at hr;exact Ig (i:=i) hr.2 (by simpa using h) (by simpa using k)
def Ml(n:Nat)(F a0:Act)(w0:World)(u:List Value)(hn:u.length=n)(p0:yg ops n a0.tmps.size=true)(hF:F=mD ops 0 u a0)(s0:∀W,Below w0.heap.size w0 W->∀(i:Nat)(o:Oper)(v:Value),ops[i]? =some o->u[i]? =some v->∃gs,kT ops o gs=true/\bu P F W o gs v)(e0:∀W,Below w0.heap.size w0 W->wpList P ops Q (ops.toList.drop n) F W): ∀(fuel:Nat)(listed:Array Bool)(a:Act)(w:World),listed.size=ops.size->(∀j,n<=j->j<ops.size->listed.getD j true=false)->((List.range ops.size).filter λj=>!listed.getD j true).length<=fuel->Below w0.heap.size w0 w->Laid ops n F a0 (λj=>listed.getD j false) a->wpAny P .any ops Q fuel listed a w:=by
 have hk:=p0;unfold yg at hk;simp only[qqd]at hk;obtain⟨⟨⟨⟨x0,a1⟩,y0⟩,M⟩,l⟩:=hk;have E:∀t,(∀j,j<n->aW ops j≠some t)->F.tmps[t]? =a0.tmps[t]?:=λt ht=>by rw[hF];exact xP u 0 a0 t (λj hj=>by rw[qja];exact ht j oqo)
 have R:F.tmps.size=a0.tmps.size:=by rw[hF];exact(lay_size u 0 a0).1
 have same:∀(listed:Array Bool)(j:Nat),j<listed.size->listed.getD j false=listed.getD j true:=by intro listed j hj;simp[hj]
 have r0:∀(listed:Array Bool),listed.size=ops.size->∀m,m<=n->(∀j,j<m->listed.getD j false=true\/j∉Region.ready .any ops listed)->∀j,j<m->listed.getD j false=true:=by intro listed f m hm h j;induction j using Nat.strongRecOn with|ind j ih=>
   intro hj;rcases h j hj with h|h;·exact h
   ·cases hl:listed.getD j false with|true=>rfl|false=>exfalso;obtain⟨o,d,ho,_,_,_,_,H,_⟩:=o9 (M j oqo);refine h (mem_ready.2 ⟨by rw[<-same listed j oqo];exact hl,o,ho,λe he c=>ih e.on (H e he c) (by have:=H e he c;omega)⟩)
 have done:∀(listed:Array Bool)(a:Act)(w:World),listed.size=ops.size->(∀j,n<=j->j<ops.size->listed.getD j true=false)->Below w0.heap.size w0 w->Laid ops n F a0 (λj=>listed.getD j false) a->(∀j,j<n->listed.getD j false=true)->∀fuel,ops.size-n<=fuel->wpAny P .any ops Q fuel listed a w:=by
  intro listed a w f q c hl g fuel J;have T:a=F:=hl.all E g;subst T;have hf:=e0 w c;by_cases d1:n=ops.size
  ·have hr:Region.ready .any ops listed=[]:=by cases hr:Region.ready .any ops listed with|nil=>rfl|cons i r=>
     have hi:i∈Region.ready .any ops listed:=by rw[hr];simp
     obtain⟨h0,o,ho,_⟩:=mem_ready.1 hi;have s:=(qqs.1 ho).1;have:=g i oqo;rw[same listed i oqo,h0]at this;cases this
   have hd:ops.toList.drop n=[]:=jjg (by simp;omega);rw[hd]at hf;cases fuel with|zero=>exact⟨hr,hf⟩|succ fuel=>exact⟨λ_=>hf,λi hi=>by rw[hr]at hi;simp at hi⟩
  ·have i1:ops.size=n+1:=by omega
   obtain⟨fuel,rfl⟩:∃k,fuel=k+1:=⟨fuel-1,by omega⟩;have B:n<ops.size:=oqo;have C:ops[n]? =some ops[n]:=jqi B;have hd:ops.toList.drop n=[ops[n]]:=by rw[jqq (by simpa using B)];rw[jjg (by simp;omega)];simp
   rw[hd]at hf;unfold Gt at l;rw[C]at l;simp only[qqn,qqw,qzg,jjd]at l;have K:n∈Region.ready .any ops listed:=mem_ready.2 ⟨q n (qqf _) B,_,C,λe he c=>g _ (by have:=l.2 e he;rw[c]at this;simpa using this)⟩;refine⟨λhr=>by rw[hr]at K;simp at K,λi hi=>?_⟩;have y:i=n:=by
    obtain⟨h0,o,ho,_⟩:=mem_ready.1 hi;have s:=(qqs.1 ho).1;rcases Nat.lt_or_ge i n with h|h;·have:=g i h;rw[same listed i oqo,h0]at this;cases this
    ·omega
   subst y;have q0:wpOp P ops Q i (wpList P ops Q []) a w:=by unfold Go.wpOp;rw[C];exact hf
   refine wpOp_mono (λO w' A=>?_) q0;have A:Q .normal O w':=A;have N:Region.ready .any ops (listed.setIfInBounds i true)=[]:=by cases hr:Region.ready .any ops (listed.setIfInBounds i true)with|nil=>rfl|cons k r=>
     have hk:k∈Region.ready .any ops (listed.setIfInBounds i true):=by rw[hr];simp
     obtain⟨h0,o,ho,_⟩:=mem_ready.1 hk;have s:=(qqs.1 ho).1;by_cases z:i=k;·subst z;simp[f,s]at h0
     ·rw[getD_set_ne true z]at h0;have:=g k oqo;rw[same listed k oqo,h0]at this;cases this
   cases fuel with|zero=>exact⟨N,A⟩|succ fuel=>exact⟨λ_=>A,λk hk=>by rw[N]at hk;simp at hk⟩
 intro fuel;induction fuel with
 |zero=>
  intro listed a w f q J c hl;have L:∀j,j<ops.size->listed.getD j true=true:=λj hj=>by cases x:listed.getD j true with|true=>rfl|false=>have:j∈(List.range ops.size).filter λj=>!listed.getD j true:=jxb.2 ⟨qzg.2 hj,by simp[x]⟩;have:=List.length_pos_of_mem this;omega
  refine done listed a w f q c hl (λj hj=>by rw[same listed j oqo];exact L j oqo) 0 ?_;rcases Nat.lt_or_ge n ops.size with h|h;·have h1:=q n (qqf _) h;have h2:=L n h;rw[h1]at h2;cases h2
  ·omega|succ fuel ih=>
  intro listed a w f q J c hl;by_cases g:∀j,j<n->listed.getD j false=true;·exact done listed a w f q c hl g (fuel+1) oqo
  ·refine⟨λhr=>?_,λi hi=>?_⟩;·exfalso;exact g (r0 listed f n (qqf _) (λj hj=>Or.inr (by rw[hr];simp)))
   ·obtain⟨h0,o,ho,G⟩:=mem_ready.1 hi;have s:=(qqs.1 ho).1;have y:i<n:=by
     rcases Nat.lt_or_ge i n with h|h;·exact h
     ·exfalso;obtain rfl:i=n:=oqo;refine g λj hj=>?_;unfold Gt at l;rw[ho]at l;simp only[qqn,qqw,qzg]at l;have:=l.1 j hj;unfold needs at this;rw[<-Array.any_toList,jze]at this;obtain⟨e,he,x⟩:=this;have he:e∈o.after:=jjm.1 he;simp only[qqn,jzb]at x;obtain⟨l0,rfl⟩:=x;exact G e he l0
    obtain⟨v,hv⟩:∃v,u[i]? =some v:=⟨_,qqh oqo⟩;have D:=M i y;have U:=hl.agree D E ho (λe he X=>G e he X);obtain⟨gs,i0,j0⟩:=s0 w c i o v ho hv;refine bu.wpOp ho (λcs b=>Region.noSelect_spec x0 i o cs b ho) i0 j0 U (λW' V=>?_);obtain⟨o',d,e1,hd,I,d0,Z,_,_⟩:=o9 D;have Y:((List.range ops.size).filter λj=>!(listed.setIfInBounds i true).getD j true).length<=fuel:=by
     have g1:((List.range ops.size).filter λj=>!(listed.setIfInBounds i true).getD j true).length<((List.range ops.size).filter λj=>!listed.getD j true).length:=by
      have o0:i∈(List.range ops.size).filter λj=>!listed.getD j true:=jxb.2 ⟨qzg.2 s,by simp[h0]⟩;have e:((List.range ops.size).filter λj=>!(listed.setIfInBounds i true).getD j true)=((List.range ops.size).filter λj=>!listed.getD j true).filter (λj=>j !=i):=by
       rw[List.filter_filter];refine List.filter_congr λj hj=>?_;by_cases p:i=j;·subst p;simp[f,s]
       ·rw[getD_set_ne true p];simp[Ne.symm p]
      rw[e];refine List.length_filter_lt_length_iff_exists.2 ⟨i,o0,by simp⟩
     omega
    refine ih _ _ _ (by simp[f]) (λj hj m0=>?_) Y (c.trans (V.mono c.size)) ?_;·rw[getD_set_ne true oqo];exact q j hj m0
    ·refine hl.put D (by rw[hl.size,R]) y (λj=>?_) ho (λt ht=>?_)
     ·by_cases p:i=j;·subst p;simp[f,s]
      ·rw[getD_set_ne false p];simp[Ne.symm p]
     ·rw[hF];rw[I]at ht;injection ht with e;subst e;exact EI u 0 a0 i d v hv (by rw[qja];exact I) d0 (λk hk z=>by rw[qja];exact Z k oqo z)
def I7(n:Nat)(F a0:Act)(w0:World)(c:List Value)(hn:c.length=n)(K:yg ops n a0.tmps.size=true)(hF:F=mD ops 0 c a0)(M:∀W,Below w0.heap.size w0 W->∀(i:Nat)(o:Oper)(v:Value),ops[i]? =some o->c[i]? =some v->∃gs,kT ops o gs=true/\bu P F W o gs v)(E:∀W,Below w0.heap.size w0 W->wpList P ops Q (ops.toList.drop n) F W): ∀(r i:Nat)(a:Act)(w:World),r=n-i->i<=n->Below w0.heap.size w0 w->Laid ops n F a0 (λj=>decide (j<i)) a->wpList P ops Q (ops.toList.drop i) a w:=by
 have hk:=K;unfold yg at hk;simp only[qqd]at hk;obtain⟨⟨⟨⟨N,U⟩,R⟩,L⟩,T⟩:=hk;have l:∀t,(∀j,j<n->aW ops j≠some t)->F.tmps[t]? =a0.tmps[t]?:=λt ht=>by rw[hF];exact xP c 0 a0 t (λj hj=>by rw[qja];exact ht j oqo)
 have u:F.tmps.size=a0.tmps.size:=by rw[hF];exact(lay_size c 0 a0).1
 intro r;induction r with|zero=>intro i a w hr hi f hl;obtain rfl:i=n:=oqo;have x:a=F:=hl.all l (λj hj=>by simpa using hj);rw[x];exact E w f|succ r ih=>
  intro i a w hr hi f hl;have p:i<n:=oqo;have g:=L i p;obtain⟨o,d,ho,hd,m,D,C,A,V⟩:=o9 g;have s:=(qqs.1 ho).1;have J:ops.toList[i]'(by simpa using s)=o:=by have:=(qqs.1 ho).2;simpa using this
  obtain⟨v,hv⟩:∃v,c[i]? =some v:=⟨_,qqh oqo⟩;rw[jqq (by simpa using s),J];have y:=hl.agree g l ho (λe he B=>by have:=A e he B;simpa using this);have hw:wpOp P ops Q i (wpList P ops Q (ops.toList.drop (i+1))) a w:=by
   obtain⟨gs,G,H⟩:=M w f i o v ho hv;refine bu.wpOp ho (λcs b=>Region.noSelect_spec N i o cs b ho) G H y (λO z=>?_);refine ih (i+1) _ _ oqo oqo (f.trans (z.mono f.size)) ?_;refine hl.put g (by rw[hl.size,u]) p (λj=>?_) ho (λt ht=>?_)
   ·by_cases q:j=i;·subst q;simp
    ·simp only[show(j==i)=false by simpa using q,Bool.false_or];by_cases h:j<i;·simp[h,show j<i+1 by omega]
     ·simp[h,show¬j<i+1 by omega]
   ·rw[hF];rw[m]at ht;injection ht with e;subst e;exact EI c 0 a0 i d v hv (by rw[qja];exact m) D (λk hk I=>by rw[qja];exact C k oqo I)
  unfold Go.wpOp at hw;rw[ho]at hw;exact hw
end
def dA{P:Program}{Q:Exit->Act->World->Prop}{id:Nat}{e:Bool}{l:List Oper}(vs:List (Gs×Value)){a0:Act}{w0:World}(hm:P.follows .mixedOrders=true)(c:(yg l.toArray vs.length a0.tmps.size&&xy l.toArray l vs)=true)(h:∀F:Act,F=mD l.toArray 0 (vs.map (·.2)) a0->(∀W,Below w0.heap.size w0 W->eZ P F W l vs)/\∀W,Below w0.heap.size w0 W->wpList P l.toArray Q (l.drop vs.length) F W):(Code.region id l.toArray e).wp P Q a0 w0:=by
 rw[qqn]at c;obtain⟨c,q⟩:=c;obtain⟨h1,h2⟩:=h _ rfl;obtain⟨b,d⟩:∃b,b=vs.map (·.2):=⟨_,rfl⟩;have f:b.length=vs.length:=by rw[d,qqv]
 rw[<-d]at h1 h2;have m:=(lay_size (ops:=l.toArray) b 0 a0);have k:∀W,Below w0.heap.size w0 W->∀(i:Nat)(o:Oper)(v:Value),(l.toArray)[i]? =some o->b[i]? =some v->∃gs,kT l.toArray o gs=true/\bu P (mD l.toArray 0 b a0) W o gs v:= λW p i o v ho hv=>by
   rw[d,qqp,Option.map_eq_some_iff]at hv;obtain⟨u,hu,rfl⟩:=hv;have g:l[i]? =some o:=by simpa using ho
   exact⟨u.1,Ig (i:=i) q g hu,(h1 W p).at (i:=i) g hu⟩
 have start:∀L:Nat->Bool,(∀j,L j=false)->Laid l.toArray vs.length (mD l.toArray 0 b a0) a0 L a0:=λL n=>⟨m.2.symm,m.1.symm,λj t _ hl=>(by rw[n]at hl;cases hl),λ_ _=>rfl⟩
 cases e with|true=>
  refine wp_region_any hm (Ml vs.length _ a0 w0 b f c rfl k h2 _ _ _ _ (by simp) (λj _ hj=>?_) ?_ ⟨rfl,rfl,rfl,qqf _,λ_ _=>rfl⟩ (start _ λj=>?_));·simp at hj;simp[hj]
  ·exact qzi (jxi _ _) (by simp)
  ·simp only[qqg,Array.getElem?_replicate];split<;>rfl|false=>have:=I7 vs.length _ a0 w0 b f c rfl k h2 vs.length 0 a0 w0 oqo oqo (qjk _ _) (start _ λj=>by simp);exact wp_region_lit (by simpa using this)
def gy{P:Program}{Q:Exit->Act->World->Prop}{id:Nat}{b:Bool}{l:List Oper}(vs:List (Gs×Value)){a0:Act}{w0:World}(hm:P.follows .mixedOrders=true)(c:(yg l.toArray vs.length a0.tmps.size&&xy l.toArray l vs)=true)(h:∀F A:Act,A=a0->F=mD l.toArray 0 (vs.map (·.2)) A->(∀W,Below w0.heap.size w0 W->eZ P F W l vs)/\∀W,Below w0.heap.size w0 W->wpList P l.toArray Q (l.drop vs.length) F W):(Code.region id l.toArray b).wp P Q a0 w0:=dA vs hm c λF hF=>h F a0 rfl hF
def bI:List (Nat×Value)->Act->Act|[],a=>a|(k,v)::r,a=>bI r (a.put (some k) v)
def aN(F:Act)(L:List (Nat×Value)):Prop:=(L.map λp=>F.tmps[p.1]?)=(L.map λp=>some p.2)
def aN.at{F:Act}{L:List (Nat×Value)}(h:aN F L)(i:Nat){k:Nat}{v:Value}(e:L[i]? =some (k,v)):F.tmps[k]? =some v:=by
 have:(L.map λp=>F.tmps[p.1]?)[i]? =(L.map λp=>some p.2)[i]?:=by rw[show(L.map λp=>F.tmps[p.1]?)=_ from h]
 rw[qqp,qqp,e]at this;simpa using this
def gd(b c:Bool)(v:Value):Value:=match b,c with|true,true=>v|false,false=>v|_,_=>undef
def dn(v:Value):gd false false v=v:=rfl
def dm(v:Value):gd true true v=v:=rfl
section
variable {P:Program}{F:Act}{W:World}{o:Oper}{v:Value}
def bu.val(h:(execOp F.eval o).run P W=.ok (.value v) W):bu P F W o none v:=by unfold bu isGo;rw[h];simp only[jzo];exact⟨trivial,qjk _ _⟩
def bu.call(f:FuncId)(args:Array Value)(h:(execOp F.eval o).run P W=.ok (.enter f args) W)(hc:Calls P f args W (λe b=>e=.returned v/\Below W.heap.size W b)):bu P F W o none v:=by unfold bu isGo;rw[h];simp only[jzo];exact hc
def bu.aaR{s:Nat}{want b:Bool}(c:F.tmps[s]? =some (.bool b))(h:b=want->(execOp F.eval o).run P W=.ok (.value v) W):bu P F W o (some (s,want)) (gd b want v):=by
 unfold bu isGo;simp only[c];by_cases e:b=want;·rw[h e,qzb (by simpa using e)];subst e;exact⟨by cases b<;>rfl,qjk _ _⟩
 ·rw[qzc (by simpa using e)];revert e;cases b<;>cases want<;>simp[gd]
def bu.aaP{s:Nat}{want b:Bool}(f:FuncId)(args:Array Value)(g:F.tmps[s]? =some (.bool b))(h:b=want->(execOp F.eval o).run P W=.ok (.enter f args) W)(hc:b=want->Calls P f args W (λe c=>e=.returned v/\Below W.heap.size W c)):bu P F W o (some (s,want)) (gd b want v):=by
 unfold bu isGo;simp only[g];by_cases e:b=want
 ·rw[h e,qzb (by simpa using e)];have:=hc e;subst e;have d:gd b b v=v:=by cases b<;>rfl
  rw[d];exact this
 ·rw[qzc (by simpa using e)];revert e;cases b<;>cases want<;>simp[gd]
def isB(u:Value)(c:Bool):Bool:=match u with| .bool b=>b==c|_=>false
def bu.skip{s:Nat}{want:Bool}{u:Value}(b:F.tmps[s]? =some u)(hu:isB u want=false):bu P F W o (some (s,want)) undef:=by
 have e:isGo F (some (s,want))=isB u want:=by unfold isGo;simp only[b];cases u<;>rfl
 unfold bu;rw[e,hu];simp
def bu.aaQ{s:Nat}{want:Bool}(b:F.tmps[s]? =some (.bool want))(h:(execOp F.eval o).run P W=.ok (.value v) W):bu P F W o (some (s,want)) v:=by unfold bu isGo;simp only[b];rw[h];simp[qjk]
def bu.aaO{s:Nat}{want:Bool}(f:FuncId)(args:Array Value)(c:F.tmps[s]? =some (.bool want))(h:(execOp F.eval o).run P W=.ok (.enter f args) W)(hc:Calls P f args W (λe b=>e=.returned v/\Below W.heap.size W b)):bu P F W o (some (s,want)) v:=by unfold bu isGo;simp only[c];rw[h];simpa using hc
def bu.to{gs:Gs}{u:Value}(e:v=u)(h:bu P F W o gs v):bu P F W o gs u:=e▸h
end
abbrev Told:=Option (Gs×Value)
def bz(vs:List Told)(j:Nat):Bool:=match vs[j]? with|some (some _)=>true|_=>false
def mf(vs:List Told)(j:Nat):Bool:=match vs[j]? with|some none=>true|_=>false
def uT(ops:Array Oper)(vs:List Told)(sz i:Nat):Bool:=match ops[i]? with|none=>false|some o=>(match o.dst with|some d=>decide (d<sz)&&(List.range vs.length).all (λj=>j==i||aW ops j !=some d)|none=>false)&&o.after.all (λe=>!Region.binds .any e||(decide (e.on<i)&&bz vs e.on))&&(o.looksAt ops).all (λt=>(List.range vs.length).all λj=>aW ops j !=some t||needs o j||(mf vs j&&(match ops[j]? with|some c=>needs c i|none=>false)))&&(match vs[i]? with|some (some v)=>kT ops o v.1|_=>false)
def zf(ops:Array Oper)(vs:List Told)(i:Nat):Bool:=match ops[i]? with|none=>false|some o=>o.after.all (λe=>!Region.binds .any e||decide (e.on<i))&&(o.looksAt ops).all (λt=>(List.range vs.length).all λj=>aW ops j !=some t||mf vs j||needs o j)&&(match o.dst with|some d=>(List.range vs.length).all (λj=>!bz vs j||aW ops j !=some d)|none=>true)
def iI(ops:Array Oper)(vs:List Told)(sz:Nat):Bool:=Region.noSelect ops&&decide (vs.length=ops.size)&&(List.range vs.length).all (λi=>if bz vs i then uT ops vs sz i else zf ops vs i)
def eX(ops:Array Oper):Nat->List Told->Act->Act|_,[],a=>a|i,none::r,a=>eX ops (i+1) r a|i,some v::r,a=>eX ops (i+1) r (a.put (aW ops i) v.2)
section
variable {P:Program}{ops:Array Oper}{Q:Exit->Act->World->Prop}
def canon(vs:List Told)(listed:Array Bool):Array Bool:=((List.range listed.size).map λj=>bz vs j||listed.getD j false).toArray
def vJ(vs:List Told)(listed:Array Bool)(j:Nat)(d:Bool)(h:j<listed.size):(canon vs listed).getD j d=(bz vs j||listed.getD j false):=by simp[canon,h]
def PT(vs:List Told)(listed:Array Bool)(i:Nat)(hi:i<listed.size):canon vs (listed.setIfInBounds i true)=(canon vs listed).setIfInBounds i true:=by
 refine Array.ext (by simp[canon]) λj h1 h2=>?_;have hj:j<listed.size:=by simpa [canon]using h1
 by_cases b:i=j;·subst b;simp[canon,hi]
 ·simp[canon,b,jqt b]
def Ip(vs:List Told)(listed:Array Bool)(i:Nat)(hf:bz vs i=true):canon vs (listed.setIfInBounds i true)=canon vs listed:=by
 refine Array.ext (by simp[canon]) λj h1 h2=>?_;by_cases b:i=j;·subst b;simp[canon,hf]
 ·simp[canon,jqt b]
def sF:∀(vs:List Told)(i:Nat)(a:Act),(eX ops i vs a).tmps.size=a.tmps.size/\(eX ops i vs a).defers=a.defers|[],_,_=>⟨rfl,rfl⟩|none::r,i,a=>sF r (i+1) a|some v::r,i,a=>by have ih:=sF r (i+1) (a.put (aW ops i) v.2);rw[eX,ih.1,ih.2];cases aW ops i<;>simp[Act.put]
def l9:∀(vs:List Told)(i:Nat)(a:Act)(t:Nat),(∀j,bz vs j=true->aW ops (i+j)≠some t)->(eX ops i vs a).tmps[t]? =a.tmps[t]? |[],_,_,_,_=>rfl|none::r,i,a,t,h=>by rw[eX];exact l9 r (i+1) a t λj hj=>by have:=h (j+1) (by simpa [bz]using hj);rwa[show i+1+j=i+(j+1)by omega]|some v::r,i,a,t,h=>by rw[eX,l9 r (i+1) _ t λj hj=>by have:=h (j+1) (by simpa [bz]using hj);rwa[show i+1+j=i+(j+1)by omega]];have h0:=h 0 rfl;rw[qzz]at h0;cases hd:aW ops i with|none=>rfl|some d=>simp only[Act.put];rw[jqt (λe=>h0 (by rw[hd,e]))]
def xL:∀(vs:List Told)(i:Nat)(a:Act)(j t:Nat)(v:Gs×Value),vs[j]? =some (some v)->aW ops (i+j)=some t->t<a.tmps.size->(∀k,bz vs k=true->k≠j->aW ops (i+k)≠some t)->(eX ops i vs a).tmps[t]? =some v.2|[],_,_,_,_,_,h,_,_,_=>by simp at h|none::r,i,a,0,t,v,h,hd,ht,hn=>by simp at h|some u::r,i,a,0,t,v,h,hd,ht,hn=>by simp at h;subst h;rw[eX,l9 r (i+1) _ t (λk hk=>by have:=hn (k+1) (by simpa [bz]using hk) oqo;rwa[show i+1+k=i+(k+1)by omega])];rw[qzz]at hd;rw[hd];simp only[Act.put];rw[jzn ht]|none::r,i,a,j+1,t,v,h,hd,ht,hn=>by rw[eX];exact xL r (i+1) a j t v (by simpa using h) (by rwa[show i+1+j=i+(j+1)by omega]) ht (λk hk b=>by have:=hn (k+1) (by simpa [bz]using hk) oqo;rwa[show i+1+k=i+(k+1)by omega])|some u::r,i,a,j+1,t,v,h,hd,ht,hn=>by rw[eX];refine xL r (i+1) _ j t v (by simpa using h) (by rwa[show i+1+j=i+(j+1)by omega]) ?_ (λk hk b=>by have:=hn (k+1) (by simpa [bz]using hk) oqo;rwa[show i+1+k=i+(k+1)by omega]);cases aW ops i<;>simp[Act.put,ht]
def TU{vs:List Told}{j:Nat}(h:bz vs j=true):∃v,vs[j]? =some (some v):=by unfold bz at h;cases hv:vs[j]? with|none=>rw[hv]at h;cases h|some x=>cases x with|none=>rw[hv]at h;cases h|some v=>exact⟨v,rfl⟩
def jd{vs:List Told}{j:Nat}(h:bz vs j=true):j<vs.length:=by obtain⟨v,hv⟩:=TU h;exact(qqi.1 hv).1
def kZ{o:Oper}{j:Nat}(h:needs o j=true):∃e∈o.after,Region.binds .any e=true/\e.on=j:=by unfold needs at h;rw[<-Array.any_toList,jze]at h;obtain⟨e,he,b⟩:=h;simp only[qqn,jzb]at b;exact⟨e,jjm.1 he,b.1,b.2⟩
def Vx{vs:List Told}{j:Nat}(hj:j<vs.length)(h:bz vs j=false):mf vs j=true:=by unfold bz at h;unfold mf;rw[qqh hj]at h⊢;cases b:vs[j]with|none=>rfl|some v=>rw[b]at h;cases h
def qJ{vs:List Told}{j:Nat}(h:mf vs j=true):bz vs j=false:=by unfold mf at h;unfold bz;cases hv:vs[j]? with|none=>rfl|some x=>cases x with|none=>rfl|some v=>rw[hv]at h;cases h
def iB(P:Program)(F:Act)(W:World)(o:Oper)(gs:Gs)(v:Value):Prop:=if isGo F gs=true then(execOp F.eval o).run P W=.ok (.value v) W else undef=v
def gu(P:Program)(F:Act)(W:World):List Oper->List Told->Prop|o::os,some v::vs=>iB P F W o v.1 v.2/\gu P F W os vs|_::os,none::vs=>gu P F W os vs|_,_=>True
def gu.at{F:Act}{W:World}:∀{os:List Oper}{vs:List Told}{i:Nat}{o:Oper}{v:Gs×Value},gu P F W os vs->os[i]? =some o->vs[i]? =some (some v)->iB P F W o v.1 v.2|[],_,_,_,_,_,h,_=>by simp at h|_::_,[],_,_,_,_,_,h=>by simp at h|o::os,none::vs,0,_,_,hr,h,k=>by simp at k|o::os,some v::vs,0,_,_,hr,h,k=>by simp at h k;subst h k;exact hr.1|o::os,none::vs,i+1,_,_,hr,h,k=>gu.at (os:=os) (vs:=vs) (i:=i) hr (by simpa using h) (by simpa using k)|o::os,some v::vs,i+1,_,_,hr,h,k=>gu.at (os:=os) (vs:=vs) (i:=i) hr.2 (by simpa using h) (by simpa using k)
def Pf{o:Oper}{A a:Act}(hd:a.defers=A.defers){j k:Act->World->Prop}(g:∀ds v b,j (Act.put ⟨A.tmps,ds⟩ o.dst v) b->k (Act.put ⟨a.tmps,ds⟩ o.dst v) b)(l:∀c b,Q (.panic c) A b->Q (.panic c) a b)(r:Result Next)(h:Oper.upon P o A j Q r):Oper.upon P o a k Q r:=by
 have p:∀v,A.put o.dst v=Act.put ⟨A.tmps,A.defers⟩ o.dst v:=λ_=>rfl;have i:∀v,a.put o.dst v=Act.put ⟨a.tmps,A.defers⟩ o.dst v:=λ_=>by rw[<-hd]
 cases r with
 |ok n w'=>cases n with
  |value v=>simp only[Oper.upon]at h⊢;rw[i];exact g _ _ _ h|skip=>simp only[Oper.upon]at h⊢;rw[i];exact g _ _ _ h|defer d=>simp only[Oper.upon]at h⊢;rw[hd];exact g _ _ _ h|enter f args=>simp only[Oper.upon]at h⊢;refine Calls.mono h λe m he=>?_;cases e with|returned u=>simp only at he⊢;rw[i];exact g _ _ _ he|panicked c=>exact l _ _ he|outgrown=>exact he
  |row row args=>simp only[Oper.upon]at h⊢;refine Rows.mono h λu m he=>?_;rw[i];exact g _ _ _ he|_=>exact h.elim
 |halt x w'=>cases x with|panic v=>simp only[Oper.upon]at h⊢;exact l _ _ h|_=>exact h.elim
def mM{vs:List Told}{sz i:Nat}(h:uT ops vs sz i=true):∃o d v,ops[i]? =some o/\o.dst=some d/\aW ops i=some d/\d<sz/\vs[i]? =some (some v)/\kT ops o v.1=true/\(∀j,j<vs.length->j≠i->aW ops j≠some d)/\(∀e∈o.after,Region.binds .any e=true->e.on<i/\bz vs e.on=true)/\∀t∈o.looksAt ops,∀j,j<vs.length->aW ops j=some t->needs o j=true\/(mf vs j=true/\∃c,ops[j]? =some c/\needs c i=true):=by unfold uT at h;cases ho:ops[i]? with|none=>rw[ho]at h;cases h|some o=>rw[ho]at h;simp only[qqn]at h;obtain⟨⟨⟨h1,h2⟩,h3⟩,f⟩:=h;cases hd:o.dst with|none=>rw[hd]at h1;cases h1|some d=>
   rw[hd]at h1;simp only[qqd,qji,jzb,jxw]at h1;rw[jjd]at h2;simp only[qqw,qzg,qji,jxw,qqn]at h3;have hv:∃v,vs[i]? =some (some v)/\kT ops o v.1=true:=by cases g:vs[i]? with|none=>rw[g]at f;cases f|some x=>cases x with|none=>rw[g]at f;cases f|some v=>rw[g]at f;exact⟨v,rfl,f⟩
   obtain⟨v,n,p⟩:=hv;refine⟨o,d,v,rfl,hd,by unfold aW;rw[ho];exact hd,h1.1,n,p,λj hj m=>(h1.2 j hj).resolve_left m,λe he k=>?_,λt ht j hj l=>?_⟩;·have:=h2 e he;rw[k]at this;simpa using this
   ·rcases h3 t ht j hj with(b|b)|b;·exact absurd l b
    ·exact Or.inl b
    ·refine Or.inr ⟨b.1,?_⟩;cases hc:ops[j]? with|none=>rw[hc]at b;cases b.2|some c=>rw[hc]at b;exact⟨c,rfl,b.2⟩
def CJ{vs:List Told}{i:Nat}(h:zf ops vs i=true):∃o,ops[i]? =some o/\(∀e∈o.after,Region.binds .any e=true->e.on<i)/\(∀t∈o.looksAt ops,∀j,j<vs.length->aW ops j=some t->mf vs j=true\/needs o j=true)/\∀j,j<vs.length->bz vs j=true->∀d,o.dst=some d->aW ops j≠some d:=by unfold zf at h;cases ho:ops[i]? with|none=>rw[ho]at h;cases h|some o=>
  rw[ho]at h;simp only[qqn]at h;obtain⟨⟨h2,h3⟩,c⟩:=h;rw[jjd]at h2;simp only[qqw,qzg,qji,jxw]at h3;refine⟨o,rfl,λe he f=>?_,λt ht j hj hd=>?_,λj hj hf d hd=>?_⟩;·have:=h2 e he;rw[f]at this;simpa using this
  ·rcases h3 t ht j hj with(b|b)|b;·exact absurd hd b
   ·exact Or.inl b
   ·exact Or.inr b
  ·rw[hd]at c;simp only[qqw,qzg,qji,jxw,qjj]at c;exact(c j hj).resolve_left (by rw[hf];simp)
def aft(ops:Array Oper)(i:Nat):List Nat:=match ops[i]? with|some o=>(o.after.toList.filter (Region.binds .any)).map (·.on)|none=>[]
def mark(ops:Array Oper):Nat->List Nat->List Nat|0,L=>L|k+1,L=>mark ops k (if L.contains k then aft ops k++L else L)
def fO(vs:List Told)(ops:Array Oper)(i:Nat):Bool:=(List.range ops.size).all λj=>!bz vs j||(mark ops (i+1) [i]).contains j
def Dh{ops:Array Oper}{p:Nat->Prop}(h:∀k,p k->∀e∈aft ops k,p e):∀(k:Nat)(L:List Nat),(∀x∈L,p x)->∀x∈mark ops k L,p x
 |0,L,c=>c|k+1,L,c=>by
  refine Dh h k _ λx b=>?_;split at b
  ·rename_i hk;rcases qzu.1 b with b|b;·exact h k (c k (by simpa using hk)) x b
   ·exact c x b
  ·exact c x b
def wpAnyS(P:Program)(vs:List Told)(ops:Array Oper)(Q:Exit->Act->World->Prop)(S:World->Prop):Nat->Array Bool->Act->World->Prop|0,listed,a,w=>Region.ready .any ops listed=[]/\Q .normal a w|fuel+1,listed,a,w=>(Region.ready .any ops listed=[]->Q .normal a w)/\∀i∈Region.ready .any ops listed,wpOp P ops Q i (λb w'=>(S w'\/fO vs ops i=true)/\wpAnyS P vs ops Q S fuel (listed.setIfInBounds i true) b w') a w
structure Mid(P:Program)(ops:Array Oper)(Q:Exit->Act->World->Prop)(vs:List Told)(F:Act)(S:World->Prop)(listed:Array Bool)(a:Act)(W:World)(A:Act):Prop where
 size:listed.size=ops.size
 defers:a.defers=A.defers
 Br:a.tmps.size=A.tmps.size
 KT:A.tmps.size=F.tmps.size
 same:∀t,(∀j,bz vs j=true->listed.getD j false=false->aW ops j≠some t)->a.tmps[t]? =A.tmps[t]?
 float:∀j v t,vs[j]? =some (some v)->aW ops j=some t->A.tmps[t]? =some v.2
 still:∀t,(∀j,mf vs j=true->listed.getD j false=true->aW ops j≠some t)->A.tmps[t]? =F.tmps[t]?
 deps:∀j o,ops[j]? =some o->listed.getD j false=true->∀e∈o.after,Region.binds .any e=true->listed.getD e.on false=true
 world:S W\/∀j,bz vs j=true->listed.getD j false=true
 rest:∃k,wpAnyS P vs ops Q S k (canon vs listed) A W
def yC(S:World->Prop)(vs:List Told)(F:Act)(z:iI ops vs F.tmps.size=true)(hQ:∀c a Y w,a.defers=Y.defers->Q (.panic c) a w->Q (.panic c) Y w)(t1:∀W,S W->∀(i:Nat)(o:Oper)(v:Gs×Value),ops[i]? =some o->vs[i]? =some (some v)->iB P F W o v.1 v.2): ∀(fuel:Nat)(listed:Array Bool)(a:Act)(W:World)(A:Act),((List.range ops.size).filter λj=>!listed.getD j false).length<=fuel->Mid P ops Q vs F S listed a W A->wpAny P .any ops Q fuel listed a W:=by
 have hk:=z;unfold iI at hk;simp only[qqd]at hk;obtain⟨⟨d1,N⟩,a1⟩:=hk;have s0:∀i,bz vs i=true->uT ops vs F.tmps.size i=true:=λi hi=>by have:=a1 i (jd hi);rwa[qzb hi]at this
 have j0:∀i,i<vs.length->bz vs i=false->zf ops vs i=true:=λi hi hf=>by have:=a1 i hi;rwa[qzc (by rw[hf];simp)]at this
 have y0:∀i o,ops[i]? =some o->∀e∈o.after,Region.binds .any e=true->e.on<i:=by
  intro i o ho e he f;have hi:i<vs.length:=by rw[N];exact(qqs.1 ho).1
  cases hf:bz vs i with|true=>obtain⟨C,d,v,l,_,_,_,_,_,_,h,_⟩:=mM (s0 i hf);rw[ho]at l;injection l with s;subst s;exact(h e he f).1|false=>obtain⟨C,l,h,_,_⟩:=CJ (j0 i hi hf);rw[ho]at l;injection l with s;subst s;exact h e he f
 have getD_eq:∀(listed:Array Bool)(j:Nat),j<listed.size->listed.getD j false=listed.getD j true:=by intro listed j hj;simp[hj]
 have done:∀(listed:Array Bool),listed.size=ops.size->Region.ready .any ops listed=[]->∀j,j<ops.size->listed.getD j false=true:=by intro listed x1 hr j;induction j using Nat.strongRecOn with|ind j ih=>intro hj;cases hl:listed.getD j false with|true=>rfl|false=>exfalso;have ho:ops[j]? =some ops[j]:=jqi hj;have:j∈Region.ready .any ops listed:=mem_ready.2 ⟨by rw[<-getD_eq listed j oqo];exact hl,_,ho,λe he f=>ih e.on (y0 j _ ho e he f) (by have:=y0 j _ ho e he f;omega)⟩;rw[hr]at this;simp at this
 have d0:∀(listed:Array Bool)(a:Act)(W:World)(A:Act),Mid P ops Q vs F S listed a W A->Region.ready .any ops listed=[]->Q .normal a W:=by
  intro listed a W A h hr;have i0:=done listed h.size hr;have g1:a=A:=by
   have h1:=h.defers;have h2:a.tmps=A.tmps:=Array.ext_getElem? λt=>h.same t λj hj g=>by rw[i0 j (by rw[<-N];exact jd hj)]at g;cases g
   cases a;cases A;simp only at h1 h2;rw[h1,h2]
  obtain⟨k,hk⟩:=h.rest;have X:Region.ready .any ops (canon vs listed)=[]:=by cases X:Region.ready .any ops (canon vs listed)with|nil=>rfl|cons i r=>
    have hi:i∈Region.ready .any ops (canon vs listed):=by rw[X];simp
    obtain⟨h0,o,ho,_⟩:=mem_ready.1 hi;have y:=(qqs.1 ho).1;rw[vJ _ _ _ _ (by rw[h.size];exact y),i0 i y]at h0;simp at h0
  rw[g1];cases k with|zero=>exact hk.2|succ k=>exact hk.1 X
 intro fuel;induction fuel with|zero=>
  intro listed a W A n1 h;have hr:Region.ready .any ops listed=[]:=by cases hr:Region.ready .any ops listed with|nil=>rfl|cons i r=>
    have hi:i∈Region.ready .any ops listed:=by rw[hr];simp
    obtain⟨h0,o,ho,_⟩:=mem_ready.1 hi;have y:=(qqs.1 ho).1;have:i∈(List.range ops.size).filter λj=>!listed.getD j false:=jxb.2 ⟨qzg.2 y,by rw[getD_eq listed i (by rw[h.size];exact y),h0];rfl⟩;have:=List.length_pos_of_mem this;omega
  exact⟨hr,d0 listed a W A h hr⟩|succ fuel ih=>
  intro listed a W A n1 h;refine⟨λhr=>d0 listed a W A h hr,λi hi=>?_⟩;obtain⟨h0,o,ho,E⟩:=mem_ready.1 hi;have y:=(qqs.1 ho).1;have M:i<listed.size:=by rw[h.size];exact y
  have I:listed.getD i false=false:=by rw[getD_eq listed i M];exact h0
  have B:∀j,(listed.setIfInBounds i true).getD j false=(j==i||listed.getD j false):=by
   intro j;by_cases m:i=j;·subst m;simp[M]
   ·rw[getD_set_ne false m];simp[Ne.symm m]
  have l0:((List.range ops.size).filter λj=>!(listed.setIfInBounds i true).getD j false).length<=fuel:=by
   have e:((List.range ops.size).filter λj=>!(listed.setIfInBounds i true).getD j false)=((List.range ops.size).filter λj=>!listed.getD j false).filter (λj=>j !=i):=by
    rw[List.filter_filter];refine List.filter_congr λj hj=>?_;rw[B];by_cases m:j=i;·subst m;simp
    ·simp[bne,show(j==i)=false by simpa using m]
   have s1:i∈(List.range ops.size).filter λj=>!listed.getD j false:=jxb.2 ⟨qzg.2 y,by rw[I];rfl⟩;have:=(List.length_filter_lt_length_iff_exists (p:=λj=>j !=i)).2 ⟨i,s1,by simp⟩;rw[e];omega
  have p0:∀j C,ops[j]? =some C->(listed.setIfInBounds i true).getD j false=true->∀e∈C.after,Region.binds .any e=true->(listed.setIfInBounds i true).getD e.on false=true:=by
   intro j C l hj e he f;rw[B]at hj⊢;by_cases m:j=i;·subst m;rw[ho]at l;injection l with s;subst s;rw[E e he f];simp
   ·have hj:listed.getD j false=true:=by simpa [m]using hj
    rw[h.deps j C l hj e he f];simp
  cases hf:bz vs i with|true=>
   obtain⟨C,d,v,l,hd,o0,m1,hv,o1,q0,i1,O⟩:=mM (s0 i hf);rw[ho]at l;injection l with s;subst s;have U:∀t∈o.looksAt ops,a.tmps[t]? =F.tmps[t]?:=by
    intro t ht;have h1:a.tmps[t]? =A.tmps[t]?:=by
     refine h.same t λj hj g G=>?_;rcases O t ht j (jd hj) G with hn|⟨hc,_⟩;·obtain⟨e,he,f,rfl⟩:=kZ hn;rw[E e he f]at g;cases g
     ·rw[qJ hc]at hj;cases hj
    rw[h1];refine h.still t λj hj g G=>?_;have r1:j<vs.length:=by unfold mf at hj;cases R:vs[j]? with|none=>rw[R]at hj;cases hj|some x=>exact(qqi.1 R).1
    rcases O t ht j r1 G with hn|⟨_,c,hc,hn⟩;·obtain⟨e,he,f,rfl⟩:=kZ hn;have:=(i1 e he f).2;rw[qJ hj]at this;cases this
    ·obtain⟨e,he,f,rfl⟩:=kZ hn;have:=h.deps j c hc g e he f;rw[I]at this;cases this
   obtain⟨K,T⟩:=nC (ops:=ops) o (λcs b=>Region.noSelect_spec d1 i o cs b ho) a F U;have e0:S W:=h.world.resolve_right λH=>by rw[H i hf]at I;cases I
   have hr:=t1 W e0 i o v ho hv;have J:wpAny P .any ops Q fuel (listed.setIfInBounds i true) (a.put o.dst v.2) W:=by
    refine ih _ _ _ A l0 ⟨by simp[h.size],by rw[hd];exact h.defers,by rw[hd];simp[Act.put,h.Br],h.KT,λt ht=>?_,h.float,λt ht=>?_,p0,Or.inl e0,?_⟩
    ·rw[hd];simp only[Act.put];by_cases n:d=t;·subst n;rw[jzn (by rw[h.Br,h.KT];exact m1)];exact(h.float i v d hv o0).symm
     ·rw[jqt n];refine h.same t λj hj g=>?_;by_cases m:j=i;·subst m;rw[o0];intro e;injection e with e;exact n e
      ·exact ht j hj (by rw[B,g];simp[m])
    ·refine h.still t λj hj g=>ht j hj (by rw[B,g];simp)
    ·rw[Ip vs listed i hf];exact h.rest
   unfold Go.wpOp;simp only[ho];rw[T,kK o1];unfold iB at hr;split;·rename_i hw;rw[qzb hw]at hr;refine Or.inl ?_;unfold Oper.wp;rw[K,hr];exact J
   ·rename_i hw;rw[qzc hw]at hr;rw[hr];exact J|false=>
   have x0:i<vs.length:=by rw[N];exact y
   have l1:=Vx x0 hf;obtain⟨C,l,j1,O,q0⟩:=CJ (j0 i x0 hf);rw[ho]at l;injection l with s;subst s;have U:∀t∈o.looksAt ops,a.tmps[t]? =A.tmps[t]?:=by
    intro t ht;refine h.same t λj hj g G=>?_;rcases O t ht j (jd hj) G with hc|hn;·rw[qJ hc]at hj;cases hj
    ·obtain⟨e,he,f,rfl⟩:=kZ hn;rw[E e he f]at g;cases g
   obtain⟨K,T⟩:=nC (ops:=ops) o (λcs b=>Region.noSelect_spec d1 i o cs b ho) a A U;obtain⟨k,hk⟩:=h.rest;have V:i∈Region.ready .any ops (canon vs listed):=mem_ready.2 ⟨by rw[vJ _ _ _ _ M,hf,I];rfl,o,ho,λe he f=>by have v1:=j1 e he f;rw[vJ _ _ _ _ oqo,E e he f];simp⟩;obtain⟨k,rfl⟩:∃q,k=q+1:=by cases k with|zero=>rw[hk.1]at V;simp at V|succ k=>exact⟨k,rfl⟩
   have hc:=hk.2 i V;have J:∀ds v D,((S D\/fO vs ops i=true)/\wpAnyS P vs ops Q S k ((canon vs listed).setIfInBounds i true) (Act.put ⟨A.tmps,ds⟩ o.dst v) D)->wpAny P .any ops Q fuel (listed.setIfInBounds i true) (Act.put ⟨a.tmps,ds⟩ o.dst v) D:=by
    intro ds v D m0;refine ih _ _ _ (Act.put ⟨A.tmps,ds⟩ o.dst v) l0 ⟨by simp[h.size],?_,?_,?_,λt ht=>?_,λj u t hj ht=>?_,λt ht=>?_,p0,m0.1.imp id (λhn j hj=>?_),k,by rw[PT _ _ _ M];exact m0.2⟩;·cases o.dst<;>rfl
    ·cases o.dst<;>simp[Act.put,h.Br]
    ·cases o.dst<;>simp[Act.put,h.KT]
    ·have h1:a.tmps[t]? =A.tmps[t]?:=h.same t λj hj g=>ht j hj (by
      rw[B,g];have:j≠i:=λe=>by rw[e,hf]at hj;cases hj
      simp[this]);cases hd:o.dst with|none=>exact h1|some d=>
      simp only[Act.put];by_cases n:d=t
      ·subst n;by_cases L:d<A.tmps.size;·rw[jzn L,jzn (by rw[h.Br];exact L)]
       ·have q1:(a.tmps.setIfInBounds d v)[d]? =none:=jxf (by rw[Array.size_setIfInBounds,h.Br];exact Nat.le_of_not_lt L);have q2:(A.tmps.setIfInBounds d v)[d]? =none:=jxf (by rw[Array.size_setIfInBounds];exact Nat.le_of_not_lt L);rw[q1,q2]
      ·rw[jqt n,jqt n];exact h1
    ·have h1:=h.float j u t hj ht;cases hd:o.dst with|none=>exact h1|some d=>
      have r0:bz vs j=true:=by unfold bz;rw[hj]
      have n:d≠t:=λe=>q0 j (jd r0) r0 d hd (by rw[ht,e]);simp only[Act.put];rw[jqt n];exact h1
    ·have h1:=h.still t λj hj g=>ht j hj (by rw[B,g];simp);cases hd:o.dst with|none=>exact h1|some d=>have n:d≠t:=λe=>ht i l1 (by rw[B];simp) (by unfold aW;rw[ho];simp[hd,e]);simp only[Act.put];rw[jqt n];exact h1
    ·unfold fO at hn;simp only[qqw,qzg,List.contains_iff_mem,qji,qjj]at hn;have p1:=(hn j (by rw[<-N];exact jd hj)).resolve_left (by rw[hj];simp);have key:=Dh (ops:=ops) (p:=λk=>k=i\/listed.getD k false=true) (λk hk e he=>by unfold aft at he;cases z:ops[k]? with|none=>rw[z]at he;simp at he|some o2=>
       rw[z]at he;simp only[qjb,jxb,jjm]at he;obtain⟨Z,⟨he,f⟩,rfl⟩:=he;rcases hk with rfl|hk;·rw[ho]at z;injection z with z;subst z;exact Or.inr (E Z he f)
       ·exact Or.inr (h.deps k o2 z hk Z he f)) (i+1) [i] (λx R=>Or.inl (by simpa using R)) j p1;rw[B];rcases key with e|e;·simp[e]
     ·simp[e]
   unfold Go.wpOp at hc;simp only[ho]at hc;unfold Go.wpOp;simp only[ho];rw[T];split
   ·rename_i hw;rw[qzb hw]at hc;rcases hc with hc|⟨ha,hl⟩;·refine Or.inl ?_;unfold Oper.wp at hc⊢;rw[K];exact Pf h.defers (λds v D H=>J ds v D H) (λc D H=>hQ c _ _ _ h.defers.symm H) _ hc
    ·refine Or.inr ⟨?_,hl⟩;unfold Oper.asks at ha⊢;rw[K];exact ha
   ·rename_i hw;rw[qzc hw]at hc;have:=J A.defers undef W hc;rw[<-h.defers]at this;exact this
end
def aL{P:Program}{Q:Exit->Act->World->Prop}{id:Nat}{l:List Oper}(vs:List Told)(S:World->Prop)(k:Nat){a0:Act}{w0:World}(hm:P.follows .mixedOrders=true)(x:∀c a n w,a.defers=n.defers->Q (.panic c) a w->Q (.panic c) n w)(u:iI l.toArray vs a0.tmps.size=true)(hS:∀b,b.heap=w0.heap->Below w0.heap.size w0 b->S b)(h:∀(F A:Act)(b:World),A=a0->F=eX l.toArray 0 vs A->b.heap=w0.heap->Below w0.heap.size w0 b->(∀W,S W->gu P F W l vs)/\wpAnyS P vs l.toArray Q S k ((List.range l.length).map (bz vs)).toArray F b):(Code.region id l.toArray true).wp P Q a0 w0:=by
 have p:Below w0.heap.size w0 {w0 with drawn:=w0.drawn+1}:=⟨rfl,rfl,rfl,qqf _,λ_ _=>rfl⟩;obtain⟨h1,h2⟩:=h _ a0 {w0 with drawn:=w0.drawn+1} rfl rfl rfl p;have hS:=hS {w0 with drawn:=w0.drawn+1} rfl p;have m:=(sF (ops:=l.toArray) vs 0 a0);have g:∀j,(Array.replicate l.toArray.size false).getD j false=false:=λj=>by simp only[qqg,Array.getElem?_replicate];split<;>rfl
 have f:=u;unfold iI at f;simp only[qqd]at f;refine wp_region_any hm (yC S vs (eX l.toArray 0 vs a0) (by rw[m.1];exact u) x (λW y i o v ho hv=>(h1 W y).at (i:=i) (by simpa using ho) hv) _ _ _ _ (eX l.toArray 0 vs a0) (qzi (jxi _ _) (by simp))
  ⟨by simp,m.2.symm,m.1.symm,rfl,λt ht=>?_,λj v t hj ht=>?_,λ_ _=>rfl,λj o _ hl=>(by rw[g]at hl;cases hl),Or.inl hS,k,?_⟩);·exact(l9 vs 0 a0 t λj hj=>by rw[qja];exact ht j hj (g j)).symm
 ·have s:bz vs j=true:=by unfold bz;rw[hj]
  have r:=f.2 j (jd s);rw[qzb s]at r;obtain⟨o,d,E,ho,hd,q,B,D,_,z,_,_⟩:=mM r;rw[ht]at q;injection q with e;subst e;exact xL vs 0 a0 j t v hj (by rw[qja];exact ht) B λk hk C=>by rw[qja];exact z k (jd hk) C
 ·have e:canon vs (Array.replicate l.toArray.size false)=((List.range l.length).map (bz vs)).toArray:=by unfold canon;congr 1;simp only[jxm,jxn];refine jqj λj _=>?_;have:=g j;simp only[jxn]at this;rw[this];simp
  rw[e];exact h2
section
variable {P:Program}{vs:List Told}{ops:Array Oper}{Q:Exit->Act->World->Prop}{S:World->Prop}{fuel:Nat}{listed:Array Bool}{a:Act}{w:World}
def ai(i:Nat){o:Oper}(ho:ops[i]? =some o)(hr:Region.ready .any ops listed=[i])(h:∀K:Act->World->Prop,Hid (∀b w',(S w'\/fO vs ops i=true)->wpAnyS P vs ops Q S fuel (listed.setIfInBounds i true) b w'->K b w')->if Region.wanted o (yielded ops a.tmps)=true then Oper.wp P o a w K Q else K (a.put o.dst undef) w):wpAnyS P vs ops Q S (fuel+1) listed a w:=by
 refine⟨λc=>by rw[hr]at c;simp at c,λj hj=>?_⟩;rw[hr]at hj;simp at hj;subst hj;have:=h (λb w'=>(S w'\/fO vs ops j=true)/\wpAnyS P vs ops Q S fuel (listed.setIfInBounds j true) b w') (hqh λb w' h1 h2=>⟨h1,h2⟩);unfold Go.wpOp;simp only[ho];split;·rename_i hw;rw[qzb hw]at this;exact Or.inl this
 ·rename_i hw;rw[qzc hw]at this;exact this
def uB(i j:Nat){o p:Oper}(ho:ops[i]? =some o)(e:ops[j]? =some p)(hr:Region.ready .any ops listed=[i,j])(h:∀K:Act->World->Prop,Hid (∀b w',(S w'\/fO vs ops i=true)->wpAnyS P vs ops Q S fuel (listed.setIfInBounds i true) b w'->K b w')->if Region.wanted o (yielded ops a.tmps)=true then Oper.wp P o a w K Q else K (a.put o.dst undef) w)(h2:∀K:Act->World->Prop,Hid (∀b w',(S w'\/fO vs ops j=true)->wpAnyS P vs ops Q S fuel (listed.setIfInBounds j true) b w'->K b w')->if Region.wanted p (yielded ops a.tmps)=true then Oper.wp P p a w K Q else K (a.put p.dst undef) w):wpAnyS P vs ops Q S (fuel+1) listed a w:=by
 refine⟨λd=>by rw[hr]at d;simp at d,λq c=>?_⟩;rw[hr]at c;simp at c;rcases c with rfl|rfl
 ·have:=h (λb w'=>(S w'\/fO vs ops q=true)/\wpAnyS P vs ops Q S fuel (listed.setIfInBounds q true) b w') (hqh λb w' h1 h2=>⟨h1,h2⟩);unfold Go.wpOp;simp only[ho];split;·rename_i hw;rw[qzb hw]at this;exact Or.inl this
  ·rename_i hw;rw[qzc hw]at this;exact this
 ·have:=h2 (λb w'=>(S w'\/fO vs ops q=true)/\wpAnyS P vs ops Q S fuel (listed.setIfInBounds q true) b w') (hqh λb w' h1 h2=>⟨h1,h2⟩);unfold Go.wpOp;simp only[e];split;·rename_i hw;rw[qzb hw]at this;exact Or.inl this
  ·rename_i hw;rw[qzc hw]at this;exact this
def au(hr:Region.ready .any ops listed=[])(h:Q .normal a w):wpAnyS P vs ops Q S 0 listed a w:=⟨hr,h⟩
end
section
variable {P:Program}{F:Act}{W:World}{o:Oper}{v:Value}
def iB.val(h:(execOp F.eval o).run P W=.ok (.value v) W):iB P F W o none v:=by unfold iB isGo;simpa using h
def gu.cons{os:List Oper}{vs:List Told}{gs:Gs}(h:iB P F W o gs v)(k:gu P F W os vs):gu P F W (o::os) (some (gs,v)::vs):=⟨h,k⟩
def gu.pass{os:List Oper}{vs:List Told}(k:gu P F W os vs):gu P F W (o::os) (none::vs):=k
def gu.nil{os:List Oper}:gu P F W os []:=by cases os<;>trivial
end
