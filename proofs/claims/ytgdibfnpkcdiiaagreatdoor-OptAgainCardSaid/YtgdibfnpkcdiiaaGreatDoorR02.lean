/- Joint text: HReg. By an AI agent. -/
import Derived.Test.YtgdibfnpkcdiiaaGreatDoorRzz
import Derived.Orders
import Derived.Below
import Derived.Tactics2
import Derived.Lib.Hide
set_option linter.all false
set_option maxRecDepth 100000
set_option maxHeartbeats 64000000
namespace Go.Proofs.YtgdibfnpkcdiiaaGreatDoor
open Go Go.RowKit
def bu(ops:Array Oper)(i:Nat):Option Nat:=(ops[i]?).bind (·.dst)
def needs(o:Oper)(j:Nat):Bool:=o.after.any λe=>Region.binds .any e&&e.on==j
def Dv(ops:Array Oper)(n sz i:Nat):Bool:=match ops[i]? with|none=>false|some o=>(match o.dst with|some d=>decide (d<sz)&&(List.range n).all (λj=>j==i||bu ops j !=some d)|none=>false)&&o.after.all (λe=>!Region.binds .any e||decide (e.on<i))&&(o.looksAt ops).all (λt=>(List.range n).all λj=>bu ops j !=some t||needs o j)
def F7(ops:Array Oper)(n:Nat):Bool:=match ops[n]? with|some o=>(List.range n).all (needs o)&&o.after.all (λe=>!Region.binds .any e||decide (e.on<n))|none=>true
def wO(ops:Array Oper)(n sz:Nat):Bool:=Region.noSelect ops&&decide (n<=ops.size)&&decide (ops.size<=n+1)&&(List.range n).all (Dv ops n sz)&&F7 ops n
def lD(ops:Array Oper):Nat->List Value->Act->Act|_,[],a=>a|i,v::r,a=>lD ops (i+1) r (a.put (bu ops i) v)
section
variable {P:Program}{ops:Array Oper}{Q:Exit->Act->World->Prop}
abbrev Gs:=Option (Nat×Bool)
def isGo(F:Act)(gs:Gs):Bool:=match gs with|none=>true|some (s,a)=>match F.tmps[s]? with|some (.bool b)=>b==a|_=>false
def jT(ops:Array Oper)(o:Oper)(gs:Gs):Bool:=match o.guard,gs with|none,none=>true|some (g,w),some (s,w')=>bu ops g==some s&&w==w'|_,_=>false
theorem jR{ops:Array Oper}{F:Act}{o:Oper}{gs:Gs}(h:jT ops o gs=true):Region.wanted o (yielded ops F.tmps)=isGo F gs:=by unfold jT at h;unfold Region.wanted isGo;cases a:o.guard with
 |none=>rw[a]at h;cases gs with|none=>rfl|some x=>cases h
 |some b=>obtain⟨g,w⟩:=b;rw[a]at h;cases gs with|none=>cases h|some x=>obtain⟨s,w'⟩:=x;simp only[qqn,jqz]at h;obtain⟨h1,rfl⟩:=h;unfold bu at h1;simp only[yielded,h1,Option.bind_some];cases F.tmps[s]? with|none=>rfl|some u=>cases u<;>rfl
def aR(P:Program)(F:Act)(W:World)(o:Oper)(gs:Gs)(v:Value):Prop:=if isGo F gs=true then match(execOp F.eval o).run P W with| .ok (.value u) a=>u=v/\Below W.heap.size W a| .ok .skip a=>undef=v/\Below W.heap.size W a| .ok (.enter f args) a=>Calls P f args a (λe b=>e=.returned v/\Below W.heap.size W b)|_=>False else undef=v
theorem lY(o:Oper)(hs:∀cs b,o.op≠.select cs b)(a b:Act)(h:∀t∈o.looksAt ops,a.tmps[t]? =b.tmps[t]?):execOp a.eval o=execOp b.eval o/\Region.wanted o (yielded ops a.tmps)=Region.wanted o (yielded ops b.tmps):=by
 refine⟨execOp_congr o hs λx i=>?_,?_⟩;·cases x with|tmp t=>have:=h t (List.mem_append_left _ (List.mem_filterMap.2 ⟨.tmp t,by simpa using i,rfl⟩));show a.tmps.getD t undef=b.tmps.getD t undef;rw[qqg,qqg,this]|const v=>rfl|global g=>rfl|func f=>rfl
 ·unfold Region.wanted;cases e:o.guard with|none=>rfl|some c=>obtain⟨g,j⟩:=c;simp only;congr 1;unfold yielded;cases hd:(ops[g]?).bind (·.dst)with|none=>rfl|some d=>have:=h d (List.mem_append_right _ (by rw[e];simp[hd]));simp[this]
theorem aR.wpOp{F a:Act}{W:World}{i:Nat}{o:Oper}{gs:Gs}{v:Value}(hi:ops[i]? =some o)(hs:∀cs b,o.op≠.select cs b)(m:jT ops o gs=true)(h:aR P F W o gs v)(l:∀t∈o.looksAt ops,a.tmps[t]? =F.tmps[t]?){K:Act->World->Prop}(d:∀g,Below W.heap.size W g->K (a.put o.dst v) g):wpOp P ops Q i K a W:=by
 obtain⟨j,k⟩:=lY (ops:=ops) o hs a F l;unfold Go.wpOp;simp only[hi];rw[k,jR m];unfold aR at h;split;·rename_i hw;rw[qzb hw]at h;refine Or.inl ?_;unfold Oper.wp;rw[j];revert h;cases(execOp F.eval o).run P W with
  |ok x g=>cases x with|value u=>rintro⟨rfl,c⟩;exact d _ c|skip=>rintro⟨rfl,c⟩;exact d _ c|enter f args=>intro h;refine Calls.mono h ?_;rintro e n⟨rfl,c⟩;exact d _ c|_=>intro h;exact h.elim
  |halt=>intro h;exact h.elim
 ·rename_i hw;rw[qzc hw]at h;subst h;exact d _ (qjk _ _)
theorem lay_size:∀(b:List Value)(i:Nat)(a:Act),(lD ops i b a).tmps.size=a.tmps.size/\(lD ops i b a).defers=a.defers|[],_,_=>⟨rfl,rfl⟩|v::r,i,a=>by have ih:=lay_size r (i+1) (a.put (bu ops i) v);rw[lD,ih.1,ih.2];cases bu ops i<;>simp[Act.put]
theorem wU:∀(b:List Value)(i:Nat)(a:Act)(t:Nat),(∀j,j<b.length->bu ops (i+j)≠some t)->(lD ops i b a).tmps[t]? =a.tmps[t]? |[],_,_,_,_=>rfl|v::r,i,a,t,h=>by rw[lD,wU r (i+1) _ t (λj hj=>by have:=h (j+1) (by simp;omega);rwa[show i+1+j=i+(j+1)by omega])];have h0:=h 0 (by simp);rw[qzz]at h0;cases hd:bu ops i with|none=>rfl|some d=>simp only[Act.put];rw[jql (λe=>h0 (by rw[hd,e]))]
theorem Fz:∀(b:List Value)(i:Nat)(a:Act)(j t:Nat)(v:Value),b[j]? =some v->bu ops (i+j)=some t->t<a.tmps.size->(∀k,k<b.length->k≠j->bu ops (i+k)≠some t)->(lD ops i b a).tmps[t]? =some v|[],_,_,_,_,_,h,_,_,_=>by simp at h|u::r,i,a,0,t,v,h,hd,ht,hn=>by simp at h;subst h;rw[lD,wU r (i+1) _ t (λk hk=>by have:=hn (k+1) (by simp;omega) oqo;rwa[show i+1+k=i+(k+1)by omega])];rw[qzz]at hd;rw[hd];simp only[Act.put];rw[jzi ht]|u::r,i,a,j+1,t,v,h,hd,ht,hn=>by rw[lD];refine Fz r (i+1) _ j t v (by simpa using h) (by rwa[show i+1+j=i+(j+1)by omega]) ?_ (λk hk c=>by have:=hn (k+1) (by simp;omega) oqo;rwa[show i+1+k=i+(k+1)by omega]);cases bu ops i<;>simp[Act.put,ht]
theorem og{n sz i:Nat}(h:Dv ops n sz i=true):∃o d,ops[i]? =some o/\o.dst=some d/\bu ops i=some d/\d<sz/\(∀j,j<n->j≠i->bu ops j≠some d)/\(∀e∈o.after,Region.binds .any e=true->e.on<i)/\∀t∈o.looksAt ops,∀j,j<n->bu ops j=some t->∃e∈o.after,Region.binds .any e=true/\e.on=j:=by unfold Dv at h;cases ho:ops[i]? with|none=>rw[ho]at h;cases h|some o=>rw[ho]at h;simp only[qqn]at h;obtain⟨⟨h1,h2⟩,h3⟩:=h;cases hd:o.dst with|none=>rw[hd]at h1;cases h1|some d=>
   rw[hd]at h1;simp only[qqd,qji,jqz,jxl]at h1;rw[jxr]at h2;simp only[qqw,qzg,qji,jxl]at h3;refine⟨o,d,rfl,hd,by unfold bu;rw[ho];exact hd,h1.1,λj hj f=>(h1.2 j hj).resolve_left f,λe he b=>?_,λt ht j hj c=>?_⟩;·have:=h2 e he;rw[b]at this;simpa using this
   ·have:=(h3 t ht j hj).resolve_left (λa=>a c);unfold needs at this;rw[<-Array.any_toList,jqv]at this;obtain⟨e,he,a⟩:=this;have he:e∈o.after:=jjd.1 he;simp only[qqn,jqz]at a;exact⟨e,he,a.1,a.2⟩
structure Laid(ops:Array Oper)(n:Nat)(F a0:Act)(L:Nat->Bool)(a:Act):Prop where
 defers:a.defers=F.defers
 size:a.tmps.size=F.tmps.size
 yes:∀j t,j<n->L j=true->bu ops j=some t->a.tmps[t]? =F.tmps[t]?
 no:∀t,(∀j,j<n->L j=true->bu ops j≠some t)->a.tmps[t]? =a0.tmps[t]?
theorem Laid.all{n:Nat}{F a0 a:Act}{L:Nat->Bool}(h:Laid ops n F a0 L a)(hF:∀t,(∀j,j<n->bu ops j≠some t)->F.tmps[t]? =a0.tmps[t]?)(c:∀j,j<n->L j=true):a=F:=by obtain⟨h1,h2,h3,b⟩:=h;cases a with|mk d e=>cases F with|mk f df=>
 simp only at h1 h2;subst h1;congr 1;refine Array.ext_getElem? λt=>?_;by_cases hd:∃j,j<n/\bu ops j=some t;·obtain⟨j,hj,hd⟩:=hd;exact h3 j t hj (c j hj) hd
 ·have hn:∀j,j<n->bu ops j≠some t:=λj hj he=>hd ⟨j,hj,he⟩;have:=hF t hn;rw[show d[t]? =a0.tmps[t]? from b t (λj hj _=>hn j hj),<-this]
theorem Laid.put{n i sz:Nat}{F a0 a:Act}{L k:Nat->Bool}(h:Laid ops n F a0 L a)(r:Dv ops n sz i=true)(s:a.tmps.size=sz)(hi:i<n)(b:∀j,k j=(j==i||L j)){o:Oper}(ho:ops[i]? =some o){v:Value}(hv:∀t,bu ops i=some t->F.tmps[t]? =some v):Laid ops n F a0 k (a.put o.dst v):=by
 obtain⟨u,d,l,hd,c,q,p,_,_⟩:=og r;rw[ho]at l;injection l with e;subst e;rw[hd];refine⟨h.defers,by simp[Act.put,h.size],λj t hj hl ht=>?_,λt ht=>?_⟩
 ·by_cases g:j=i
  ·subst g;rw[c]at ht;injection ht with e;subst e;simp only[Act.put];have m:d<a.tmps.size:=by rw[s];exact q
   rw[jzi m,hv _ c]
  ·have f:d≠t:=λe=>p j hj g (by rw[e];exact ht);simp only[Act.put];rw[jql f];exact h.yes j t hj (by rw[b]at hl;simpa [g]using hl) ht
 ·have f:d≠t:=λe=>ht i hi (by rw[b];simp) (by rw[c,e]);simp only[Act.put];rw[jql f];exact h.no t λj hj hl=>ht j hj (by rw[b,hl];simp)
theorem Laid.agree{n i sz:Nat}{F a0 a:Act}{L:Nat->Bool}(h:Laid ops n F a0 L a)(l:Dv ops n sz i=true)(hF:∀t,(∀j,j<n->bu ops j≠some t)->F.tmps[t]? =a0.tmps[t]?){o:Oper}(ho:ops[i]? =some o)(f:∀e∈o.after,Region.binds .any e=true->L e.on=true):∀t∈o.looksAt ops,a.tmps[t]? =F.tmps[t]?:=by
 obtain⟨s,d,c,hd,p,r,q,m,k⟩:=og l;rw[ho]at c;injection c with e;subst e;intro t ht;by_cases hw:∃j,j<n/\bu ops j=some t;·obtain⟨j,hj,b⟩:=hw;obtain⟨e,he,g,rfl⟩:=k t ht j hj b;exact h.yes _ t hj (f e he g) b
 ·have hn:∀j,j<n->bu ops j≠some t:=λj hj he=>hw ⟨j,hj,he⟩;rw[hF t hn];exact h.no t λj hj _=>hn j hj
def bF(P:Program)(F:Act)(W:World):List Oper->List (Gs×Value)->Prop|o::os,v::vs=>aR P F W o v.1 v.2/\bF P F W os vs|_,_=>True
theorem bF.nil{F:Act}{W:World}{os:List Oper}:bF P F W os []:=by cases os<;>trivial
theorem bF.cons{F:Act}{W:World}{os:List Oper}{vs:List (Gs×Value)}{o:Oper}{gs:Gs}{v:Value}(h:aR P F W o gs v)(k:bF P F W os vs):bF P F W (o::os) ((gs,v)::vs):=⟨h,k⟩
theorem bF.at{F:Act}{W:World}:∀{os:List Oper}{vs:List (Gs×Value)}{i:Nat}{o:Oper}{v:Gs×Value},bF P F W os vs->os[i]? =some o->vs[i]? =some v->aR P F W o v.1 v.2|[],_,_,_,_,_,h,_=>by simp at h|_::_,[],_,_,_,_,_,h=>by simp at h|o::os,v::vs,0,_,_,hr,h,k=>by simp at h k;subst h k;exact hr.1|o::os,v::vs,i+1,_,_,hr,h,k=>bF.at (i:=i) hr.2 (by simpa using h) (by simpa using k)
def wS(ops:Array Oper):List Oper->List (Gs×Value)->Bool|o::os,v::vs=>jT ops o v.1&&wS ops os vs|_,_=>true
theorem EK:∀{os:List Oper}{vs:List (Gs×Value)}{i:Nat}{o:Oper}{v:Gs×Value},wS ops os vs=true->os[i]? =some o->vs[i]? =some v->jT ops o v.1=true|[],_,_,_,_,_,h,_=>by simp at h|_::_,[],_,_,_,_,_,h=>by simp at h|o::os,v::vs,0,_,_,hr,h,k=>by simp at h k;subst h k;rw[wS,qqn]at hr;exact hr.1|o::os,v::vs,i+1,_,_,hr,h,k=>by rw[wS,qqn]at hr;exact EK (i:=i) hr.2 (by simpa using h) (by simpa using k)
theorem Jn(n:Nat)(F a0:Act)(w0:World)(u:List Value)(hn:u.length=n)(n0:wO ops n a0.tmps.size=true)(hF:F=lD ops 0 u a0)(q0:∀W,Below w0.heap.size w0 W->∀(i:Nat)(o:Oper)(v:Value),ops[i]? =some o->u[i]? =some v->∃gs,jT ops o gs=true/\aR P F W o gs v)(d0:∀W,Below w0.heap.size w0 W->wpList P ops Q (ops.toList.drop n) F W): ∀(fuel:Nat)(listed:Array Bool)(a:Act)(w:World),listed.size=ops.size->(∀j,n<=j->j<ops.size->listed.getD j true=false)->((List.range ops.size).filter λj=>!listed.getD j true).length<=fuel->Below w0.heap.size w0 w->Laid ops n F a0 (λj=>listed.getD j false) a->wpAny P .any ops Q fuel listed a w:=by
 have hk:=n0;unfold wO at hk;simp only[qqd]at hk;obtain⟨⟨⟨⟨r0,x0⟩,s0⟩,M⟩,l⟩:=hk;have E:∀t,(∀j,j<n->bu ops j≠some t)->F.tmps[t]? =a0.tmps[t]?:=λt ht=>by rw[hF];exact wU u 0 a0 t (λj hj=>by rw[qja];exact ht j oqo)
 have R:F.tmps.size=a0.tmps.size:=by rw[hF];exact(lay_size u 0 a0).1
 have same:∀(listed:Array Bool)(j:Nat),j<listed.size->listed.getD j false=listed.getD j true:=by intro listed j hj;simp[hj]
 have p0:∀(listed:Array Bool),listed.size=ops.size->∀m,m<=n->(∀j,j<m->listed.getD j false=true\/j∉Region.ready .any ops listed)->∀j,j<m->listed.getD j false=true:=by intro listed f m hm h j;induction j using Nat.strongRecOn with|ind j ih=>
   intro hj;rcases h j hj with h|h;·exact h
   ·cases hl:listed.getD j false with|true=>rfl|false=>exfalso;obtain⟨o,d,ho,_,_,_,_,H,_⟩:=og (M j oqo);refine h (mem_ready.2 ⟨by rw[<-same listed j oqo];exact hl,o,ho,λe he c=>ih e.on (H e he c) (by have:=H e he c;omega)⟩)
 have done:∀(listed:Array Bool)(a:Act)(w:World),listed.size=ops.size->(∀j,n<=j->j<ops.size->listed.getD j true=false)->Below w0.heap.size w0 w->Laid ops n F a0 (λj=>listed.getD j false) a->(∀j,j<n->listed.getD j false=true)->∀fuel,ops.size-n<=fuel->wpAny P .any ops Q fuel listed a w:=by
  intro listed a w f q c hl g fuel J;have S:a=F:=hl.all E g;subst S;have hf:=d0 w c;by_cases y0:n=ops.size
  ·have hr:Region.ready .any ops listed=[]:=by cases hr:Region.ready .any ops listed with|nil=>rfl|cons i r=>
     have hi:i∈Region.ready .any ops listed:=by rw[hr];simp
     obtain⟨h0,o,ho,_⟩:=mem_ready.1 hi;have s:=(qqs.1 ho).1;have:=g i oqo;rw[same listed i oqo,h0]at this;cases this
   have hd:ops.toList.drop n=[]:=jxe (by simp;omega);rw[hd]at hf;cases fuel with|zero=>exact⟨hr,hf⟩|succ fuel=>exact⟨λ_=>hf,λi hi=>by rw[hr]at hi;simp at hi⟩
  ·have e1:ops.size=n+1:=by omega
   obtain⟨fuel,rfl⟩:∃k,fuel=k+1:=⟨fuel-1,by omega⟩;have B:n<ops.size:=oqo;have C:ops[n]? =some ops[n]:=jqd B;have hd:ops.toList.drop n=[ops[n]]:=by rw[jqo (by simpa using B)];rw[jxe (by simp;omega)];simp
   rw[hd]at hf;unfold F7 at l;rw[C]at l;simp only[qqn,qqw,qzg,jxr]at l;have K:n∈Region.ready .any ops listed:=mem_ready.2 ⟨q n (qqf _) B,_,C,λe he c=>g _ (by have:=l.2 e he;rw[c]at this;simpa using this)⟩;refine⟨λhr=>by rw[hr]at K;simp at K,λi hi=>?_⟩;have y:i=n:=by
    obtain⟨h0,o,ho,_⟩:=mem_ready.1 hi;have s:=(qqs.1 ho).1;rcases Nat.lt_or_ge i n with h|h;·have:=g i h;rw[same listed i oqo,h0]at this;cases this
    ·omega
   subst y;have o0:wpOp P ops Q i (wpList P ops Q []) a w:=by unfold Go.wpOp;rw[C];exact hf
   refine wpOp_mono (λO w' A=>?_) o0;have A:Q .normal O w':=A;have N:Region.ready .any ops (listed.setIfInBounds i true)=[]:=by cases hr:Region.ready .any ops (listed.setIfInBounds i true)with|nil=>rfl|cons k r=>
     have hk:k∈Region.ready .any ops (listed.setIfInBounds i true):=by rw[hr];simp
     obtain⟨h0,o,ho,_⟩:=mem_ready.1 hk;have s:=(qqs.1 ho).1;by_cases z:i=k;·subst z;simp[f,s]at h0
     ·rw[getD_set_ne true z]at h0;have:=g k oqo;rw[same listed k oqo,h0]at this;cases this
   cases fuel with|zero=>exact⟨N,A⟩|succ fuel=>exact⟨λ_=>A,λk hk=>by rw[N]at hk;simp at hk⟩
 intro fuel;induction fuel with
 |zero=>
  intro listed a w f q J c hl;have L:∀j,j<ops.size->listed.getD j true=true:=λj hj=>by cases x:listed.getD j true with|true=>rfl|false=>have:j∈(List.range ops.size).filter λj=>!listed.getD j true:=jzt.2 ⟨qzg.2 hj,by simp[x]⟩;have:=List.length_pos_of_mem this;omega
  refine done listed a w f q c hl (λj hj=>by rw[same listed j oqo];exact L j oqo) 0 ?_;rcases Nat.lt_or_ge n ops.size with h|h;·have h1:=q n (qqf _) h;have h2:=L n h;rw[h1]at h2;cases h2
  ·omega|succ fuel ih=>
  intro listed a w f q J c hl;by_cases g:∀j,j<n->listed.getD j false=true;·exact done listed a w f q c hl g (fuel+1) oqo
  ·refine⟨λhr=>?_,λi hi=>?_⟩;·exfalso;exact g (p0 listed f n (qqf _) (λj hj=>Or.inr (by rw[hr];simp)))
   ·obtain⟨h0,o,ho,G⟩:=mem_ready.1 hi;have s:=(qqs.1 ho).1;have y:i<n:=by
     rcases Nat.lt_or_ge i n with h|h;·exact h
     ·exfalso;obtain rfl:i=n:=oqo;refine g λj hj=>?_;unfold F7 at l;rw[ho]at l;simp only[qqn,qqw,qzg]at l;have:=l.1 j hj;unfold needs at this;rw[<-Array.any_toList,jqv]at this;obtain⟨e,he,x⟩:=this;have he:e∈o.after:=jjd.1 he;simp only[qqn,jqz]at x;obtain⟨j0,rfl⟩:=x;exact G e he j0
    obtain⟨v,hv⟩:∃v,u[i]? =some v:=⟨_,qqh oqo⟩;have D:=M i y;have T:=hl.agree D E ho (λe he V=>G e he V);obtain⟨gs,e0,i0⟩:=q0 w c i o v ho hv;refine aR.wpOp ho (λcs b=>Region.noSelect_spec r0 i o cs b ho) e0 i0 T (λW' U=>?_);obtain⟨o',d,a1,hd,I,Z,Y,_,_⟩:=og D;have X:((List.range ops.size).filter λj=>!(listed.setIfInBounds i true).getD j true).length<=fuel:=by
     have d1:((List.range ops.size).filter λj=>!(listed.setIfInBounds i true).getD j true).length<((List.range ops.size).filter λj=>!listed.getD j true).length:=by
      have m0:i∈(List.range ops.size).filter λj=>!listed.getD j true:=jzt.2 ⟨qzg.2 s,by simp[h0]⟩;have e:((List.range ops.size).filter λj=>!(listed.setIfInBounds i true).getD j true)=((List.range ops.size).filter λj=>!listed.getD j true).filter (λj=>j !=i):=by
       rw[List.filter_filter];refine List.filter_congr λj hj=>?_;by_cases p:i=j;·subst p;simp[f,s]
       ·rw[getD_set_ne true p];simp[Ne.symm p]
      rw[e];refine List.length_filter_lt_length_iff_exists.2 ⟨i,m0,by simp⟩
     omega
    refine ih _ _ _ (by simp[f]) (λj hj l0=>?_) X (c.trans (U.mono c.size)) ?_;·rw[getD_set_ne true oqo];exact q j hj l0
    ·refine hl.put D (by rw[hl.size,R]) y (λj=>?_) ho (λt ht=>?_)
     ·by_cases p:i=j;·subst p;simp[f,s]
      ·rw[getD_set_ne false p];simp[Ne.symm p]
     ·rw[hF];rw[I]at ht;injection ht with e;subst e;exact Fz u 0 a0 i d v hv (by rw[qja];exact I) Z (λk hk z=>by rw[qja];exact Y k oqo z)
theorem Gr(n:Nat)(F a0:Act)(w0:World)(c:List Value)(hn:c.length=n)(K:wO ops n a0.tmps.size=true)(hF:F=lD ops 0 c a0)(M:∀W,Below w0.heap.size w0 W->∀(i:Nat)(o:Oper)(v:Value),ops[i]? =some o->c[i]? =some v->∃gs,jT ops o gs=true/\aR P F W o gs v)(E:∀W,Below w0.heap.size w0 W->wpList P ops Q (ops.toList.drop n) F W): ∀(r i:Nat)(a:Act)(w:World),r=n-i->i<=n->Below w0.heap.size w0 w->Laid ops n F a0 (λj=>decide (j<i)) a->wpList P ops Q (ops.toList.drop i) a w:=by
 have hk:=K;unfold wO at hk;simp only[qqd]at hk;obtain⟨⟨⟨⟨N,T⟩,R⟩,L⟩,S⟩:=hk;have l:∀t,(∀j,j<n->bu ops j≠some t)->F.tmps[t]? =a0.tmps[t]?:=λt ht=>by rw[hF];exact wU c 0 a0 t (λj hj=>by rw[qja];exact ht j oqo)
 have u:F.tmps.size=a0.tmps.size:=by rw[hF];exact(lay_size c 0 a0).1
 intro r;induction r with|zero=>intro i a w hr hi f hl;obtain rfl:i=n:=oqo;have x:a=F:=hl.all l (λj hj=>by simpa using hj);rw[x];exact E w f|succ r ih=>
  intro i a w hr hi f hl;have p:i<n:=oqo;have g:=L i p;obtain⟨o,d,ho,hd,m,D,C,A,U⟩:=og g;have s:=(qqs.1 ho).1;have J:ops.toList[i]'(by simpa using s)=o:=by have:=(qqs.1 ho).2;simpa using this
  obtain⟨v,hv⟩:∃v,c[i]? =some v:=⟨_,qqh oqo⟩;rw[jqo (by simpa using s),J];have y:=hl.agree g l ho (λe he B=>by have:=A e he B;simpa using this);have hw:wpOp P ops Q i (wpList P ops Q (ops.toList.drop (i+1))) a w:=by
   obtain⟨gs,G,H⟩:=M w f i o v ho hv;refine aR.wpOp ho (λcs b=>Region.noSelect_spec N i o cs b ho) G H y (λO z=>?_);refine ih (i+1) _ _ oqo oqo (f.trans (z.mono f.size)) ?_;refine hl.put g (by rw[hl.size,u]) p (λj=>?_) ho (λt ht=>?_)
   ·by_cases q:j=i;·subst q;simp
    ·simp only[show(j==i)=false by simpa using q,Bool.false_or];by_cases h:j<i;·simp[h,show j<i+1 by omega]
     ·simp[h,show¬j<i+1 by omega]
   ·rw[hF];rw[m]at ht;injection ht with e;subst e;exact Fz c 0 a0 i d v hv (by rw[qja];exact m) D (λk hk I=>by rw[qja];exact C k oqo I)
  unfold Go.wpOp at hw;rw[ho]at hw;exact hw
end
theorem dA{P:Program}{Q:Exit->Act->World->Prop}{id:Nat}{d:Bool}{l:List Oper}(vs:List (Gs×Value)){a0:Act}{w0:World}(hm:P.follows .mixedOrders=true)(b:(wO l.toArray vs.length a0.tmps.size&&wS l.toArray l vs)=true)(h:∀F:Act,F=lD l.toArray 0 (vs.map (·.2)) a0->(∀W,Below w0.heap.size w0 W->bF P F W l vs)/\∀W,Below w0.heap.size w0 W->wpList P l.toArray Q (l.drop vs.length) F W):(Code.region id l.toArray d).wp P Q a0 w0:=by
 rw[qqn]at b;obtain⟨b,p⟩:=b;obtain⟨h1,h2⟩:=h _ rfl;obtain⟨a,c⟩:∃a,a=vs.map (·.2):=⟨_,rfl⟩;have e:a.length=vs.length:=by rw[c,qqv]
 rw[<-c]at h1 h2;have k:=(lay_size (ops:=l.toArray) a 0 a0);have g:∀W,Below w0.heap.size w0 W->∀(i:Nat)(o:Oper)(v:Value),(l.toArray)[i]? =some o->a[i]? =some v->∃gs,jT l.toArray o gs=true/\aR P (lD l.toArray 0 a a0) W o gs v:= λW n i o v ho hv=>by
   rw[c,qqp,Option.map_eq_some_iff]at hv;obtain⟨u,hu,rfl⟩:=hv;have f:l[i]? =some o:=by simpa using ho
   exact⟨u.1,EK (i:=i) p f hu,(h1 W n).at (i:=i) f hu⟩
 have start:∀L:Nat->Bool,(∀j,L j=false)->Laid l.toArray vs.length (lD l.toArray 0 a a0) a0 L a0:=λL m=>⟨k.2.symm,k.1.symm,λj t _ hl=>(by rw[m]at hl;cases hl),λ_ _=>rfl⟩
 cases d with|true=>
  refine wp_region_any hm (Jn vs.length _ a0 w0 a e b rfl g h2 _ _ _ _ (by simp) (λj _ hj=>?_) ?_ ⟨rfl,rfl,rfl,qqf _,λ_ _=>rfl⟩ (start _ λj=>?_));·simp at hj;simp[hj]
  ·exact qzi (jzy _ _) (by simp)
  ·simp only[qqg,Array.getElem?_replicate];split<;>rfl|false=>have:=Gr vs.length _ a0 w0 a e b rfl g h2 vs.length 0 a0 w0 oqo oqo (qjk _ _) (start _ λj=>by simp);exact wp_region_lit (by simpa using this)
theorem fK{P:Program}{Q:Exit->Act->World->Prop}{id:Nat}{a:Bool}{l:List Oper}(vs:List (Gs×Value)){a0:Act}{w0:World}(hm:P.follows .mixedOrders=true)(b:(wO l.toArray vs.length a0.tmps.size&&wS l.toArray l vs)=true)(h:∀F A:Act,A=a0->F=lD l.toArray 0 (vs.map (·.2)) A->(∀W,Below w0.heap.size w0 W->bF P F W l vs)/\∀W,Below w0.heap.size w0 W->wpList P l.toArray Q (l.drop vs.length) F W):(Code.region id l.toArray a).wp P Q a0 w0:=dA vs hm b λF hF=>h F a0 rfl hF
def j6:List (Nat×Value)->Act->Act|[],a=>a|(k,v)::r,a=>j6 r (a.put (some k) v)
def dR(F:Act)(L:List (Nat×Value)):Prop:=(L.map λp=>F.tmps[p.1]?)=(L.map λp=>some p.2)
theorem dR.at{F:Act}{L:List (Nat×Value)}(h:dR F L)(i:Nat){k:Nat}{v:Value}(e:L[i]? =some (k,v)):F.tmps[k]? =some v:=by
 have:(L.map λp=>F.tmps[p.1]?)[i]? =(L.map λp=>some p.2)[i]?:=by rw[show(L.map λp=>F.tmps[p.1]?)=_ from h]
 rw[qqp,qqp,e]at this;simpa using this
def gd(b a:Bool)(v:Value):Value:=match b,a with|true,true=>v|false,false=>v|_,_=>undef
theorem iL(v:Value):gd false false v=v:=rfl
theorem iR(v:Value):gd true true v=v:=rfl
section
variable {P:Program}{F:Act}{W:World}{o:Oper}{v:Value}
theorem aR.val(h:(execOp F.eval o).run P W=.ok (.value v) W):aR P F W o none v:=by unfold aR isGo;rw[h];simp only[jzo];exact⟨trivial,qjk _ _⟩
theorem aR.call(f:FuncId)(args:Array Value)(h:(execOp F.eval o).run P W=.ok (.enter f args) W)(hc:Calls P f args W (λe a=>e=.returned v/\Below W.heap.size W a)):aR P F W o none v:=by unfold aR isGo;rw[h];simp only[jzo];exact hc
theorem aR.Qm{s:Nat}{want b:Bool}(a:F.tmps[s]? =some (.bool b))(h:b=want->(execOp F.eval o).run P W=.ok (.value v) W):aR P F W o (some (s,want)) (gd b want v):=by
 unfold aR isGo;simp only[a];by_cases e:b=want;·rw[h e,qzb (by simpa using e)];subst e;exact⟨by cases b<;>rfl,qjk _ _⟩
 ·rw[qzc (by simpa using e)];revert e;cases b<;>cases want<;>simp[gd]
theorem aR.VW{s:Nat}{want b:Bool}(f:FuncId)(args:Array Value)(d:F.tmps[s]? =some (.bool b))(h:b=want->(execOp F.eval o).run P W=.ok (.enter f args) W)(hc:b=want->Calls P f args W (λe a=>e=.returned v/\Below W.heap.size W a)):aR P F W o (some (s,want)) (gd b want v):=by
 unfold aR isGo;simp only[d];by_cases e:b=want
 ·rw[h e,qzb (by simpa using e)];have:=hc e;subst e;have c:gd b b v=v:=by cases b<;>rfl
  rw[c];exact this
 ·rw[qzc (by simpa using e)];revert e;cases b<;>cases want<;>simp[gd]
theorem Bt{s:Nat}{w0 a b b2:Bool}(c:F.tmps[s]? =some (gd b w0 (.bool b2))):isGo F (some (s,a))=(b==w0&&b2==a):=by unfold isGo;simp only[c];cases b<;>cases w0<;>simp[gd]<;>rfl
theorem wE{b w0:Bool}(h:¬b=w0)(v:Value):gd b w0 v=undef:=by revert h;cases b<;>cases w0<;>simp[gd]
theorem nE{b w0:Bool}(h:b=w0)(v:Value):gd b w0 v=v:=by subst h;cases b<;>rfl
theorem aR.Jh{s:Nat}{w0 want b b2:Bool}(c:F.tmps[s]? =some (gd b w0 (.bool b2)))(h:b=w0->b2=want->(execOp F.eval o).run P W=.ok (.value v) W):aR P F W o (some (s,want)) (gd b w0 (gd b2 want v)):=by
 unfold aR;rw[Bt c];by_cases e:b=w0
 ·by_cases a:b2=want;·rw[h e a,qzb (by simp[e,a]),nE e,nE a];exact⟨rfl,qjk _ _⟩
  ·rw[qzc (by simp[a]),nE e,wE a]
 ·rw[qzc (by simp[e]),wE e]
theorem aR.UL{s:Nat}{w0 want b b2:Bool}(f:FuncId)(args:Array Value)(d:F.tmps[s]? =some (gd b w0 (.bool b2)))(h:b=w0->b2=want->(execOp F.eval o).run P W=.ok (.enter f args) W)(hc:b=w0->b2=want->Calls P f args W (λe c=>e=.returned v/\Below W.heap.size W c)):aR P F W o (some (s,want)) (gd b w0 (gd b2 want v)):=by
 unfold aR;rw[Bt d];by_cases e:b=w0
 ·by_cases a:b2=want;·rw[h e a,qzb (by simp[e,a]),nE e,nE a];exact hc e a
  ·rw[qzc (by simp[a]),nE e,wE a]
 ·rw[qzc (by simp[e]),wE e]
def isB(u:Value)(a:Bool):Bool:=match u with| .bool b=>b==a|_=>false
theorem aR.skip{s:Nat}{want:Bool}{u:Value}(a:F.tmps[s]? =some u)(hu:isB u want=false):aR P F W o (some (s,want)) undef:=by
 have e:isGo F (some (s,want))=isB u want:=by unfold isGo;simp only[a];cases u<;>rfl
 unfold aR;rw[e,hu];simp
theorem aR.Rp{s:Nat}{want:Bool}(a:F.tmps[s]? =some (.bool want))(h:(execOp F.eval o).run P W=.ok (.value v) W):aR P F W o (some (s,want)) v:=by unfold aR isGo;simp only[a];rw[h];simp[qjk]
theorem aR.UN{s:Nat}{want:Bool}(f:FuncId)(args:Array Value)(b:F.tmps[s]? =some (.bool want))(h:(execOp F.eval o).run P W=.ok (.enter f args) W)(hc:Calls P f args W (λe a=>e=.returned v/\Below W.heap.size W a)):aR P F W o (some (s,want)) v:=by unfold aR isGo;simp only[b];rw[h];simpa using hc
theorem aR.to{gs:Gs}{u:Value}(e:v=u)(h:aR P F W o gs v):aR P F W o gs u:=e▸h
end
section
variable {P:Program}{F:Act}{W:World}{o:Oper}{v:Value}{os:List Oper}{vs:List (Gs×Value)}
theorem aj(h:(execOp F.eval o).run P W=.ok (.value v) W)(r:bF P F W os vs):bF P F W (o::os) ((none,v)::vs):=bF.cons (aR.val h) r
theorem af{s:Nat}{a b:Bool}(c:F.tmps[s]? =some (.bool b))(h:b=a->(execOp F.eval o).run P W=.ok (.value v) W)(r:bF P F W os vs):bF P F W (o::os) ((some (s,a),gd b a v)::vs):=bF.cons (aR.Qm c h) r
theorem aD{s:Nat}{a:Bool}{u:Value}(b:F.tmps[s]? =some u)(r:bF P F W os vs)(hu:isB u a=false:=by rfl):bF P F W (o::os) ((some (s,a),undef)::vs):=bF.cons (aR.skip b hu) r
theorem bV{s:Nat}{a:Bool}(b:F.tmps[s]? =some (.bool a))(h:(execOp F.eval o).run P W=.ok (.value v) W)(r:bF P F W os vs):bF P F W (o::os) ((some (s,a),v)::vs):=bF.cons (aR.Rp b h) r
theorem ow{s:Nat}{w0 a b b2:Bool}(c:F.tmps[s]? =some (gd b w0 (.bool b2)))(h:b=w0->b2=a->(execOp F.eval o).run P W=.ok (.value v) W)(r:bF P F W os vs):bF P F W (o::os) ((some (s,a),gd b w0 (gd b2 a v))::vs):=bF.cons (aR.Jh c h) r
theorem lH{s:Nat}{a b:Bool}(f:FuncId)(args:Array Value)(d:F.tmps[s]? =some (.bool b))(h:b=a->(execOp F.eval o).run P W=.ok (.enter f args) W)(hc:b=a->Calls P f args W (λe c=>e=.returned v/\Below W.heap.size W c))(r:bF P F W os vs):bF P F W (o::os) ((some (s,a),gd b a v)::vs):=bF.cons (aR.VW f args d h hc) r
theorem Qp{s:Nat}{a:Bool}(f:FuncId)(args:Array Value)(c:F.tmps[s]? =some (.bool a))(h:(execOp F.eval o).run P W=.ok (.enter f args) W)(hc:Calls P f args W (λe b=>e=.returned v/\Below W.heap.size W b))(r:bF P F W os vs):bF P F W (o::os) ((some (s,a),v)::vs):=bF.cons (aR.UN f args c h hc) r
theorem rTo{gs:Gs}{u:Value}(e:v=u)(h:aR P F W o gs v)(r:bF P F W os vs):bF P F W (o::os) ((gs,u)::vs):=bF.cons (aR.to e h) r
end
