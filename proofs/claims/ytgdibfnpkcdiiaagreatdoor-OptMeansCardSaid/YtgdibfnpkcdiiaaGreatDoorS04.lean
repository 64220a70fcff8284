/- Joint text: HDraw, OIn, HMem, OA, OSet, OMap, ODel, OKey. By an AI agent. -/
import Derived.Test.YtgdibfnpkcdiiaaGreatDoorSzy
import Derived.Test.YtgdibfnpkcdiiaaGreatDoorS03
import Derived.RangeFuncBox
import Derived.RangeFuncLeaves
import Derived.OrdersIn
import Derived.TacticsIn
import Derived.Test.YtgdibfnpkcdiiaaGreatDoorRows
import Derived.Test.YtgdibfnpkcdiiaaGreatDoorS00
import Derived.WalkKit
import Derived.WalkSpells
import Derived.WalkLawsBesides
import Derived.BigQuiet
import Derived.Deep.QuietTactic
import Derived.Deep.RegionHeld3
import Derived.Laws.EntriesVeiled
import Derived.BigCall
import Derived.BigGuard
import Derived.Deep.LoopGhost
import Derived.Deep.DeepCutAuto
import Derived.Laws.Bits64b
import Derived.Maps.OwnSet
import Derived.Maps.RangeWalk
import Derived.Lib.SlMapFilter
import Derived.Shelf.SlMaps.DeleteFunc
import Derived.DeepKeys4
import Derived.ChangeKeysEq
set_option linter.all false
set_option maxRecDepth 100000
set_option maxHeartbeats 64000000
namespace Go.Proofs.YtgdibfnpkcdiiaaGreatDoor
def eF:Tryz.prog.follows .mixedOrders=true:=kqk
def gT{fn:Func}{R:Ending->World->Prop}{a:Act}{w:World}{cs:Array Value}{p:Tmp}(g:Nat)(d:w.heap[g]? =some (.cells cs 71 (0,0)))(c:R (.returned (.agg cs)) w)(hf:fn.results=#[.cell p 71]:=by exact rfl)(h:a.tmps.getD p undef=.pointer (some ⟨g,0,none⟩):=by exact rfl)(hi:(Tryz.prog.info? 71).map (·.size)=some cs.size:=by kernel_rfl)(hd:a.defers=[]:=by exact rfl):bodyPost Tryz.prog fn R .ret a w:=jxp (jjf hf _ _ g 71 _ (0,0) _ h d Tryz.underlying71 rfl hi) hd c
open Go Go.RowKit
def qj(ops:Array Oper)(o:Oper):Gs:=match o.guard with|none=>none|some (g,w)=>match aW ops g with|some s=>some (s,w)|none=>none
def vsD(ops:Array Oper):List Oper->List Bool->List Told|o::os,m::ms=>(if m then some (qj ops o,undef)else none)::vsD ops os ms|_,_=>[]
def Bf(ops:Array Oper)(a:List Bool)(sz:Nat):Bool:=decide (a.length=ops.size)&&iI ops (vsD ops ops.toList a) sz
def tY(a:List Bool)(ops:Array Oper)(i:Nat):Bool:=(List.range ops.size).all λj=>!a.getD j false||(mark ops (i+1) [i]).contains j
section
variable {P:Program}{ops:Array Oper}{S:World->Prop}{Q:Act->Prop}
def nX(P:Program)(ops:Array Oper)(S:World->Prop)(Q:Act->Prop):List Oper->List Bool->Act->Prop|o::os,m::ms,a=>if m then(if Region.wanted o (yielded ops a.tmps)=true then∃v,(∀W,S W->(execOp a.eval o).run P W=.ok (.value v) W)/\nX P ops S Q os ms (a.put o.dst v)else nX P ops S Q os ms (a.put o.dst undef))else nX P ops S Q os ms a|_,_,a=>Q a
def bJ{a:Act}(h:Q a):nX P ops S Q [] [] a:=h
def bg{a:Act}{o:Oper}{os:List Oper}{ms:List Bool}(h:nX P ops S Q os ms a):nX P ops S Q (o::os) (false::ms) a:=h
def aR{a:Act}{o:Oper}{os:List Oper}{ms:List Bool}(h:∀K:Act->Prop,(∀a,nX P ops S Q os ms a->K a)->if Region.wanted o (yielded ops a.tmps)=true then∃v,(∀W,S W->(execOp a.eval o).run P W=.ok (.value v) W)/\K (a.put o.dst v)else K (a.put o.dst undef)):nX P ops S Q (o::os) (true::ms) a:=h _ (λ_ h=>h)
def shape(vs:List Told):List (Option Gs):=vs.map (Option.map Prod.fst)
def xE:∀(os:List Oper)(ms:List Bool)(i:Nat)(a:Act),os.length=ms.length->(∀(j:Nat)(o:Oper),os[j]? =some o->ops[i+j]? =some o)->(∀(j:Nat)(o:Oper),os[j]? =some o->ms[j]? =some true->kT ops o (qj ops o)=true)->nX P ops S Q os ms a-> ∃vs:List Told,shape vs=shape (vsD ops os ms)/\Q (eX ops i vs a)/\∀(j:Nat)(o:Oper)(v:Gs×Value),os[j]? =some o->vs[j]? =some (some v)->kT ops o v.1=true/\∀W,S W->iB P (eX ops i (vs.take j) a) W o v.1 v.2
 |[],[],i,a,_,_,_,h=>⟨[],rfl,h,λj o v e=>by simp at e⟩|[],_::_,_,_,e,_,_,_=>by simp at e|_::_,[],_,_,e,_,_,_=>by simp at e|o::os,m::ms,i,a,hl,ho,q,h=>by
  have A:ops[i]? =some o:=by simpa using ho 0 o rfl
  have hd:aW ops i=o.dst:=by unfold aW;rw[A];rfl
  have y:os.length=ms.length:=by simpa using hl
  have z:∀(j:Nat)(c:Oper),os[j]? =some c->ops[i+1+j]? =some c:=λj c e=>by have:=ho (j+1) c (by simpa using e);rw[show i+1+j=i+(j+1)by omega];exact this
  have s:∀(j:Nat)(c:Oper),os[j]? =some c->ms[j]? =some true->kT ops c (qj ops c)=true:=λj c e d=>q (j+1) c (by simpa using e) (by simpa using d);cases m with
  |false=>
   obtain⟨vs,h1,h2,h3⟩:=xE os ms (i+1) a y z s h;refine⟨none::vs,?_,h2,λj c v l d=>?_⟩;·simp only[shape,vsD,jqx,qzc Bool.false_ne_true]at h1⊢;rw[h1]
   ·cases j with|zero=>simp at d|succ j=>exact h3 j c v (by simpa using l) (by simpa using d)
  |true=>
   have x:=q 0 o rfl rfl;have key:∀(v:Value),(∀W,S W->iB P a W o (qj ops o) v)->nX P ops S Q os ms (a.put o.dst v)->∃vs:List Told,shape vs=shape (vsD ops (o::os) (true::ms))/\Q (eX ops i vs a)/\∀(j:Nat)(c:Oper)(v:Gs×Value),(o::os)[j]? =some c->vs[j]? =some (some v)->kT ops c v.1=true/\∀W,S W->iB P (eX ops i (vs.take j) a) W c v.1 v.2:=λv r hw=>by obtain⟨vs,h1,h2,h3⟩:=xE os ms (i+1) (a.put o.dst v) y z s hw;exact⟨some (qj ops o,v)::vs,by simp only[shape,vsD,jqx,jzo]at h1⊢;rw[h1];rfl,by show Q (eX ops (i+1) vs (a.put (aW ops i) v));rw[hd];exact h2,λj c u l d=>by cases j with|zero=>simp at l d;subst l;subst d;exact⟨x,r⟩|succ j=>have:=h3 j c u (by simpa using l) (by simpa using d);refine⟨this.1,λW p=>?_⟩;show iB P (eX ops (i+1) (vs.take j) (a.put (aW ops i) v)) W c u.1 u.2;rw[hd];exact this.2 W p⟩
   have hw:=kK (F:=a) x;unfold nX at h;simp only[jzo]at h;split at h;·rename_i C;obtain⟨v,h1,h2⟩:=h;exact key v (λW p=>by unfold iB;rw[<-hw,qzb C];exact h1 W p) h2
   ·rename_i B;exact key undef (λW _=>by unfold iB;rw[<-hw,qzc B]) h
def zh{vs us:List Told}(h:shape vs=shape us)(j:Nat):(vs[j]?).map (Option.map Prod.fst)=(us[j]?).map (Option.map Prod.fst):=by have:=jqp (λl:List (Option Gs)=>l[j]?) h;simpa [shape]using this
def wC{vs us:List Told}(h:shape vs=shape us):vs.length=us.length:=by have:=jqp List.length h;simpa [shape]using this
def zt{vs us:List Told}(h:shape vs=shape us)(j:Nat):bz vs j=bz us j:=by have:=zh h j;unfold bz;cases hv:vs[j]? with
 |none=>cases hu:us[j]? with|none=>rfl|some u=>rw[hv,hu]at this;simp at this
 |some v=>cases hu:us[j]? with|none=>rw[hv,hu]at this;simp at this|some u=>rw[hv,hu]at this;cases v<;>cases u<;>simp at this<;>rfl
def TM{vs us:List Told}(h:shape vs=shape us)(j:Nat):mf vs j=mf us j:=by have:=zh h j;unfold mf;cases hv:vs[j]? with
 |none=>cases hu:us[j]? with|none=>rfl|some u=>rw[hv,hu]at this;simp at this
 |some v=>cases hu:us[j]? with|none=>rw[hv,hu]at this;simp at this|some u=>rw[hv,hu]at this;cases v<;>cases u<;>simp at this<;>rfl
def Dx{vs us:List Told}(h:shape vs=shape us)(sz:Nat):iI ops vs sz=iI ops us sz:=by
 have c:bz vs=bz us:=funext (zt h);have j:mf vs=mf us:=funext (TM h);have d:=wC h;have l:∀i,uT ops vs sz i=uT ops us sz i:=λi=>by unfold uT;cases hi:ops[i]? with|none=>rfl|some o=>have a:=zh h i;simp only[c,j,d];congr 1;cases hv:vs[i]? with
   |none=>cases hu:us[i]? with|none=>rfl|some u=>rw[hv,hu]at a;simp at a
   |some v=>cases hu:us[i]? with|none=>rw[hv,hu]at a;simp at a|some u=>
     rw[hv,hu]at a;cases v<;>cases u<;>simp at a;·rfl
     ·simp only[a]
 have m:∀i,zf ops vs i=zf ops us i:=λi=>by unfold zf;simp only[c,j,d]
 unfold iI;simp only[c,d,l,m]
def wL:∀(os:List Oper)(ms:List Bool)(j:Nat),os.length=ms.length->bz (vsD ops os ms) j=ms.getD j false|[],[],j,_=>by simp[vsD,bz]|[],_::_,_,h=>by simp at h|_::_,[],_,h=>by simp at h|o::os,m::ms,0,_=>by cases m<;>simp[vsD,bz]|o::os,m::ms,j+1,h=>by have:=wL os ms j (by simpa using h);simpa [vsD,bz]using this
def rE:∀(vs:List Told)(i j:Nat)(a:Act),eX ops i vs a=eX ops (i+min j vs.length) (vs.drop j) (eX ops i (vs.take j) a)|[],i,j,a=>by simp[eX]|v::vs,i,0,a=>by simp[eX]|none::vs,i,j+1,a=>by have:=rE vs (i+1) j a;simp only[List.take_succ_cons,List.drop_succ_cons,eX,qzv];rw[this];congr 1;omega|some v::vs,i,j+1,a=>by have:=rE vs (i+1) j (a.put (aW ops i) v.2);simp only[List.take_succ_cons,List.drop_succ_cons,eX,qzv];rw[this];congr 1;omega
def xK{F:Act}{W:World}:∀(os:List Oper)(vs:List Told),(∀(j:Nat)(o:Oper)(v:Gs×Value),os[j]? =some o->vs[j]? =some (some v)->iB P F W o v.1 v.2)->gu P F W os vs|[],[],_=>trivial|[],_::_,_=>trivial|_::_,[],_=>trivial|o::os,none::vs,h=>xK os vs λj o v a c=>h (j+1) o v (by simpa using a) (by simpa using c)|o::os,some v::vs,h=>⟨h 0 o v rfl rfl,xK os vs λj o v a c=>h (j+1) o v (by simpa using a) (by simpa using c)⟩
end
def wp_region_draw{P:Program}{Q:Exit->Act->World->Prop}{id:Nat}{l:List Oper}(d:List Bool)(S:World->Prop)(k:Nat){a0:Act}{w0:World}(hm:P.follows .mixedOrders=true)(X:∀c a E w,a.defers=E.defers->Q (.panic c) a w->Q (.panic c) E w)(p0:Bf l.toArray d a0.tmps.size=true)(hS:∀p,p.heap=w0.heap->Below w0.heap.size w0 p->S p)(h:nX P l.toArray S (λF=>∀(vs:List Told)(p:World),Hid (∀i,fO vs l.toArray i=tY d l.toArray i)->p.heap=w0.heap->Below w0.heap.size w0 p->wpAnyS P vs l.toArray Q S k d.toArray F p) l d a0):(Code.region id l.toArray true).wp P Q a0 w0:=by
 have hk:=p0;unfold Bf at hk;simp only[qqn,qqu,jxn]at hk;obtain⟨m0,N⟩:=hk;have u:l.length=d.length:=m0.symm;have D:=N;unfold iI at D;simp only[qqd]at D;obtain⟨⟨r0,_⟩,q0⟩:=D;have J:(vsD l.toArray l d).length=l.length:=by
  have:∀(os:List Oper)(ms:List Bool),os.length=ms.length->(vsD l.toArray os ms).length=os.length:=by intro os;induction os with
   |nil=>intro ms h;cases ms with|nil=>rfl|cons=>simp at h
   |cons o os ih=>intro ms h;cases ms with|nil=>simp at h|cons m ms=>simp[vsD,ih ms (by simpa using h)]
  exact this l d u
 have i0:∀(j:Nat)(o:Oper),l[j]? =some o->d[j]? =some true->kT l.toArray o (qj l.toArray o)=true:=λj o ho L=>by
  have hj:=(qqi.1 ho).1;have h1:=q0 j (by rw[J];exact hj);have s:bz (vsD l.toArray l d) j=true:=by rw[wL l d j u,qqm,L];rfl
  rw[qzb s]at h1;have hv:∀(os:List Oper)(ms:List Bool)(j:Nat)(o:Oper),os[j]? =some o->ms[j]? =some true->(vsD l.toArray os ms)[j]? =some (some (qj l.toArray o,undef)):=by intro os;induction os with|nil=>intro ms j o h;simp at h|cons o' os ih=>intro ms j o h h2;cases ms with|nil=>simp at h2|cons m ms=>cases j with|zero=>simp at h h2;subst h;subst h2;simp[vsD]|succ j=>simpa [vsD]using ih ms j o (by simpa using h) (by simpa using h2)
  have hv:=hv l d j o ho L;unfold uT at h1;have z:l.toArray[j]? =some o:=by simpa using ho
  rw[z]at h1;simp only[hv,qqn]at h1;exact h1.2
 obtain⟨vs,h1,h2,h3⟩:=xE l d 0 a0 u (λj o e=>by simpa using e) i0 h;have O:iI l.toArray vs a0.tmps.size=true:=by rw[Dx h1];simpa using N
 have s:∀j,bz vs j=d.getD j false:=λj=>by rw[zt h1,wL l d j u]
 have T:vs.length=l.length:=by rw[wC h1,J]
 have s0:∀(o:Oper),o∈l->∀cs b,o.op≠.select cs b:=λo ho=>by obtain⟨j,hj⟩:=jqs.1 ho;exact λcs b=>Region.noSelect_spec r0 j o cs b (by simpa using hj)
 have o0:∀i,fO vs l.toArray i=tY d l.toArray i:=λi=>by unfold fO tY;have:bz vs=λj=>d.getD j false:=funext s;rw[this]
 refine aL vs S k hm X O hS λF A p I hF d0 Z=>⟨λW Y=>?_,?_⟩
 ·subst I;refine xK l vs λj o v r x=>?_;have G:=(h3 j o v r x).2 W Y;have hj:=(qqi.1 r).1;have j0:bz vs j=true:=by unfold bz;rw[x]
  have B:=O;unfold iI at B;simp only[qqd]at B;have H:=B.2 j (by rw[T];exact hj);rw[qzb j0]at H;obtain⟨o',_,v',f1,_,_,_,_,_,_,U,V⟩:=mM H;have z:l.toArray[j]? =some o:=by simpa using r
  rw[z]at f1;obtain rfl:=jzt f1;have R:=rE (ops:=l.toArray) vs 0 j A;rw[qja,jqy (by rw[T];omega)]at R;have e0:∀t∈o.looksAt l.toArray,(eX l.toArray 0 (vs.take j) A).tmps[t]? =F.tmps[t]?:=λt ht=>by
   rw[hF,R];refine(l9 _ _ _ t λq C hd=>?_).symm;have M:bz vs (j+q)=true:=by unfold bz at C⊢;rw[jzs]at C;exact C
   rcases V t ht (j+q) (jd M) (by simpa using hd)with y|y;·obtain⟨e,he,hb,x0⟩:=kZ y;have:=(U e he hb).1;omega
   ·have:=qJ y.1;rw[M]at this;cases this
  obtain⟨q1,q2⟩:=nC (ops:=l.toArray) o (s0 o (qqr r)) _ _ e0;have K:=(h3 j o v r x).1;have w1:=kK (F:=eX l.toArray 0 (vs.take j) A) K;have w2:=kK (F:=F) K;unfold iB at G⊢;rw[<-w2,<-q2,w1];rw[<-q1];exact G
 ·have l0:((List.range l.length).map (bz vs)).toArray=d.toArray:=by
   congr 1;apply jqk;intro j;rw[qqp];by_cases hj:j<l.length;·rw[qqz hj,jqf,s,qqm,qqh oqo];rfl
   ·rw[qza (by simp;omega),qza oqo];rfl
  rw[l0,hF];subst I;exact h2 vs p (hqh o0) d0 Z
def jY(fn:FuncId)(tmps:Array Value)(ps:Array Tmp)(assign body:Code)(D:Nat)(st:LoopState)(a:Option Code):Loop:={state:=st,pending:=a,fn,tmps,params:=ps,assign,body,defers:=D}
def GU:Exit->Option (Option Code)| .normal=>some none| .ret=>some (some .ret)| .exit id=>some (some (.exit id))| .goto t=>some (some (.goto t))|_=>none
def Ry{F:Fence}{n:Nat}{P:Program}{l D:Nat}{fn:FuncId}{tmps:Array Value}{ps:Array Tmp}{assign body:Code}{W:World}{args:Array Value}{R:Ending->World->Prop}(hF:F.fn fn)(hl:W.heap[l]? =some (.loop (jY fn tmps ps assign body D .ready none)))(hs:args.size=ps.size)(h:assign.wpIn (F.inRound l) n P (Exit.then (λc a=>a.heap[l]? =some (.loop (jY fn tmps ps assign body D .ready none))/\body.wpIn (F.inRound l) n P (λe _ w'=>w'.heap[l]? =some (.loop (jY fn tmps ps assign body D .busy none))/\∃j,GU e=some j/\R (.returned (.bool j.isNone)) (w'.putObj l (.loop (jY fn tmps ps assign body D (if j.isNone then .ready else .done) j)))) c (a.putObj l (.loop (jY fn tmps ps assign body D .busy none)))) (λ_ _ _=>False))
   {tmps:=(ps.zip args).foldl (λt(p,v)=>t.setIfInBounds p v) tmps,defers:=[]} W):YieldAt F n P l args W R:=by have s:=run_yield (P:=P) (args:=args) hl hs;refine⟨fn,_,assign,body,s,roundIn_of_wpIn hF (wpIn_mono h ?_)⟩;rintro e c a d;cases e with|normal=>obtain⟨q,o⟩:=d;refine⟨_,run_beginRound q rfl,wpIn_mono o ?_⟩;rintro i u x⟨r,j,hj,m⟩;have he:=run_endRound (P:=P) j r;cases i<;>simp only[GU,qzk,reduceCtorEq]at hj<;>subst hj<;>exact⟨_,_,he,m⟩|_=>exact d
def pE(D:Nat):Deferred:={target:=.collected D,args:=#[]}
def Qp{F:Fence}{n:Nat}{P:Program}{g:Operand}{ps:Array Tmp}{assign body:Code}{Q:Exit->Act->World->Prop}{a:Act}{w:World}(s:F.round=none)(h1:1<=n){gf:Nat}{lb:Array Value}(r:a.eval g=.func (.func gf) #[] lb)(m:F.fn gf)(l:∀args w,(callFunc gf args).run P w=.ok (.enter gf args) w)(h:∀fn,F.fn fn->CallsIn F (n-1) P gf (#[.func (.yield (w.heap.size+1)) #[] #[]]++lb) ((w.alloc (.deferred (some []))).alloc (.loop (jY fn a.tmps ps assign body w.heap.size .ready none)))
   λe W=>(∃v,e=.returned v)/\((W.heap[w.heap.size+1]? =some (.loop (jY fn a.tmps ps assign body w.heap.size .ready none))/\Q .normal {a with defers:=pE w.heap.size::a.defers} (W.putObj (w.heap.size+1) (.loop (jY fn a.tmps ps assign body w.heap.size .exhausted none))))\/(∃c,W.heap[w.heap.size+1]? =some (.loop (jY fn a.tmps ps assign body w.heap.size .done (some c)))/\c.wpIn F n P Q {a with defers:=pE w.heap.size::a.defers} (W.putObj (w.heap.size+1) (.loop (jY fn a.tmps ps assign body w.heap.size .exhausted (some c))))))):(Code.rangeFunc g ps assign body).wpIn F n P Q a w:=by
 refine wpIn_rangeFunc ?_;intro fn q;rw[s];have hc:=h fn q;have he:=run_enterLoop_outer (P:=P) (w:=w) fn a.tmps ps assign body;revert hc he;generalize o:(w.alloc (.deferred (some []))).alloc (.loop (jY fn a.tmps ps assign body w.heap.size .ready none))=d;intro hc he;have p:(Instr.enterLoop fn a.tmps ps assign body none).run P w=.ok (w.heap.size+1,[pE w.heap.size]) d:=by rw[<-o];exact he
 have hr:(resolve a.eval (rangeCall g (w.heap.size+1)) 0).run P d=.ok {target:=.fn (.func gf) lb,args:=#[.func (.yield (w.heap.size+1)) #[] #[]]} d:=by simp only[resolve,r];simp[go_sem]
 have hi:(invoke (Target.fn (.func gf) lb) #[.func (.yield (w.heap.size+1)) #[] #[]]).run P d=.ok (.enter gf (#[.func (.yield (w.heap.size+1)) #[] #[]]++lb)) d:=by simp[invoke,go_sem,l]
 refine⟨w.heap.size+1,[pE w.heap.size],d,{target:=.fn (.func gf) lb,args:=#[.func (.yield (w.heap.size+1)) #[] #[]]},d,gf,#[.func (.yield (w.heap.size+1)) #[] #[]]++lb,d,?_,?_,?_,?_,λ_=>h1,?_⟩;·exact p
 ·exact hr
 ·intro x j;simp[Target.leads]at j;subst j;exact m
 ·exact hi
 ·refine hc.mono ?_;rintro e u⟨⟨v,rfl⟩,⟨hl,i⟩|⟨c,hl,i⟩⟩;·exact⟨none,_,run_endLoop hl (by simp[jY]),i⟩
  ·exact⟨some c,_,run_endLoop hl (by simp[jY]),i⟩
def Q9(l:Nat)(RC:LoopState->Option Code->Loop)(R:Ending->World->Prop)(e:Exit)(_:Act)(w':World):Prop:=w'.heap[l]? =some (.loop (RC .busy none))/\∃j,GU e=some j/\R (.returned (.bool j.isNone)) (w'.putObj l (.loop (RC (if j.isNone then .ready else .done) j)))
def Nq{F:Fence}{n:Nat}{P:Program}{l D:Nat}{fn:FuncId}{tmps:Array Value}{ps:Array Tmp}{assign body:Code}{W:World}{args:Array Value}{R:Ending->World->Prop}{RC:LoopState->Option Code->Loop}(d:RC=jY fn tmps ps assign body D)(hF:F.fn fn)(hl:W.heap[l]? =some (.loop (RC .ready none)))(hs:args.size=ps.size)(h:assign.wpIn (F.inRound l) n P (Exit.then (λc a=>a.heap[l]? =some (.loop (RC .ready none))/\body.wpIn (F.inRound l) n P (Q9 l RC R) c (a.putObj l (.loop (RC .busy none)))) (λ_ _ _=>False))
   {tmps:=(ps.zip args).foldl (λt(p,v)=>t.setIfInBounds p v) tmps,defers:=[]} W):YieldAt F n P l args W R:=by subst d;exact Ry hF hl hs h
def Px{F:Fence}{n:Nat}{P:Program}{g:Operand}{ps:Array Tmp}{assign body:Code}{Q:Exit->Act->World->Prop}{a:Act}{w:World}(m:F.round=none)(h1:1<=n){gf:Nat}{lb:Array Value}(l:a.eval g=.func (.func gf) #[] lb)(i:F.fn gf)(d:∀args w,(callFunc gf args).run P w=.ok (.enter gf args) w)(h:∀fn RC,F.fn fn->RC=jY fn a.tmps ps assign body w.heap.size->CallsIn F (n-1) P gf (#[.func (.yield (w.heap.size+1)) #[] #[]]++lb) ((w.alloc (.deferred (some []))).alloc (.loop (RC .ready none)))
   λe W=>(∃v,e=.returned v)/\((W.heap[w.heap.size+1]? =some (.loop (RC .ready none))/\Q .normal {a with defers:=pE w.heap.size::a.defers} (W.putObj (w.heap.size+1) (.loop (RC .exhausted none))))\/(∃c,W.heap[w.heap.size+1]? =some (.loop (RC .done (some c)))/\c.wpIn F n P Q {a with defers:=pE w.heap.size::a.defers} (W.putObj (w.heap.size+1) (.loop (RC .exhausted (some c))))))):(Code.rangeFunc g ps assign body).wpIn F n P Q a w:=Qp m h1 l i d (λfn j=>h fn _ j rfl)
def zy{P:Program}{Q:Exit->Act->World->Prop}{l:List Oper}(vs:List Told)(S:World->Prop)(k:Nat){a0:Act}{w0:World}(C:∀c a s w,a.defers=s.defers->Q (.panic c) a w->Q (.panic c) s w)(B:iI l.toArray vs a0.tmps.size=true)(hS:∀m,m.heap=w0.heap->Below w0.heap.size w0 m->S m)(h:∀(F A:Act)(m:World),A=a0->F=eX l.toArray 0 vs A->m.heap=w0.heap->Below w0.heap.size w0 m->(∀W,S W->gu P F W l vs)/\wpAnyS P vs l.toArray Q S k ((List.range l.length).map (bz vs)).toArray F m):wpAny P .any l.toArray Q l.toArray.size (Array.replicate l.toArray.size false) a0 {w0 with drawn:=w0.drawn+1}:=by
 have u:Below w0.heap.size w0 {w0 with drawn:=w0.drawn+1}:=⟨rfl,rfl,rfl,qqf _,λ_ _=>rfl⟩;obtain⟨h1,h2⟩:=h _ a0 {w0 with drawn:=w0.drawn+1} rfl rfl rfl u;have hS:=hS {w0 with drawn:=w0.drawn+1} rfl u;have r:=(sF (ops:=l.toArray) vs 0 a0);have q:∀j,(Array.replicate l.toArray.size false).getD j false=false:=λj=>by simp only[qqg,Array.getElem?_replicate];split<;>rfl
 have p:=B;unfold iI at p;simp only[qqd]at p;refine(yC S vs (eX l.toArray 0 vs a0) (by rw[r.1];exact B) C (λW D i o v ho hv=>(h1 W D).at (i:=i) (by simpa using ho) hv) _ _ _ _ (eX l.toArray 0 vs a0) (qzi (jxi _ _) (by simp))
  ⟨by simp,r.2.symm,r.1.symm,rfl,λt ht=>?_,λj v t hj ht=>?_,λ_ _=>rfl,λj o _ hl=>(by rw[q]at hl;cases hl),Or.inl hS,k,?_⟩);·exact(l9 vs 0 a0 t λj hj=>by rw[qja];exact ht j hj (q j)).symm
 ·have z:bz vs j=true:=by unfold bz;rw[hj]
  have y:=p.2 j (jd z);rw[qzb z]at y;obtain⟨o,d,J,ho,hd,x,G,I,_,E,_,_⟩:=mM y;rw[ht]at x;injection x with e;subst e;exact xL vs 0 a0 j t v hj (by rw[qja];exact ht) G λk hk H=>by rw[qja];exact E k (jd hk) H
 ·have e:canon vs (Array.replicate l.toArray.size false)=((List.range l.length).map (bz vs)).toArray:=by unfold canon;congr 1;simp only[jxm,jxn];refine jqj λj _=>?_;have:=q j;simp only[jxn]at this;rw[this];simp
  rw[e];exact h2
def sI{P:Program}{Q:Exit->Act->World->Prop}{l:List Oper}(d:List Bool)(S:World->Prop)(k:Nat){a0:Act}{w0:World}(X:∀c a E w,a.defers=E.defers->Q (.panic c) a w->Q (.panic c) E w)(p0:Bf l.toArray d a0.tmps.size=true)(hS:∀p,p.heap=w0.heap->Below w0.heap.size w0 p->S p)(h:nX P l.toArray S (λF=>∀(vs:List Told)(p:World),Hid (∀i,fO vs l.toArray i=tY d l.toArray i)->p.heap=w0.heap->Below w0.heap.size w0 p->wpAnyS P vs l.toArray Q S k d.toArray F p) l d a0):wpAny P .any l.toArray Q l.toArray.size (Array.replicate l.toArray.size false) a0 {w0 with drawn:=w0.drawn+1}:=by
 have hk:=p0;unfold Bf at hk;simp only[qqn,qqu,jxn]at hk;obtain⟨m0,N⟩:=hk;have u:l.length=d.length:=m0.symm;have D:=N;unfold iI at D;simp only[qqd]at D;obtain⟨⟨r0,_⟩,q0⟩:=D;have J:(vsD l.toArray l d).length=l.length:=by
  have:∀(os:List Oper)(ms:List Bool),os.length=ms.length->(vsD l.toArray os ms).length=os.length:=by intro os;induction os with
   |nil=>intro ms h;cases ms with|nil=>rfl|cons=>simp at h
   |cons o os ih=>intro ms h;cases ms with|nil=>simp at h|cons m ms=>simp[vsD,ih ms (by simpa using h)]
  exact this l d u
 have i0:∀(j:Nat)(o:Oper),l[j]? =some o->d[j]? =some true->kT l.toArray o (qj l.toArray o)=true:=λj o ho L=>by
  have hj:=(qqi.1 ho).1;have h1:=q0 j (by rw[J];exact hj);have s:bz (vsD l.toArray l d) j=true:=by rw[wL l d j u,qqm,L];rfl
  rw[qzb s]at h1;have hv:∀(os:List Oper)(ms:List Bool)(j:Nat)(o:Oper),os[j]? =some o->ms[j]? =some true->(vsD l.toArray os ms)[j]? =some (some (qj l.toArray o,undef)):=by intro os;induction os with|nil=>intro ms j o h;simp at h|cons o' os ih=>intro ms j o h h2;cases ms with|nil=>simp at h2|cons m ms=>cases j with|zero=>simp at h h2;subst h;subst h2;simp[vsD]|succ j=>simpa [vsD]using ih ms j o (by simpa using h) (by simpa using h2)
  have hv:=hv l d j o ho L;unfold uT at h1;have z:l.toArray[j]? =some o:=by simpa using ho
  rw[z]at h1;simp only[hv,qqn]at h1;exact h1.2
 obtain⟨vs,h1,h2,h3⟩:=xE l d 0 a0 u (λj o e=>by simpa using e) i0 h;have O:iI l.toArray vs a0.tmps.size=true:=by rw[Dx h1];simpa using N
 have s:∀j,bz vs j=d.getD j false:=λj=>by rw[zt h1,wL l d j u]
 have T:vs.length=l.length:=by rw[wC h1,J]
 have s0:∀(o:Oper),o∈l->∀cs b,o.op≠.select cs b:=λo ho=>by obtain⟨j,hj⟩:=jqs.1 ho;exact λcs b=>Region.noSelect_spec r0 j o cs b (by simpa using hj)
 have o0:∀i,fO vs l.toArray i=tY d l.toArray i:=λi=>by unfold fO tY;have:bz vs=λj=>d.getD j false:=funext s;rw[this]
 refine zy vs S k X O hS λF A p I hF d0 Z=>⟨λW Y=>?_,?_⟩
 ·subst I;refine xK l vs λj o v r x=>?_;have G:=(h3 j o v r x).2 W Y;have hj:=(qqi.1 r).1;have j0:bz vs j=true:=by unfold bz;rw[x]
  have B:=O;unfold iI at B;simp only[qqd]at B;have H:=B.2 j (by rw[T];exact hj);rw[qzb j0]at H;obtain⟨o',_,v',f1,_,_,_,_,_,_,U,V⟩:=mM H;have z:l.toArray[j]? =some o:=by simpa using r
  rw[z]at f1;obtain rfl:=jzt f1;have R:=rE (ops:=l.toArray) vs 0 j A;rw[qja,jqy (by rw[T];omega)]at R;have e0:∀t∈o.looksAt l.toArray,(eX l.toArray 0 (vs.take j) A).tmps[t]? =F.tmps[t]?:=λt ht=>by
   rw[hF,R];refine(l9 _ _ _ t λq C hd=>?_).symm;have M:bz vs (j+q)=true:=by unfold bz at C⊢;rw[jzs]at C;exact C
   rcases V t ht (j+q) (jd M) (by simpa using hd)with y|y;·obtain⟨e,he,hb,x0⟩:=kZ y;have:=(U e he hb).1;omega
   ·have:=qJ y.1;rw[M]at this;cases this
  obtain⟨q1,q2⟩:=nC (ops:=l.toArray) o (s0 o (qqr r)) _ _ e0;have K:=(h3 j o v r x).1;have w1:=kK (F:=eX l.toArray 0 (vs.take j) A) K;have w2:=kK (F:=F) K;unfold iB at G⊢;rw[<-w2,<-q2,w1];rw[<-q1];exact G
 ·have l0:((List.range l.length).map (bz vs)).toArray=d.toArray:=by
   congr 1;apply jqk;intro j;rw[qqp];by_cases hj:j<l.length;·rw[qqz hj,jqf,s,qqm,qqh oqo];rfl
   ·rw[qza (by simp;omega),qza oqo];rfl
  rw[l0,hF];subst I;exact h2 vs p (hqh o0) d0 Z
def UD{P:Program}{o:Oper}{a:Act}{w:World}{K:Act->World->Prop}{Q:Exit->Act->World->Prop}{l n:Nat}(hd:∀c,o.op≠.defer c)(h:Oper.wp P o a w K Q):Oper.wpIn (Fence.wide.inRound l) n P o a w K Q:=by refine⟨λ_ _=>trivial,?_⟩;rw[Oper.semAt_eq _ _ _ hd];unfold Oper.wp at h;generalize(execOp a.eval o).run P w=r at h⊢;cases r with
 |ok x w'=>cases x with|value v=>exact h|skip=>exact h|defer d=>exact h|enter f args=>exact⟨λi=>by simp[Fence.wide]at i,callsIn_wide.2 h⟩|row r args=>exact⟨λi=>by simp[Fence.wide]at i,λc cs _=>let⟨v,j,hr,hs⟩:=h c cs;⟨v,j,hr,stepsIn_wide.2 hs⟩⟩|_=>exact h.elim
 |halt x w'=>cases x<;>exact h
def tL(l:List Oper):Bool:=l.all λo=>match o.op with| .defer _=>false|_=>true
def Bn{l:List Oper}(h:tL l=true){i:Nat}{o:Oper}(ho:l.toArray[i]? =some o):∀c,o.op≠.defer c:=λc e=>by have:=qqw.1 h o (qqr (by simpa using ho));rw[e]at this;cases this
def GD{P:Program}{Q:Exit->Act->World->Prop}{l n:Nat}{os:List Oper}(hd:tL os=true)(c:¬LetsOut Q):∀(fuel:Nat)(listed:Array Bool)(a:Act)(w:World),wpAny P .any os.toArray Q fuel listed a w->wpAnyIn (Fence.wide.inRound l) n P .any os.toArray Q fuel listed a w|0,_,_,_,h=>h|fuel+1,listed,a,w,h=>by refine⟨h.1,λi hi=>?_⟩;have h2:=wpOp_mono (λa w=>GD (l:=l) (n:=n) hd c fuel (listed.setIfInBounds i true) a w) (h.2 i hi);unfold wpOp at h2;unfold wpOpIn;cases ho:os.toArray[i]? with|none=>rw[ho]at h2;exact h2|some o=>
   rw[ho]at h2;simp only at h2⊢;by_cases hw:Region.wanted o (yielded os.toArray a.tmps)=true;·rw[qzb hw]at h2⊢;exact UD (Bn hd ho) (h2.resolve_right λd=>c d.2)
   ·rw[qzc hw]at h2⊢;exact⟨λ_ _=>trivial,h2⟩
def Il{P:Program}{Q:Exit->Act->World->Prop}{l n:Nat}{os:List Oper}(hd:tL os=true)(d:¬LetsOut Q):∀(c:List Nat)(a:Act)(w:World),wpOps P os.toArray Q c a w->wpOpsIn (Fence.wide.inRound l) n P os.toArray Q c a w|[],_,_,h=>h|i::c,a,w,h=>by rw[wpOps_cons]at h;rw[wpOpsIn_cons];have h2:=wpOp_mono (λa w=>Il (l:=l) (n:=n) hd d c a w) h;unfold wpOp at h2;unfold wpOpIn;cases ho:os.toArray[i]? with|none=>rw[ho]at h2;exact h2|some o=>
   rw[ho]at h2;simp only at h2⊢;by_cases hw:Region.wanted o (yielded os.toArray a.tmps)=true;·rw[qzb hw]at h2⊢;exact UD (Bn hd ho) (h2.resolve_right λj=>d j.2)
   ·rw[qzc hw]at h2⊢;exact⟨λ_ _=>trivial,h2⟩
def Dk{P:Program}{Q:Exit->Act->World->Prop}{l n id:Nat}{os:List Oper}{a0:Act}{w0:World}(hm:P.follows .mixedOrders=true)(hd:tL os=true)(a:¬LetsOut Q)(h:wpAny P .any os.toArray Q os.toArray.size (Array.replicate os.toArray.size false) a0 {w0 with drawn:=w0.drawn+1}):(Code.region id os.toArray true).wpIn (Fence.wide.inRound l) n P Q a0 w0:=wpIn_region_any hm (GD hd a _ _ _ _ h)
def kQ{P:Program}{Q:Exit->Act->World->Prop}{l n id:Nat}{os:List Oper}{a0:Act}{w0:World}(hd:tL os=true)(a:¬LetsOut Q)(h:wpList P os.toArray Q os a0 w0):(Code.region id os.toArray false).wpIn (Fence.wide.inRound l) n P Q a0 w0:=wpIn_region (Il hd a _ _ _ (by rw[List.range_eq_range',<-jql,wpOps_eq_wpList os.toArray.toList 0 (by simp)];simpa using h))
def bR{a b:Bool}(h:a=b):Ending.returned (.bool a)=Ending.returned (.bool b):=by rw[h]
def aC{w w1 a:World}(h:Below w.heap.size w w1)(c:Below w1.heap.size w1 a):Below w.heap.size w a:=h.trans (c.mono h.size)
def aB{w:World}{a:Addr}{v:Value}(h:w.cell? a=some v):a.block<w.heap.size:=by unfold World.cell? at h;cases c:w.heap[a.block]? with|none=>simp[c]at h|some o=>exact(qqs.1 c).1
def aa{w w':World}(c:Below w.heap.size w w'){a:Addr}{v:Value}(h:w.cell? a=some v):w'.cell? a=some v:=(c.cell (p:=a) (aB h)).trans h
def Blk(W:World)(g:Nat)(t:TypeId)(cs:Array Value):Prop:=W.heap[g]? =some (.cells cs t (0,0))
section
variable {W W':World}{g:Nat}{t:TypeId}{cs:Array Value}
def Blk.lt(h:Blk W g t cs):g<W.heap.size:=by
 rcases Nat.lt_or_ge g W.heap.size with c|a;·exact c
 ·unfold Blk at h;rw[jxf a]at h;cases h
def Blk.cell(h:Blk W g t cs)(i:Nat):W.cell? ⟨g,i,none⟩=cs[i]?:=by unfold Blk at h;unfold World.cell?;simp[h]
def Blk.free(h:Blk W g t cs)(i:Nat):W.frozen? ⟨g,i,none⟩=false:=by unfold Blk at h;simp[World.frozen?,h]
def Blk.new(W:World)(t:TypeId)(cs:Array Value):Blk (W.alloc (.cells cs t)) W.heap.size t cs:=jxg W _
def Blk.below(h:Blk W g t cs)(a:Below W.heap.size W W'):Blk W' g t cs:=(a.block g h.lt).trans h
def Blk.alloc(h:Blk W g t cs)(o:Obj):Blk (W.alloc o) g t cs:=h.below ((qjk _ _).alloc (qqf _) _)
def Blk.put(h:Blk W g t cs)(i:Nat)(u:Value):Blk (W.setCell ⟨g,i,none⟩ u) g t (cs.setIfInBounds i u):=by unfold Blk at h⊢;simp[World.setCell,Array.getElem?_modify,h]
def Blk.far(h:Blk W g t cs){g':Nat}(a:g≠g')(i:Nat)(u:Value):Blk (W.setCell ⟨g',i,none⟩ u) g t cs:=(jqr W ⟨g',i,none⟩ u g a).trans h
end
def iX{α:Type}(z:Nat)(R:World->Nat->Nat->α->Prop)(w:World)(v:Value)(l:List α):Prop:= ∃A c,v=.slice A l.length c/\l.length<=c/\(l=[]\/∃b o,A=some ⟨b,o,none⟩/\∀i x,l[i]? =some x->R w b (o+i*z) x)
def kz(w:World)(b o:Nat)(k:Int):Prop:=w.cell? ⟨b,o,none⟩=some (.int .i64 k)
def aD(w:World)(v:Value)(a:List Int):Prop:=iX 1 kz w v a
abbrev InV:=In×Value
def aJ(g:InV):Value:=.agg #[.int .u8 g.1.op,.int .i64 g.1.v,.int .i64 g.1.a,.int .i64 g.1.b,.int .i64 g.1.n,.int .u8 g.1.bin,g.2,.int .i64 g.1.f,.int .i64 g.1.arr,.int .i64 g.1.to]
structure gF(w:World)(b o:Nat)(g:InV):Prop where
 c0:w.cell? ⟨b,o,none⟩=some (.int .u8 g.1.op)c1:w.cell? ⟨b,o+1,none⟩=some (.int .i64 g.1.v)c2:w.cell? ⟨b,o+2,none⟩=some (.int .i64 g.1.a)c3:w.cell? ⟨b,o+3,none⟩=some (.int .i64 g.1.b)c4:w.cell? ⟨b,o+4,none⟩=some (.int .i64 g.1.n)c5:w.cell? ⟨b,o+5,none⟩=some (.int .u8 g.1.bin)c6:w.cell? ⟨b,o+6,none⟩=some g.2
 c7:w.cell? ⟨b,o+7,none⟩=some (.int .i64 g.1.f)c8:w.cell? ⟨b,o+8,none⟩=some (.int .i64 g.1.arr)c9:w.cell? ⟨b,o+9,none⟩=some (.int .i64 g.1.to)args:aD w g.2 g.1.args
def dS(w:World)(v:Value)(l:List InV):Prop:=iX 10 gF w v l
structure FnG where
 fn:FnP
 cv:Value
 l:List InV
def fnV(g:FnG):Value:=.agg #[.string ⟨g.fn.name.toArray⟩,.int .i64 g.fn.params,.int .i64 g.fn.vars,g.cv]
structure jN(w:World)(b o:Nat)(g:FnG):Prop where
 c0:w.cell? ⟨b,o,none⟩=some (.string ⟨g.fn.name.toArray⟩)c1:w.cell? ⟨b,o+1,none⟩=some (.int .i64 g.fn.params)c2:w.cell? ⟨b,o+2,none⟩=some (.int .i64 g.fn.vars)c3:w.cell? ⟨b,o+3,none⟩=some g.cv
 code:dS w g.cv g.l
 eq:g.l.map (·.1)=g.fn.code
def pJ(w:World)(v:Value)(l:List FnG):Prop:=iX 4 jN w v l
structure PrG where
 p:PrW
 av:Value
 fv:Value
 l:List FnG
def prV(g:PrG):Value:=.agg #[g.av,g.fv,.int .i64 g.p.main]
structure PrR(w:World)(g:PrG):Prop where
 arrays:aD w g.av g.p.arrays
 fns:pJ w g.fv g.l
 eq:g.l.map (·.fn)=g.p.fns
def iX.mono{α:Type}{z:Nat}{R a:World->Nat->Nat->α->Prop}{w w':World}{v:Value}{l:List α}(h:iX z R w v l)(k:∀b o x,x∈l->R w b o x->a w' b o x):iX z a w' v l:=by obtain⟨A,c,e,hc,h⟩:=h;refine⟨A,c,e,hc,h.imp id λ⟨b,o,e,h⟩=>⟨b,o,e,λi x d=>k _ _ _ (qqr d) (h i x d)⟩⟩
section
variable {w w':World}{v:Value}
def aD.below{a:List Int}(h:aD w v a)(c:Below w.heap.size w w'):aD w' v a:=iX.mono h λ_ _ _ _ h=>aa c h
def gF.below{b o:Nat}{g:InV}(h:gF w b o g)(a:Below w.heap.size w w'):gF w' b o g:=⟨aa a h.c0,aa a h.c1,aa a h.c2,aa a h.c3,aa a h.c4,aa a h.c5,aa a h.c6,aa a h.c7,aa a h.c8,aa a h.c9,h.args.below a⟩
def dS.below{l:List InV}(h:dS w v l)(a:Below w.heap.size w w'):dS w' v l:=iX.mono h λ_ _ _ _ h=>h.below a
def jN.below{b o:Nat}{g:FnG}(h:jN w b o g)(a:Below w.heap.size w w'):jN w' b o g:=⟨aa a h.c0,aa a h.c1,aa a h.c2,aa a h.c3,h.code.below a,h.eq⟩
def pJ.below{l:List FnG}(h:pJ w v l)(a:Below w.heap.size w w'):pJ w' v l:=iX.mono h λ_ _ _ _ h=>h.below a
def PrR.below{g:PrG}(h:PrR w g)(a:Below w.heap.size w w'):PrR w' g:=⟨h.arrays.below a,h.fns.below a,h.eq⟩
end
def Fv(g:InV)(w:World):Calls Tryz.prog 94 #[aJ g] w λe w'=>e=.returned (.bool (gJ g.1))/\Below w.heap.size w w':=by
 obtain⟨⟨op,v,a,b,n,bin,args,f,arr,t⟩,av⟩:=g;unfold gJ aJ;simp only[];by_cases h1:op=1;·subst h1;go_enter Tryz.func94,Tryz.ntmps94;go_wp2_with fail;go_ret;exact⟨rfl,(qjk _ _).alloc (qqf _) _⟩
 ·by_cases h2:op=2;·subst h2;go_enter Tryz.func94,Tryz.ntmps94;go_wp2_with fail;go_ret;exact⟨rfl,(qjk _ _).alloc (qqf _) _⟩
  ·have c:(op==1)=false:=by simpa using h1
   have d:(op==2)=false:=by simpa using h2
   have h:(op:Int)≠1:=oqo;have i:(op:Int)≠2:=oqo;go_enter Tryz.func94,Tryz.ntmps94;go_wp2_with fail;go_ret;refine⟨bR ?_,(qjk _ _).alloc (qqf _) _⟩;have j:((op:Int)==1)=false:=qqe.2 h;have l:((op:Int)==2)=false:=qqe.2 i;have m:((op:Int)==3)=(op==3):=by rw[qzd,jzb,jzb];omega
   rw[c,d,j,l,m]
def sS(x:In):Value:=match bD x with|some v=>.tuple #[.int .i64 v,.bool true]|none=>.tuple #[.int .i64 0,.bool false]
def Fy(g:InV)(w:World):Calls Tryz.prog 133 #[aJ g] w λe w'=>e=.returned (sS g.1)/\Below w.heap.size w w':=by
 obtain⟨⟨op,v,a,b,n,bin,args,f,arr,t⟩,av⟩:=g;have c:=(qjk w.heap.size w).alloc (qqf _) (.cells #[.int .u8 op,.int .i64 v,.int .i64 a,.int .i64 b,.int .i64 n,.int .u8 bin,av,.int .i64 f,.int .i64 arr,.int .i64 t] 71);have key:∀o:Nat,op=o->o∈[1,2,3,4,8,11]->Calls Tryz.prog 133 #[aJ ⟨⟨op,v,a,b,n,bin,args,f,arr,t⟩,av⟩] w λe w'=>e=.returned (sS ⟨op,v,a,b,n,bin,args,f,arr,t⟩)/\Below w.heap.size w w':=λo e ho=>by simp only[qzh,qjh,jzq]at ho;unfold aJ;simp only[];rcases ho with rfl|rfl|rfl|rfl|rfl|rfl<;>subst e<;>(go_enter Tryz.func133,Tryz.ntmps133;go_wp2_with fail;go_ret2;exact⟨rfl,c⟩)
 by_cases ho:op∈[1,2,3,4,8,11];·exact key op rfl ho
 ·have hv:fq op=false:=by unfold fq;simp only[qzh,qjh,jzq,not_or]at ho;simp[ho]
  have e:sS ⟨op,v,a,b,n,bin,args,f,arr,t⟩=.tuple #[.int .i64 0,.bool false]:=by unfold sS bD;simp only[hv,qzr,jxa]
  rw[e];simp only[qzh,qjh,jzq,not_or]at ho;obtain⟨d,h,i,j,l,m⟩:=ho;have y:((op:Int)==1)=false:=qqe.2 oqo;have z:((op:Int)==2)=false:=qqe.2 oqo;have A:((op:Int)==3)=false:=qqe.2 oqo;have B:((op:Int)==4)=false:=qqe.2 oqo;have C:((op:Int)==8)=false:=qqe.2 oqo;have D:((op:Int)==11)=false:=qqe.2 oqo;have p:¬(op:Int)=1:=oqo;have q:¬(op:Int)=2:=oqo;have r:¬(op:Int)=3:=oqo;have s:¬(op:Int)=4:=oqo;have u:¬(op:Int)=8:=oqo;have x:¬(op:Int)=11:=oqo;unfold aJ;simp only[];go_enter Tryz.func133,Tryz.ntmps133;go_wp2_with fail;go_ret2;exact⟨rfl,c⟩
def DY(j:Value)(v a:Int)(w:World):Calls Tryz.prog 218 #[j,aJ ⟨bn v a,.slice none 0 0⟩] w λe w'=>e=.returned (aJ ⟨aS (bn v a),.slice none 0 0⟩)/\Below w.heap.size w w':=by
 have i:∀cs c,Blk ((w.alloc (.cells cs 71)).alloc (.cells c 71)) (w.heap.size+1) 71 c:=λcs c=>by have:=Blk.new (w.alloc (.cells cs 71)) 71 c;rwa[jqh]at this
 have d:∀cs c,Below w.heap.size w ((w.alloc (.cells cs 71)).alloc (.cells c 71)):=λcs c=>((qjk w.heap.size w).alloc (qqf _) _).alloc (by rw[jqh];omega) _;unfold aS bn aJ;simp only[];by_cases h:v=a;·subst h;rw[qzb rfl];go_enter Tryz.func218,Tryz.ntmps218;go_wp2_with fail;refine gT (w.heap.size+1) (i _ _) ?_;exact⟨rfl,d _ _⟩
 ·rw[qzc h];have q:(v==a)=false:=qqe.2 h;go_enter Tryz.func218,Tryz.ntmps218;go_wp2_with fail;refine gT (w.heap.size+1) (i _ _) ?_;exact⟨rfl,d _ _⟩
def Kk(g o q r L:Nat)(w:World)(m:q<4)(hr:r<64)(h:w.cell? ⟨g,o+q,none⟩=some (.int .u64 L))(j:L<2^64):Calls Tryz.prog 95 #[.pointer (some ⟨g,o,none⟩),.int .i64 ((64*q+r:Nat):Int)] w λe w'=>e=.returned (.bool (L.testBit r))/\w=w':=by
 have a:((64*q+r:Nat):Int).tdiv 64=(q:Int):=by rw[Int.tdiv_eq_ediv_of_nonneg oqo];omega
 have c:((64*q+r:Nat):Int).tmod 64=(r:Int):=by rw[Int.tmod_eq_emod_of_nonneg oqo];omega
 obtain⟨v,hv⟩:∃v,v=((64*q+r:Nat):Int):=⟨_,rfl⟩;rw[<-hv]at a c⊢;have p:=aB h;clear hv;go_enter Tryz.func95,Tryz.ntmps95;go_wp2_with fail;go_ret;refine⟨bR ?_,rfl⟩;have d:((L:Int)/2^r)=((L/2^r:Nat):Int):=by simp
 have l:L/2^r<18446744073709551616:=Nat.lt_of_le_of_lt (Nat.div_le_self _ _) j;have i:=bits_and_u64_nat (L/2^r) 1 l (by decide);rw[d,show(1:Int)=((1:Nat):Int)from rfl,i,Nat.and_one_is_mod,Nat.testBit_eq_decide_div_mod_eq,qzd,jzb,qqu];omega
def LY(g o q r L:Nat)(w:World)(G:q<4)(hr:r<64)(h:w.cell? ⟨g,o+q,none⟩=some (.int .u64 L))(hf:w.frozen? ⟨g,o+q,none⟩=false)(y:L<2^64):Calls Tryz.prog 136 #[.pointer (some ⟨g,o,none⟩),.int .i64 ((64*q+r:Nat):Int)] w λe w'=>e=.returned (.tuple #[])/\∃d,Below w.heap.size w d/\d.heap=w.heap/\w'=d.setCell ⟨g,o+q,none⟩ (.int .u64 ((L|||2^r:Nat):Int)):=by
 have u:((64*q+r:Nat):Int).tdiv 64=(q:Int):=by rw[Int.tdiv_eq_ediv_of_nonneg oqo];omega
 have x:((64*q+r:Nat):Int).tmod 64=(r:Int):=by rw[Int.tmod_eq_emod_of_nonneg oqo];omega
 obtain⟨v,hv⟩:∃v,v=((64*q+r:Nat):Int):=⟨_,rfl⟩;rw[<-hv]at u x⊢;have J:=aB h;have H:=hqh h;clear h;clear hv;have M:IntKind.i64.wrap (q:Int)=q:=jqv _ oqo;have wr:IntKind.i64.wrap (r:Int)=r:=jqv _ oqo;have I:(q:Int)<4:=oqo;go_enter Tryz.func136,Tryz.ntmps136;go_upto_region 0 with fail;refine wp_region_draw [true,true,true,true,true,true,true,true,true,true,true,true,false] (λW=>Below w.heap.size w W) 1 eF (λ_ a s _ hd h=>by cases a;cases s;cases hd;exact h) kqk (λ_ _ h=>h) ?_;iterate 12 refine aR (λK c=>?_);rw[qzb kqk];refine⟨_,λZ A=>(by have B:=aa A H.o;go_simp;try rfl),?_⟩;simp only[qqa];refine c _ ?_;clear c
 refine bg (bJ ?_);intro vs i z l j;refine ai 12 rfl kqk (λE c=>?_);have B:=aa j H.o;have F:i.frozen? ⟨g,o+q,none⟩=false:=by unfold World.frozen? at hf⊢;rw[l];exact hf
 go_simp;refine c.o _ _ (Or.inr ((z.o 12).trans kqk)) ?_;clear c;refine au kqk ?_;go_wp2_with fail;go_end0;have C:((2:Int)^r)=((2^r:Nat):Int):=by simp
 have p:2^r<18446744073709551616:=qzj (Nat.pow_lt_pow_right (by decide) hr) (by decide);rw[C];generalize 2^r=m at p⊢;have D:IntKind.u64.wrap (m:Int)=m:=IntWalk.u64_in _ oqo;exact⟨rfl,i,j,l,by rw[D,bits_or_u64_nat L m y p]⟩
def IJ(a b:Nat)(ha:a<18446744073709551616)(c:b<18446744073709551616):bits .andNot .u64 (a:Int) (b:Int)=(((BitVec.ofNat 64 a&&& ~~~BitVec.ofNat 64 b).toNat:Nat):Int):=by have h1:BitVec.ofInt 64 (a:Int)=BitVec.ofNat 64 a:=BitVec.ofInt_natCast ..;have h2:BitVec.ofInt 64 (b:Int)=BitVec.ofNat 64 b:=BitVec.ofInt_natCast ..;show IntKind.u64.wrap ((BitVec.ofInt 64 (a:Int)&&& ~~~BitVec.ofInt 64 (b:Int)).toNat:Int)=_;rw[h1,h2];have:=(BitVec.ofNat 64 a&&& ~~~BitVec.ofNat 64 b).isLt;exact IntWalk.u64_in _ oqo
def xh(L r:Nat):Nat:=(BitVec.ofNat 64 L&&& ~~~BitVec.ofNat 64 (2^r)).toNat
def Iw(g o q r L:Nat)(w:World)(G:q<4)(hr:r<64)(h:w.cell? ⟨g,o+q,none⟩=some (.int .u64 L))(hf:w.frozen? ⟨g,o+q,none⟩=false)(y:L<2^64):Calls Tryz.prog 134 #[.pointer (some ⟨g,o,none⟩),.int .i64 ((64*q+r:Nat):Int)] w λe w'=>e=.returned (.tuple #[])/\∃d,Below w.heap.size w d/\d.heap=w.heap/\w'=d.setCell ⟨g,o+q,none⟩ (.int .u64 ((xh L r:Nat):Int)):=by
 have u:((64*q+r:Nat):Int).tdiv 64=(q:Int):=by rw[Int.tdiv_eq_ediv_of_nonneg oqo];omega
 have x:((64*q+r:Nat):Int).tmod 64=(r:Int):=by rw[Int.tmod_eq_emod_of_nonneg oqo];omega
 obtain⟨v,hv⟩:∃v,v=((64*q+r:Nat):Int):=⟨_,rfl⟩;rw[<-hv]at u x⊢;have J:=aB h;have H:=hqh h;clear h;clear hv;have M:IntKind.i64.wrap (q:Int)=q:=jqv _ oqo;have wr:IntKind.i64.wrap (r:Int)=r:=jqv _ oqo;have I:(q:Int)<4:=oqo;go_enter Tryz.func134,Tryz.ntmps134;go_upto_region 0 with fail;refine wp_region_draw [true,true,true,true,true,true,true,true,true,true,true,true,false] (λW=>Below w.heap.size w W) 1 eF (λ_ a s _ hd h=>by cases a;cases s;cases hd;exact h) kqk (λ_ _ h=>h) ?_;iterate 12 refine aR (λK c=>?_);rw[qzb kqk];refine⟨_,λZ A=>(by have B:=aa A H.o;go_simp;try rfl),?_⟩;simp only[qqa];refine c _ ?_;clear c
 refine bg (bJ ?_);intro vs i z l j;refine ai 12 rfl kqk (λE c=>?_);have B:=aa j H.o;have F:i.frozen? ⟨g,o+q,none⟩=false:=by unfold World.frozen? at hf⊢;rw[l];exact hf
 go_simp;refine c.o _ _ (Or.inr ((z.o 12).trans kqk)) ?_;clear c;refine au kqk ?_;go_wp2_with fail;go_end0;have C:((2:Int)^r)=((2^r:Nat):Int):=by simp
 have p:2^r<18446744073709551616:=qzj (Nat.pow_lt_pow_right (by decide) hr) (by decide);rw[C];generalize hm:2^r=m at p⊢;have D:IntKind.u64.wrap (m:Int)=m:=IntWalk.u64_in _ oqo;exact⟨rfl,i,j,l,by unfold xh;rw[D,IJ L m y p,hm]⟩
open Go.Maps
structure pQ{κ:Type}(k:TypeId)(good:κ->Prop)(kv:κ->Value)(kl:κ->Lit):Prop where
 keyed:Keyed Tryz.prog k
 key:∀{x:κ},good x->keyOf Tryz.prog k (kv x)=some (kl x)inv:∀{v:Value}{l:Lit},keyOf Tryz.prog k v=some l->∃x,good x/\v=kv x
 inj:∀{x y:κ},kv x=kv y->x=y
def pQ.lit{κ:Type}{k:TypeId}{good:κ->Prop}{kv:κ->Value}{kl:κ->Lit}(T:pQ k good kv kl){x:κ}(a:good x):WideAt.IsKeyLit (kl x):=T.keyed.key (T.key a)
def pQ.ne{κ:Type}{k:TypeId}{good:κ->Prop}{kv:κ->Value}{kl:κ->Lit}(T:pQ k good kv kl){x y:κ}(a:good x)(c:good y)(h:x≠y):kl x≠kl y:=λe=>by have h1:=T.key a;have h2:=T.key c;rw[e]at h1;exact h (T.inj (T.keyed.inj h1 h2))
def okN(x:Int):Prop:=(Lit.int .i64 x).wf=true
def jI:pQ (κ:=Int) 3 okN (λx=>.int .i64 x) (λx=>.int .i64 x)where
 keyed:=int_keyed (q:=.i64) kqk;key{x}h:=by have hu:Tryz.prog.underlying 3=some (.int .i64):=kqk;unfold okN at h;simp[keyOf,mapKey,hu,h]
 inv{v l}h:=by obtain⟨x,e,_,hw⟩:=Maps.keyOf_int_inv (q:=.i64) kqk h;exact⟨x,hw,e⟩
 inj{x y}h:=by injection h
def fV(n:Int):DataW Unit:=.lit (.int .i64 n)
section
variable {κ:Type}{k:TypeId}{good:κ->Prop}{kv:κ->Value}{kl:κ->Lit}{e t:TypeId}{w w':World}{b n:Nat}{f:κ->Option Int}
def dJ(k:TypeId)(good:κ->Prop)(kl:κ->Lit)(e:TypeId)(w:World)(b n:Nat)(f:κ->Option Int):Prop:= ∃D:DataW Unit,w.ownsMap Tryz.prog k (plainElem Tryz.prog e) b n D/\∀x,good x->Maps.has D (kl x)=(f x).isSome/\D.atKey (kl x) (fV 0)=fV ((f x).getD 0)
def dJ.mono(h:dJ k good kl e w b n f){m:Nat}(hm:n<=m):dJ k good kl e w b m f:=let⟨D,h1,h2⟩:=h;⟨D,h1.mono hm,h2⟩
def dJ.lt(h:dJ k good kl e w b n f):b<w.heap.size:=let⟨_,h1,_⟩:=h;h1.lt
def dJ.same(h:dJ k good kl e w b n f)(i:w'.heap[b]? =w.heap[b]?):dJ k good kl e w' b n f:=by obtain⟨D,⟨es,c,h1,h2,h3,a⟩,d⟩:=h;exact⟨D,⟨es,c,by rw[i];exact h1,h2,h3,a⟩,d⟩
def dJ.below(h:dJ k good kl e w b n f)(a:Below w.heap.size w w'):dJ k good kl e w' b n f:=h.same (a.block b h.lt)
def dJ.made(w:World):dJ k good kl e (w.alloc (.map #[] 0)) w.heap.size 0 (λ_=>none):=⟨.map [],World.ownsMap_made w _ _ _,λ_ _=>⟨rfl,rfl⟩⟩
def dJ.look(h:dJ k good kl e w b n f)(T:pQ k good kv kl)(ht:Tryz.prog.underlying t=some (.map k e))(he:Tryz.prog.underlying e=some (.int .i64))(hz:(zeroValue e).run Tryz.prog w=.ok (.int .i64 0) w){x:κ}(i:good x):(Instr.lookup t (.map (some b)) (kv x) true).run Tryz.prog w=.ok (.tuple #[.int .i64 ((f x).getD 0),.bool (f x).isSome]) w:=by
 obtain⟨D,h1,h2⟩:=h;obtain⟨v,ps,j,hv⟩:=h1.look_ok T.keyed ht hz (plainElem_int (H:=Unit) he (a:=0) (by decide)) (T.key i);obtain⟨l,m⟩:=h2 x i;obtain⟨c,rfl,hc,_⟩:=plainElem_int_inv he hv;have:=jqp Prod.fst hc;simp only at this;rw[show(DataW.lit (Lit.int IntKind.i64 0):DataW Unit)=fV 0 from rfl,m]at this;have d:(f x).getD 0=c:=by injection this with d;injection d
 rw[j,l,d]
def dJ.store(h:dJ k good kl e w b n f)(T:pQ k good kv kl)(ht:Tryz.prog.underlying t=some (.map k e))(he:Tryz.prog.underlying e=some (.int .i64))(hn:n<maxLen){x:κ}(c:good x){y:Int}(d:okN y) [DecidableEq κ]: ∃w',(Instr.mapUpdate t (.map (some b)) (kv x) (.int .i64 y)).run Tryz.prog w=.ok () w'/\dJ k good kl e w' b (n+1) (λz=>if z=x then some y else f z)/\w.mapTurned w' b:=by
 obtain⟨D,h1,h2⟩:=h;obtain⟨w',i,j,l⟩:=h1.store T.keyed ht hn (T.key c) (plainElem_int (H:=Unit) he d);refine⟨w',i,⟨_,j,λz hz=>?_⟩,l⟩;simp only[];by_cases a:z=x;·subst a;rw[qzb rfl];exact⟨has_put_same h1.isMap (T.lit hz) _,atKey_put_same h1.isMap (T.lit hz) _ _⟩
 ·rw[qzc a];have:=T.ne hz c a;rw[has_put_other this,atKey_put_other this];exact h2 z hz
def dJ.drop(h:dJ k good kl e w b n f)(T:pQ k good kv kl)(ht:Tryz.prog.underlying t=some (.map k e)){x:κ}(c:good x)(ty:TypeId) [DecidableEq κ]: ∃w',(Builtin.delete_ #[t,k] ty #[.map (some b),kv x]).run Tryz.prog w=.ok (.tuple #[]) w'/\dJ k good kl e w' b n (λz=>if z=x then none else f z)/\w.mapTurned w' b:=by
 obtain⟨D,h1,h2⟩:=h;obtain⟨w',d,i,j⟩:=h1.drop T.keyed ht (T.key c) ty;refine⟨w',d,⟨_,i,λz hz=>?_⟩,j⟩;simp only[];by_cases a:z=x;·subst a;rw[qzb rfl];exact⟨has_del_same,atKey_del_same _⟩
 ·rw[qzc a];have:=T.ne hz c a;rw[has_del_other this,atKey_del_other this];exact h2 z hz
def CQ{pd:Lit->DataW Unit->Bool}{a:Lit}(hk:WideAt.IsKeyLit a):∀(c:List (Lit×DataW Unit)),c.Pairwise (λp q=>p.1≠q.1)->(Maps.has (.map (c.filter λp=>!pd p.1 p.2)) a=(Maps.has (.map c) a&&!pd a ((DataW.map c).atKey a (fV 0))))/\(DataW.map (c.filter λp=>!pd p.1 p.2)).atKey a (fV 0)=if Maps.has (.map c) a&&!pd a ((DataW.map c).atKey a (fV 0))then(DataW.map c).atKey a (fV 0)else fV 0
 |[],_=>⟨by simp[has_eq],by simp[has_eq,DataW.atKey]⟩|p::c,h=>by
  obtain⟨h1,h2⟩:=List.pairwise_cons.1 h;have ih:=CQ (pd:=pd) hk c h2;by_cases i:p.1=a
  ·have hs:p.1.sameKey a=true:=by rw[i];exact WideAt.sameKey_self hk
   have s:∀q∈c,q.1.sameKey a=false:=λq l=>sameKey_ne (by rw[<-i];exact(h1 q l).symm);have u:Maps.has (.map c) a=false:=by rw[has_eq,List.any_eq_false];intro q l;rw[s q l];simp
   have ha:(DataW.map (p::c)).atKey a (fV 0)=p.2:=by simp[DataW.atKey,List.find?_cons,hs]
   have j:Maps.has (.map (p::c)) a=true:=by rw[has_eq,List.any_cons,hs,Bool.true_or]
   have m:pd a p.2=pd p.1 p.2:=by rw[i]
   rw[ha,j,jzz,m];rw[u]at ih;by_cases d:pd p.1 p.2=true;·rw[qzc (by simp[d]),ih.1,ih.2,d];simp
   ·have d:pd p.1 p.2=false:=by simpa using d
    rw[qzb (by simp[d]),d];exact⟨by rw[has_eq,List.any_cons,hs,Bool.true_or];rfl,by simp[DataW.atKey,List.find?_cons,hs]⟩
  ·have hs:p.1.sameKey a=false:=sameKey_ne i;have ha:(DataW.map (p::c)).atKey a (fV 0)=(DataW.map c).atKey a (fV 0):=by simp[DataW.atKey,List.find?_cons,hs]
   have j:Maps.has (.map (p::c)) a=Maps.has (.map c) a:=by rw[has_eq,has_eq,List.any_cons,hs,Bool.false_or]
   rw[ha,j,jzz];by_cases d:(!pd p.1 p.2)=true
   ·rw[qzb d];have o:(DataW.map (p::c.filter λp=>!pd p.1 p.2)).atKey a (fV 0)=(DataW.map (c.filter λp=>!pd p.1 p.2)).atKey a (fV 0):=by simp[DataW.atKey,List.find?_cons,hs]
    have r:Maps.has (.map (p::c.filter λp=>!pd p.1 p.2)) a=Maps.has (.map (c.filter λp=>!pd p.1 p.2)) a:=by rw[has_eq,has_eq,List.any_cons,hs,Bool.false_or]
    rw[o,r];exact ih
   ·rw[qzc d];exact ih
def AO{D:DataW Unit}(h1:w.ownsMap Tryz.prog k (plainElem Tryz.prog e) b n D)(h2:∀x,good x->Maps.has D (kl x)=(f x).isSome/\D.atKey (kl x) (fV 0)=fV ((f x).getD 0))(T:pQ k good kv kl){pd:Lit->DataW Unit->Bool}{g:κ->Option Int}(d:∀x,good x->g x=if(f x).isSome=true/\pd (kl x) (fV ((f x).getD 0))=true then none else f x)(hs:w'.ownsMap Tryz.prog k (plainElem Tryz.prog e) b n (Lib.deleteFuncD pd D)):dJ k good kl e w' b n g:=by refine⟨_,hs,λx c=>?_⟩;obtain⟨a,rfl,ht⟩:=h1.tidy T.keyed;obtain⟨i,j⟩:=h2 x c;obtain⟨l,m⟩:=CQ (pd:=pd) (T.lit c) a ht;show Maps.has (.map (a.filter λp=>!pd p.1 p.2)) (kl x)=_/\(DataW.map (a.filter λp=>!pd p.1 p.2)).atKey (kl x) (fV 0)=_;rw[l,m,i,j,d x c];cases hf:f x with|none=>simp|some y=>cases h:pd (kl x) (fV y)<;>simp[h]
end
open Go.Shelf
def Zd:Go.Shelf.Ren:=⟨λ|5=>158|n=>n,λ|0=>0|4=>4|23=>191|24=>3|26=>3|27=>240|n=>n,λ|n=>n⟩
def YN:SlLaysDf.n5 Tryz.prog Zd:={
 mixed:=kqk
 f5:=⟨ "maps.DeleteFunc[map[int]int,int,int]",by kernel_rfl,Tryz.func158.trans (jqp some kqk)⟩
 t0:=Tryz.underlying0
 a0:=Tryz.isAgg0
 z0:=Tryz.sizeOf0
 v0:=Tryz.zeroValue0
 t4:=Tryz.underlying4
 a4:=Tryz.isAgg4
 z4:=Tryz.sizeOf4
 v4:=Tryz.zeroValue4
 t23:=Tryz.underlying191
 a23:=Tryz.isAgg191
 z23:=Tryz.sizeOf191
 v23:=Tryz.zeroValue191
 a24:=Tryz.isAgg3
 z24:=Tryz.sizeOf3
 a26:=Tryz.isAgg3
 z26:=Tryz.sizeOf3
 t27:=Tryz.underlying240
 a27:=Tryz.isAgg240
 z27:=Tryz.sizeOf240
 v27:=Tryz.zeroValue240}
def Og(x y v:Int)(g:Nat)(w:World)(h:w.cell? ⟨g,0,none⟩=some (.int .i64 v)):Calls Tryz.prog 159 (#[.int .i64 x,.int .i64 y]++ #[.pointer (some ⟨g,0,none⟩)]) w λe w'=>e=.returned (.bool (x==v||y==v))/\w.grownBy w' none:=by
 show Calls Tryz.prog 159 #[.int .i64 x,.int .i64 y,.pointer (some ⟨g,0,none⟩)] w _;have hr:=World.grownBy.refl w none;cases a:x==v
 ·go_enter Tryz.func159,Tryz.ntmps159;go_wp2_with fail;all_goals go_ret
  all_goals exact⟨by simp,hr⟩
 ·go_enter Tryz.func159,Tryz.ntmps159;go_wp2_with fail;all_goals go_ret
  all_goals exact⟨by simp,hr⟩
def Yv(v:Int)(kl:Lit)(a:DataW Unit):Bool:=(match kl with| .int _ x=>x==v|_=>false)||(match a with| .lit (.int _ y)=>y==v|_=>false)
def Yw(v:Int)(f:Int->Option Int):Int->Option Int:=λx=>if x=v then none else if f x=some v then none else f x
def Pt(b n g:Nat)(v:Int)(f:Int->Option Int)(w:World)(h:dJ 3 okN (λx=>.int .i64 x) 3 w b n f)(hc:w.cell? ⟨g,0,none⟩=some (.int .i64 v))(m:g≠b):Calls Tryz.prog 158 #[.map (some b),.func (.func 159) #[] #[.pointer (some ⟨g,0,none⟩)]] w λe w'=>e=.returned (.tuple #[])/\dJ 3 okN (λx=>.int .i64 x) 3 w' b n (Yw v f)/\w.grownBy w' (some b):=by obtain⟨D,h1,h2⟩:=h;have c:=AnyDf.maps_DeleteFunc YN jI.keyed (plainElem Tryz.prog 3) (Yv v) 159 #[.pointer (some ⟨g,0,none⟩)] b n D w (enters_of Tryz.func159 kqk rfl) h1 (λW key val kl o p a hk hv=>by obtain⟨x,rfl,rfl,_⟩:=Maps.keyOf_int_inv (q:=.i64) kqk hk;obtain⟨y,rfl,j,_⟩:=plainElem_int_inv (q:=.i64) kqk hv;have l:o=fV y:=jqp Prod.fst j;subst l;exact(Og x y v g W (a.cell hc (by simpa using m))));refine c.mono ?_;rintro e w1⟨he,ho,a⟩;refine⟨he,AO h1 h2 jI (λx _=>?_) ho,a⟩;unfold Yw Yv fV;cases hf:f x with|none=>simp|some y=>
  by_cases d:x=v;·simp[d]
  ·by_cases i:y=v;·simp[i]
   ·simp[d,i]
open Go.WideShapes
abbrev rA:=Nat×Int×Int
def okB(x:rA):Prop:=(Lit.int .u8 x.1).wf=true/\okN x.2.1/\okN x.2.2
def kvB(x:rA):Value:=.agg #[.int .u8 x.1,.int .i64 x.2.1,.int .i64 x.2.2]
def klB(x:rA):Lit:=.string (keyBytes [.int .u8 x.1,.int .i64 x.2.1,.int .i64 x.2.2])
def Vh:laidOutB Tryz.prog=true:=kqk
def zi:Tryz.prog.cellsOf 198=3:=kqk
def DW:Tryz.prog.cellsOf 3=1:=kqk
def Av:Tryz.prog.cellsOf 37=1:=kqk
def Vv:Tryz.prog.keyType 198=true:=kqk
def Jy:∃d,Tryz.prog.types.size=d+1:=⟨Tryz.prog.types.size-1,by have:0<Tryz.prog.types.size:=jjh kqk;omega⟩
def yY{d:Nat}{t:TypeId}{q:IntKind}{n:Int}(hu:Tryz.prog.underlying t=some (.int q))(h:(Lit.int q n).wf=true):Tryz.prog.keyLits (d+1) t [.int q n]=some [.int q n]:=by unfold Program.keyLits;simp[hu,h]
def BK{d:Nat}{t:TypeId}{q:IntKind}{cs:List Value}{l:List Lit}(hu:Tryz.prog.underlying t=some (.int q))(h:Tryz.prog.keyLits (d+1) t cs=some l):∃n,cs=[.int q n]/\l=[.int q n]/\(Lit.int q n).wf=true:=by
 obtain⟨n,rfl,rfl⟩:=keyLits_int' hu h;refine⟨n,rfl,rfl,?_⟩;unfold Program.keyLits at h;simp only[hu]at h;split at h;·rename_i c;exact c.2
 ·cases h
def QM{d:Nat}(x:rA)(h:okB x):Tryz.prog.keyLits (d+1+1) 198 [.int .u8 x.1,.int .i64 x.2.1,.int .i64 x.2.2]=some [.int .u8 x.1,.int .i64 x.2.1,.int .i64 x.2.2]:=by obtain⟨h1,h2,h3⟩:=h;unfold okN at h2 h3;unfold Program.keyLits;simp only[Tryz.underlying198,zi];rw[qzb ⟨rfl,by kernel_rfl⟩];simp[List.mapM_cons,DW,Av,yY Tryz.underlying37 h1,yY Tryz.underlying3 h2,yY Tryz.underlying3 h3]
def mJ:pQ (κ:=rA) 198 okB kvB klB where
 keyed:=Keyed.of_law (deep_law_laid Vh (m:=2) oqo (jjh kqk) kqk (by rw[Tryz.underlying198]));key{x}h:=by obtain⟨d,hd⟩:=Jy;unfold keyOf kvB klB;simp only[Tryz.underlying198,Vv,Value.formed,zi];rw[hd];have:=QM (d:=d) x h;simp[Value.cells,this]
 inv{v l}h:=by
  obtain⟨xs,L,rfl,hl,rfl⟩:=keyOf_top (P:=Tryz.prog) (k:=198) (by rw[Tryz.underlying198]) h;obtain⟨d,hd⟩:=Jy;rw[hd]at hl;unfold Program.keyLits at hl;simp only[Tryz.underlying198,zi]at hl;split at hl
  ·rename_i hc;obtain⟨c0,c1,c2,e⟩:∃c0 c1 c2,xs=#[c0,c1,c2]:=by obtain⟨l⟩:=xs;match l,hc.1 with|[a,b,c],_=>exact⟨a,b,c,rfl⟩
   subst e;simp only[List.mapM_cons,List.mapM_nil,DW,Av,List.drop_zero,List.drop_succ_cons,List.take_succ_cons,List.take_zero]at hl;simp only[Option.map_eq_some_iff,Option.bind_eq_bind,Option.bind_eq_some_iff,Option.pure_def]at hl;obtain⟨ls,⟨B,h0,D,⟨C,h1,F,⟨E,h2,hz⟩,_⟩,_⟩,_⟩:=hl;obtain⟨n0,i,_,w0⟩:=BK Tryz.underlying37 h0;obtain⟨r,j,_,w1⟩:=BK Tryz.underlying3 h1;obtain⟨s,o,_,u⟩:=BK Tryz.underlying3 h2;simp only[jjb,and_true]at i j o;subst i j o;have hn:0<=n0:=by
    simp only[Lit.wf,qqn,qqu]at w0;have q:IntKind.min .u8=0:=by decide
    rw[q]at w0;exact w0.1
   obtain⟨k,rfl⟩:∃k:Nat,n0=(k:Int):=⟨n0.toNat,by omega⟩;exact⟨(k,r,s),⟨w0,w1,u⟩,rfl⟩
  ·cases hl
 inj{x y}h:=by obtain⟨a,b,c⟩:=x;obtain⟨p,z,A⟩:=y;unfold kvB at h;simp at h;obtain⟨h1,h2,h3⟩:=h;have:a=p:=oqo;rw[this,h2,h3]
