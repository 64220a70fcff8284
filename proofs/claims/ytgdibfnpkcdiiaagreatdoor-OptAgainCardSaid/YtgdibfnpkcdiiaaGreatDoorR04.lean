/- Joint text: OIn, HMem, OA, OSet, OMap, ODel, OKey, OPut, ORoot, OFresh. By an AI agent. -/
import Derived.Test.YtgdibfnpkcdiiaaGreatDoorRzy
import Derived.RangeFuncBox
import Derived.RangeFuncLeaves
import Derived.OrdersIn
import Derived.TacticsIn
import Derived.Test.YtgdibfnpkcdiiaaGreatDoorR03
import Derived.Test.YtgdibfnpkcdiiaaGreatDoorRows
import Derived.Test.YtgdibfnpkcdiiaaGreatDoorR00
import Derived.WalkKit
import Derived.WalkSpells
import Derived.WalkLawsBesides
import Derived.BigQuiet
import Derived.Deep.QuietTactic
import Derived.Deep.RegionHeld3
import Derived.Laws.EntriesVeiled
import Derived.BigCall
import Derived.BigGuard
import Derived.Deep.LoopGhost
import Derived.Deep.DeepCutAuto
import Derived.Laws.Bits64b
import Derived.Maps.OwnSet
import Derived.Maps.RangeWalk
import Derived.Lib.SlMapFilter
import Derived.Shelf.SlMaps.DeleteFunc
import Derived.DeepKeys4
import Derived.ChangeKeysEq
import Derived.Maps.Ext
import Derived.Laws.IdiomRangeMap
set_option linter.all false
set_option maxRecDepth 100000
set_option maxHeartbeats 64000000
namespace Go.Proofs.YtgdibfnpkcdiiaaGreatDoor
theorem bY:Tryz.prog.follows .mixedOrders=true:=kqk
theorem bg{fn:Func}{R:Ending->World->Prop}{a:Act}{w:World}{cs:Array Value}{p:Tmp}(g:Nat)(d:w.heap[g]? =some (.cells cs 71 (0,0)))(c:R (.returned (.agg cs)) w)(hf:fn.results=#[.cell p 71]:=by exact rfl)(h:a.tmps.getD p undef=.pointer (some ⟨g,0,none⟩):=by exact rfl)(hi:(Tryz.prog.info? 71).map (·.size)=some cs.size:=by kernel_rfl)(hd:a.defers=[]:=by exact rfl):bodyPost Tryz.prog fn R .ret a w:=bodyPost_ret (results_cell_row hf _ _ g 71 _ (0,0) _ h d Tryz.underlying71 rfl hi) hd c
open Go.RowKit
def jy(fn:FuncId)(tmps:Array Value)(ps:Array Tmp)(assign body:Code)(D:Nat)(st:LoopState)(a:Option Code):Loop:={state:=st,pending:=a,fn,tmps,params:=ps,assign,body,defers:=D}
def FU:Exit->Option (Option Code)| .normal=>some none| .ret=>some (some .ret)| .exit id=>some (some (.exit id))| .goto t=>some (some (.goto t))|_=>none
theorem Q6{F:Fence}{n:Nat}{P:Program}{l D:Nat}{fn:FuncId}{tmps:Array Value}{ps:Array Tmp}{assign body:Code}{W:World}{args:Array Value}{R:Ending->World->Prop}(hF:F.fn fn)(hl:W.heap[l]? =some (.loop (jy fn tmps ps assign body D .ready none)))(hs:args.size=ps.size)(h:assign.wpIn (F.inRound l) n P (Exit.then (λc a=>a.heap[l]? =some (.loop (jy fn tmps ps assign body D .ready none))/\body.wpIn (F.inRound l) n P (λe _ w'=>w'.heap[l]? =some (.loop (jy fn tmps ps assign body D .busy none))/\∃j,FU e=some j/\R (.returned (.bool j.isNone)) (w'.putObj l (.loop (jy fn tmps ps assign body D (if j.isNone then .ready else .done) j)))) c (a.putObj l (.loop (jy fn tmps ps assign body D .busy none)))) (λ_ _ _=>False))
   {tmps:=(ps.zip args).foldl (λt(p,v)=>t.setIfInBounds p v) tmps,defers:=[]} W):YieldAt F n P l args W R:=by have s:=run_yield (P:=P) (args:=args) hl hs;refine⟨fn,_,assign,body,s,roundIn_of_wpIn hF (wpIn_mono h ?_)⟩;rintro e c a d;cases e with|normal=>obtain⟨q,o⟩:=d;refine⟨_,run_beginRound q rfl,wpIn_mono o ?_⟩;rintro i u x⟨r,j,hj,m⟩;have he:=run_endRound (P:=P) j r;cases i<;>simp only[FU,qzk,reduceCtorEq]at hj<;>subst hj<;>exact⟨_,_,he,m⟩|_=>exact d
def nO(D:Nat):Deferred:={target:=.collected D,args:=#[]}
theorem Q8{F:Fence}{n:Nat}{P:Program}{g:Operand}{ps:Array Tmp}{assign body:Code}{Q:Exit->Act->World->Prop}{a:Act}{w:World}(s:F.round=none)(h1:1<=n){gf:Nat}{lb:Array Value}(r:a.eval g=.func (.func gf) #[] lb)(m:F.fn gf)(l:∀args w,(callFunc gf args).run P w=.ok (.enter gf args) w)(h:∀fn,F.fn fn->CallsIn F (n-1) P gf (#[.func (.yield (w.heap.size+1)) #[] #[]]++lb) ((w.alloc (.deferred (some []))).alloc (.loop (jy fn a.tmps ps assign body w.heap.size .ready none)))
   λe W=>(∃v,e=.returned v)/\((W.heap[w.heap.size+1]? =some (.loop (jy fn a.tmps ps assign body w.heap.size .ready none))/\Q .normal {a with defers:=nO w.heap.size::a.defers} (W.putObj (w.heap.size+1) (.loop (jy fn a.tmps ps assign body w.heap.size .exhausted none))))\/(∃c,W.heap[w.heap.size+1]? =some (.loop (jy fn a.tmps ps assign body w.heap.size .done (some c)))/\c.wpIn F n P Q {a with defers:=nO w.heap.size::a.defers} (W.putObj (w.heap.size+1) (.loop (jy fn a.tmps ps assign body w.heap.size .exhausted (some c))))))):(Code.rangeFunc g ps assign body).wpIn F n P Q a w:=by
 refine wpIn_rangeFunc ?_;intro fn q;rw[s];have hc:=h fn q;have he:=run_enterLoop_outer (P:=P) (w:=w) fn a.tmps ps assign body;revert hc he;generalize o:(w.alloc (.deferred (some []))).alloc (.loop (jy fn a.tmps ps assign body w.heap.size .ready none))=d;intro hc he;have p:(Instr.enterLoop fn a.tmps ps assign body none).run P w=.ok (w.heap.size+1,[nO w.heap.size]) d:=by rw[<-o];exact he
 have hr:(resolve a.eval (rangeCall g (w.heap.size+1)) 0).run P d=.ok {target:=.fn (.func gf) lb,args:=#[.func (.yield (w.heap.size+1)) #[] #[]]} d:=by simp only[resolve,r];simp[go_sem]
 have hi:(invoke (Target.fn (.func gf) lb) #[.func (.yield (w.heap.size+1)) #[] #[]]).run P d=.ok (.enter gf (#[.func (.yield (w.heap.size+1)) #[] #[]]++lb)) d:=by simp[invoke,go_sem,l]
 refine⟨w.heap.size+1,[nO w.heap.size],d,{target:=.fn (.func gf) lb,args:=#[.func (.yield (w.heap.size+1)) #[] #[]]},d,gf,#[.func (.yield (w.heap.size+1)) #[] #[]]++lb,d,?_,?_,?_,?_,λ_=>h1,?_⟩;·exact p
 ·exact hr
 ·intro x j;simp[Target.leads]at j;subst j;exact m
 ·exact hi
 ·refine hc.mono ?_;rintro e u⟨⟨v,rfl⟩,⟨hl,i⟩|⟨c,hl,i⟩⟩;·exact⟨none,_,run_endLoop hl (by simp[jy]),i⟩
  ·exact⟨some c,_,run_endLoop hl (by simp[jy]),i⟩
def OD(l:Nat)(RC:LoopState->Option Code->Loop)(R:Ending->World->Prop)(e:Exit)(_:Act)(w':World):Prop:=w'.heap[l]? =some (.loop (RC .busy none))/\∃j,FU e=some j/\R (.returned (.bool j.isNone)) (w'.putObj l (.loop (RC (if j.isNone then .ready else .done) j)))
theorem KG{F:Fence}{n:Nat}{P:Program}{l D:Nat}{fn:FuncId}{tmps:Array Value}{ps:Array Tmp}{assign body:Code}{W:World}{args:Array Value}{R:Ending->World->Prop}{RC:LoopState->Option Code->Loop}(d:RC=jy fn tmps ps assign body D)(hF:F.fn fn)(hl:W.heap[l]? =some (.loop (RC .ready none)))(hs:args.size=ps.size)(h:assign.wpIn (F.inRound l) n P (Exit.then (λc a=>a.heap[l]? =some (.loop (RC .ready none))/\body.wpIn (F.inRound l) n P (OD l RC R) c (a.putObj l (.loop (RC .busy none)))) (λ_ _ _=>False))
   {tmps:=(ps.zip args).foldl (λt(p,v)=>t.setIfInBounds p v) tmps,defers:=[]} W):YieldAt F n P l args W R:=by subst d;exact Q6 hF hl hs h
theorem NM{F:Fence}{n:Nat}{P:Program}{g:Operand}{ps:Array Tmp}{assign body:Code}{Q:Exit->Act->World->Prop}{a:Act}{w:World}(m:F.round=none)(h1:1<=n){gf:Nat}{lb:Array Value}(l:a.eval g=.func (.func gf) #[] lb)(i:F.fn gf)(d:∀args w,(callFunc gf args).run P w=.ok (.enter gf args) w)(h:∀fn RC,F.fn fn->RC=jy fn a.tmps ps assign body w.heap.size->CallsIn F (n-1) P gf (#[.func (.yield (w.heap.size+1)) #[] #[]]++lb) ((w.alloc (.deferred (some []))).alloc (.loop (RC .ready none)))
   λe W=>(∃v,e=.returned v)/\((W.heap[w.heap.size+1]? =some (.loop (RC .ready none))/\Q .normal {a with defers:=nO w.heap.size::a.defers} (W.putObj (w.heap.size+1) (.loop (RC .exhausted none))))\/(∃c,W.heap[w.heap.size+1]? =some (.loop (RC .done (some c)))/\c.wpIn F n P Q {a with defers:=nO w.heap.size::a.defers} (W.putObj (w.heap.size+1) (.loop (RC .exhausted (some c))))))):(Code.rangeFunc g ps assign body).wpIn F n P Q a w:=Q8 m h1 l i d (λfn j=>h fn _ j rfl)
theorem xX{P:Program}{Q:Exit->Act->World->Prop}{l:List Oper}(vs:List Told)(S:World->Prop)(k:Nat){a0:Act}{w0:World}(C:∀c a s w,a.defers=s.defers->Q (.panic c) a w->Q (.panic c) s w)(B:gQ l.toArray vs a0.tmps.size=true)(hS:∀m,m.heap=w0.heap->Below w0.heap.size w0 m->S m)(h:∀(F A:Act)(m:World),A=a0->F=eF l.toArray 0 vs A->m.heap=w0.heap->Below w0.heap.size w0 m->(∀W,S W->gW P F W l vs)/\wpAnyS P vs l.toArray Q S k ((List.range l.length).map (bC vs)).toArray F m):wpAny P .any l.toArray Q l.toArray.size (Array.replicate l.toArray.size false) a0 {w0 with drawn:=w0.drawn+1}:=by
 have u:Below w0.heap.size w0 {w0 with drawn:=w0.drawn+1}:=⟨rfl,rfl,rfl,qqf _,λ_ _=>rfl⟩;obtain⟨h1,h2⟩:=h _ a0 {w0 with drawn:=w0.drawn+1} rfl rfl rfl u;have hS:=hS {w0 with drawn:=w0.drawn+1} rfl u;have r:=(qE (ops:=l.toArray) vs 0 a0);have q:∀j,(Array.replicate l.toArray.size false).getD j false=false:=λj=>by simp only[qqg,Array.getElem?_replicate];split<;>rfl
 have p:=B;unfold gQ at p;simp only[qqd]at p;refine(xx S vs (eF l.toArray 0 vs a0) (by rw[r.1];exact B) C (λW D i o v ho hv=>(h1 W D).at (i:=i) (by simpa using ho) hv) _ _ _ _ (eF l.toArray 0 vs a0) (qzi (jzy _ _) (by simp))
  ⟨by simp,r.2.symm,r.1.symm,rfl,λt ht=>?_,λj v t hj ht=>?_,λ_ _=>rfl,λj o _ hl=>(by rw[q]at hl;cases hl),Or.inl hS,k,?_⟩);·exact(kZ vs 0 a0 t λj hj=>by rw[qja];exact ht j hj (q j)).symm
 ·have z:bC vs j=true:=by unfold bC;rw[hj]
  have y:=p.2 j (iJ z);rw[qzb z]at y;obtain⟨o,d,J,ho,hd,x,G,I,_,E,_,_⟩:=lM y;rw[ht]at x;injection x with e;subst e;exact wF vs 0 a0 j t v hj (by rw[qja];exact ht) G λk hk H=>by rw[qja];exact E k (iJ hk) H
 ·have e:canon vs (Array.replicate l.toArray.size false)=((List.range l.length).map (bC vs)).toArray:=by unfold canon;congr 1;simp only[jxc,jxd];refine jqg λj _=>?_;have:=q j;simp only[jxd]at this;rw[this];simp
  rw[e];exact h2
theorem qJ{P:Program}{Q:Exit->Act->World->Prop}{l:List Oper}(d:List Bool)(S:World->Prop)(k:Nat){a0:Act}{w0:World}(X:∀c a E w,a.defers=E.defers->Q (.panic c) a w->Q (.panic c) E w)(o0:yQ l.toArray d a0.tmps.size=true)(hS:∀p,p.heap=w0.heap->Below w0.heap.size w0 p->S p)(h:mJ P l.toArray S (λF=>∀(vs:List Told)(p:World),Hid (∀i,fA vs l.toArray i=rE d l.toArray i)->p.heap=w0.heap->Below w0.heap.size w0 p->wpAnyS P vs l.toArray Q S k d.toArray F p) l d a0):wpAny P .any l.toArray Q l.toArray.size (Array.replicate l.toArray.size false) a0 {w0 with drawn:=w0.drawn+1}:=by
 have hk:=o0;unfold yQ at hk;simp only[qqn,qqu,jxd]at hk;obtain⟨m0,N⟩:=hk;have u:l.length=d.length:=m0.symm;have D:=N;unfold gQ at D;simp only[qqd]at D;obtain⟨⟨q0,_⟩,p0⟩:=D;have J:(vsD l.toArray l d).length=l.length:=by
  have:∀(os:List Oper)(ms:List Bool),os.length=ms.length->(vsD l.toArray os ms).length=os.length:=by intro os;induction os with
   |nil=>intro ms h;cases ms with|nil=>rfl|cons=>simp at h
   |cons o os ih=>intro ms h;cases ms with|nil=>simp at h|cons m ms=>simp[vsD,ih ms (by simpa using h)]
  exact this l d u
 have i0:∀(j:Nat)(o:Oper),l[j]? =some o->d[j]? =some true->jT l.toArray o (oD l.toArray o)=true:=λj o ho L=>by
  have hj:=(qqi.1 ho).1;have h1:=p0 j (by rw[J];exact hj);have s:bC (vsD l.toArray l d) j=true:=by rw[uB l d j u,qqm,L];rfl
  rw[qzb s]at h1;have hv:∀(os:List Oper)(ms:List Bool)(j:Nat)(o:Oper),os[j]? =some o->ms[j]? =some true->(vsD l.toArray os ms)[j]? =some (some (oD l.toArray o,undef)):=by intro os;induction os with|nil=>intro ms j o h;simp at h|cons o' os ih=>intro ms j o h h2;cases ms with|nil=>simp at h2|cons m ms=>cases j with|zero=>simp at h h2;subst h;subst h2;simp[vsD]|succ j=>simpa [vsD]using ih ms j o (by simpa using h) (by simpa using h2)
  have hv:=hv l d j o ho L;unfold tK at h1;have z:l.toArray[j]? =some o:=by simpa using ho
  rw[z]at h1;simp only[hv,qqn]at h1;exact h1.2
 obtain⟨vs,h1,h2,h3⟩:=vT l d 0 a0 u (λj o e=>by simpa using e) i0 h;have O:gQ l.toArray vs a0.tmps.size=true:=by rw[Ch h1];simpa using N
 have s:∀j,bC vs j=d.getD j false:=λj=>by rw[xU h1,uB l d j u]
 have T:vs.length=l.length:=by rw[uQ h1,J]
 have r0:∀(o:Oper),o∈l->∀cs b,o.op≠.select cs b:=λo ho=>by obtain⟨j,hj⟩:=jqr.1 ho;exact λcs b=>Region.noSelect_spec q0 j o cs b (by simpa using hj)
 have n0:∀i,fA vs l.toArray i=rE d l.toArray i:=λi=>by unfold fA rE;have:bC vs=λj=>d.getD j false:=funext s;rw[this]
 refine xX vs S k X O hS λF A p I hF d0 Z=>⟨λW Y=>?_,?_⟩
 ·subst I;refine wK l vs λj o v r x=>?_;have G:=(h3 j o v r x).2 W Y;have hj:=(qqi.1 r).1;have j0:bC vs j=true:=by unfold bC;rw[x]
  have B:=O;unfold gQ at B;simp only[qqd]at B;have H:=B.2 j (by rw[T];exact hj);rw[qzb j0]at H;obtain⟨o',_,v',f1,_,_,_,_,_,_,U,V⟩:=lM H;have z:l.toArray[j]? =some o:=by simpa using r
  rw[z]at f1;obtain rfl:=jzp f1;have R:=qK (ops:=l.toArray) vs 0 j A;rw[qja,jzd (by rw[T];omega)]at R;have e0:∀t∈o.looksAt l.toArray,(eF l.toArray 0 (vs.take j) A).tmps[t]? =F.tmps[t]?:=λt ht=>by
   rw[hF,R];refine(kZ _ _ _ t λq C hd=>?_).symm;have M:bC vs (j+q)=true:=by unfold bC at C⊢;rw[jzq]at C;exact C
   rcases V t ht (j+q) (iJ M) (by simpa using hd)with y|y;·obtain⟨e,he,hb,s0⟩:=kI y;have:=(U e he hb).1;omega
   ·have:=pR y.1;rw[M]at this;cases this
  obtain⟨q1,q2⟩:=lY (ops:=l.toArray) o (r0 o (qqr r)) _ _ e0;have K:=(h3 j o v r x).1;have w1:=jR (F:=eF l.toArray 0 (vs.take j) A) K;have w2:=jR (F:=F) K;unfold dE at G⊢;rw[<-w2,<-q2,w1];rw[<-q1];exact G
 ·have l0:((List.range l.length).map (bC vs)).toArray=d.toArray:=by
   congr 1;apply jqq;intro j;rw[qqp];by_cases hj:j<l.length;·rw[qqz hj,jqb,s,qqm,qqh oqo];rfl
   ·rw[qza (by simp;omega),qza oqo];rfl
  rw[l0,hF];subst I;exact h2 vs p (hqh n0) d0 Z
theorem Ra{P:Program}{o:Oper}{a:Act}{w:World}{K:Act->World->Prop}{Q:Exit->Act->World->Prop}{l n:Nat}(hd:∀c,o.op≠.defer c)(h:Oper.wp P o a w K Q):Oper.wpIn (Fence.wide.inRound l) n P o a w K Q:=by refine⟨λ_ _=>trivial,?_⟩;rw[Oper.semAt_eq _ _ _ hd];unfold Oper.wp at h;generalize(execOp a.eval o).run P w=r at h⊢;cases r with
 |ok x w'=>cases x with|value v=>exact h|skip=>exact h|defer d=>exact h|enter f args=>exact⟨λi=>by simp[Fence.wide]at i,callsIn_wide.2 h⟩|row r args=>exact⟨λi=>by simp[Fence.wide]at i,λc cs _=>let⟨v,j,hr,hs⟩:=h c cs;⟨v,j,hr,stepsIn_wide.2 hs⟩⟩|_=>exact h.elim
 |halt x w'=>cases x<;>exact h
def rQ(l:List Oper):Bool:=l.all λo=>match o.op with| .defer _=>false|_=>true
theorem zV{l:List Oper}(h:rQ l=true){i:Nat}{o:Oper}(ho:l.toArray[i]? =some o):∀c,o.op≠.defer c:=λc e=>by have:=qqw.1 h o (qqr (by simpa using ho));rw[e]at this;cases this
theorem EC{P:Program}{Q:Exit->Act->World->Prop}{l n:Nat}{os:List Oper}(hd:rQ os=true)(c:¬LetsOut Q):∀(fuel:Nat)(listed:Array Bool)(a:Act)(w:World),wpAny P .any os.toArray Q fuel listed a w->wpAnyIn (Fence.wide.inRound l) n P .any os.toArray Q fuel listed a w|0,_,_,_,h=>h|fuel+1,listed,a,w,h=>by refine⟨h.1,λi hi=>?_⟩;have h2:=wpOp_mono (λa w=>EC (l:=l) (n:=n) hd c fuel (listed.setIfInBounds i true) a w) (h.2 i hi);unfold wpOp at h2;unfold wpOpIn;cases ho:os.toArray[i]? with|none=>rw[ho]at h2;exact h2|some o=>
   rw[ho]at h2;simp only at h2⊢;by_cases hw:Region.wanted o (yielded os.toArray a.tmps)=true;·rw[qzb hw]at h2⊢;exact Ra (zV hd ho) (h2.resolve_right λd=>c d.2)
   ·rw[qzc hw]at h2⊢;exact⟨λ_ _=>trivial,h2⟩
theorem Df{P:Program}{Q:Exit->Act->World->Prop}{l n:Nat}{os:List Oper}(hd:rQ os=true)(d:¬LetsOut Q):∀(c:List Nat)(a:Act)(w:World),wpOps P os.toArray Q c a w->wpOpsIn (Fence.wide.inRound l) n P os.toArray Q c a w|[],_,_,h=>h|i::c,a,w,h=>by rw[wpOps_cons]at h;rw[wpOpsIn_cons];have h2:=wpOp_mono (λa w=>Df (l:=l) (n:=n) hd d c a w) h;unfold wpOp at h2;unfold wpOpIn;cases ho:os.toArray[i]? with|none=>rw[ho]at h2;exact h2|some o=>
   rw[ho]at h2;simp only at h2⊢;by_cases hw:Region.wanted o (yielded os.toArray a.tmps)=true;·rw[qzb hw]at h2⊢;exact Ra (zV hd ho) (h2.resolve_right λj=>d j.2)
   ·rw[qzc hw]at h2⊢;exact⟨λ_ _=>trivial,h2⟩
theorem Bw{P:Program}{Q:Exit->Act->World->Prop}{l n id:Nat}{os:List Oper}{a0:Act}{w0:World}(hm:P.follows .mixedOrders=true)(hd:rQ os=true)(a:¬LetsOut Q)(h:wpAny P .any os.toArray Q os.toArray.size (Array.replicate os.toArray.size false) a0 {w0 with drawn:=w0.drawn+1}):(Code.region id os.toArray true).wpIn (Fence.wide.inRound l) n P Q a0 w0:=wpIn_region_any hm (EC hd a _ _ _ _ h)
theorem jQ{P:Program}{Q:Exit->Act->World->Prop}{l n id:Nat}{os:List Oper}{a0:Act}{w0:World}(hd:rQ os=true)(a:¬LetsOut Q)(h:wpList P os.toArray Q os a0 w0):(Code.region id os.toArray false).wpIn (Fence.wide.inRound l) n P Q a0 w0:=wpIn_region (Df hd a _ _ _ (by rw[List.range_eq_range',<-jqh,wpOps_eq_wpList os.toArray.toList 0 (by simp)];simpa using h))
theorem aO{a b:Bool}(h:a=b):Ending.returned (.bool a)=Ending.returned (.bool b):=by rw[h]
theorem aU{w w1 a:World}(h:Below w.heap.size w w1)(c:Below w1.heap.size w1 a):Below w.heap.size w a:=h.trans (c.mono h.size)
theorem aK{w:World}{a:Addr}{v:Value}(h:w.cell? a=some v):a.block<w.heap.size:=by unfold World.cell? at h;cases c:w.heap[a.block]? with|none=>simp[c]at h|some o=>exact(qqs.1 c).1
theorem aa{w w':World}(c:Below w.heap.size w w'){a:Addr}{v:Value}(h:w.cell? a=some v):w'.cell? a=some v:=(c.cell (p:=a) (aK h)).trans h
def Blk(W:World)(g:Nat)(t:TypeId)(cs:Array Value):Prop:=W.heap[g]? =some (.cells cs t (0,0))
section
variable {W W':World}{g:Nat}{t:TypeId}{cs:Array Value}
theorem Blk.lt(h:Blk W g t cs):g<W.heap.size:=by
 rcases Nat.lt_or_ge g W.heap.size with c|a;·exact c
 ·unfold Blk at h;rw[jzv a]at h;cases h
theorem Blk.cell(h:Blk W g t cs)(i:Nat):W.cell? ⟨g,i,none⟩=cs[i]?:=by unfold Blk at h;unfold World.cell?;simp[h]
theorem Blk.free(h:Blk W g t cs)(i:Nat):W.frozen? ⟨g,i,none⟩=false:=by unfold Blk at h;simp[World.frozen?,h]
theorem Blk.new(W:World)(t:TypeId)(cs:Array Value):Blk (W.alloc (.cells cs t)) W.heap.size t cs:=jxk W _
theorem Blk.below(h:Blk W g t cs)(a:Below W.heap.size W W'):Blk W' g t cs:=(a.block g h.lt).trans h
theorem Blk.alloc(h:Blk W g t cs)(o:Obj):Blk (W.alloc o) g t cs:=h.below ((qjk _ _).alloc (qqf _) _)
theorem Blk.put(h:Blk W g t cs)(i:Nat)(u:Value):Blk (W.setCell ⟨g,i,none⟩ u) g t (cs.setIfInBounds i u):=by unfold Blk at h⊢;simp[World.setCell,Array.getElem?_modify,h]
theorem Blk.far(h:Blk W g t cs){g':Nat}(a:g≠g')(i:Nat)(u:Value):Blk (W.setCell ⟨g',i,none⟩ u) g t cs:=(jjc W ⟨g',i,none⟩ u g a).trans h
end
def iW{α:Type}(z:Nat)(R:World->Nat->Nat->α->Prop)(w:World)(v:Value)(l:List α):Prop:= ∃A c,v=.slice A l.length c/\l.length<=c/\(l=[]\/∃b o,A=some ⟨b,o,none⟩/\∀i x,l[i]? =some x->R w b (o+i*z) x)
def iP(w:World)(b o:Nat)(k:Int):Prop:=w.cell? ⟨b,o,none⟩=some (.int .i64 k)
def ay(w:World)(v:Value)(a:List Int):Prop:=iW 1 iP w v a
abbrev InV:=In×Value
def ax(g:InV):Value:=.agg #[.int .u8 g.1.op,.int .i64 g.1.v,.int .i64 g.1.a,.int .i64 g.1.b,.int .i64 g.1.n,.int .u8 g.1.bin,g.2,.int .i64 g.1.f,.int .i64 g.1.arr,.int .i64 g.1.to]
structure fu(w:World)(b o:Nat)(g:InV):Prop where
 c0:w.cell? ⟨b,o,none⟩=some (.int .u8 g.1.op)c1:w.cell? ⟨b,o+1,none⟩=some (.int .i64 g.1.v)c2:w.cell? ⟨b,o+2,none⟩=some (.int .i64 g.1.a)c3:w.cell? ⟨b,o+3,none⟩=some (.int .i64 g.1.b)c4:w.cell? ⟨b,o+4,none⟩=some (.int .i64 g.1.n)c5:w.cell? ⟨b,o+5,none⟩=some (.int .u8 g.1.bin)c6:w.cell? ⟨b,o+6,none⟩=some g.2
 c7:w.cell? ⟨b,o+7,none⟩=some (.int .i64 g.1.f)c8:w.cell? ⟨b,o+8,none⟩=some (.int .i64 g.1.arr)c9:w.cell? ⟨b,o+9,none⟩=some (.int .i64 g.1.to)args:ay w g.2 g.1.args
def dW(w:World)(v:Value)(l:List InV):Prop:=iW 10 fu w v l
structure FnG where
 fn:FnP
 cv:Value
 l:List InV
def fnV(g:FnG):Value:=.agg #[.string ⟨g.fn.name.toArray⟩,.int .i64 g.fn.params,.int .i64 g.fn.vars,g.cv]
structure jA(w:World)(b o:Nat)(g:FnG):Prop where
 c0:w.cell? ⟨b,o,none⟩=some (.string ⟨g.fn.name.toArray⟩)c1:w.cell? ⟨b,o+1,none⟩=some (.int .i64 g.fn.params)c2:w.cell? ⟨b,o+2,none⟩=some (.int .i64 g.fn.vars)c3:w.cell? ⟨b,o+3,none⟩=some g.cv
 code:dW w g.cv g.l
 eq:g.l.map (·.1)=g.fn.code
def pO(w:World)(v:Value)(l:List FnG):Prop:=iW 4 jA w v l
structure PrG where
 p:PrW
 av:Value
 fv:Value
 l:List FnG
def prV(g:PrG):Value:=.agg #[g.av,g.fv,.int .i64 g.p.main]
structure PrR(w:World)(g:PrG):Prop where
 arrays:ay w g.av g.p.arrays
 fns:pO w g.fv g.l
 eq:g.l.map (·.fn)=g.p.fns
theorem iW.mono{α:Type}{z:Nat}{R a:World->Nat->Nat->α->Prop}{w w':World}{v:Value}{l:List α}(h:iW z R w v l)(k:∀b o x,x∈l->R w b o x->a w' b o x):iW z a w' v l:=by obtain⟨A,c,e,hc,h⟩:=h;refine⟨A,c,e,hc,h.imp id λ⟨b,o,e,h⟩=>⟨b,o,e,λi x d=>k _ _ _ (qqr d) (h i x d)⟩⟩
section
variable {w w':World}{v:Value}
theorem ay.below{a:List Int}(h:ay w v a)(c:Below w.heap.size w w'):ay w' v a:=iW.mono h λ_ _ _ _ h=>aa c h
theorem fu.below{b o:Nat}{g:InV}(h:fu w b o g)(a:Below w.heap.size w w'):fu w' b o g:=⟨aa a h.c0,aa a h.c1,aa a h.c2,aa a h.c3,aa a h.c4,aa a h.c5,aa a h.c6,aa a h.c7,aa a h.c8,aa a h.c9,h.args.below a⟩
theorem dW.below{l:List InV}(h:dW w v l)(a:Below w.heap.size w w'):dW w' v l:=iW.mono h λ_ _ _ _ h=>h.below a
theorem jA.below{b o:Nat}{g:FnG}(h:jA w b o g)(a:Below w.heap.size w w'):jA w' b o g:=⟨aa a h.c0,aa a h.c1,aa a h.c2,aa a h.c3,h.code.below a,h.eq⟩
theorem pO.below{l:List FnG}(h:pO w v l)(a:Below w.heap.size w w'):pO w' v l:=iW.mono h λ_ _ _ _ h=>h.below a
theorem PrR.below{g:PrG}(h:PrR w g)(a:Below w.heap.size w w'):PrR w' g:=⟨h.arrays.below a,h.fns.below a,h.eq⟩
end
theorem yJ(g:InV)(w:World):Calls Tryz.prog 94 #[ax g] w λe w'=>e=.returned (.bool (eO g.1))/\Below w.heap.size w w':=by
 obtain⟨⟨op,v,a,b,n,bin,args,f,arr,t⟩,av⟩:=g;unfold eO ax;simp only[];by_cases h1:op=1;·subst h1;go_enter Tryz.func94,Tryz.ntmps94;go_wp2_with fail;go_ret;exact⟨rfl,(qjk _ _).alloc (qqf _) _⟩
 ·by_cases h2:op=2;·subst h2;go_enter Tryz.func94,Tryz.ntmps94;go_wp2_with fail;go_ret;exact⟨rfl,(qjk _ _).alloc (qqf _) _⟩
  ·have c:(op==1)=false:=by simpa using h1
   have d:(op==2)=false:=by simpa using h2
   have h:(op:Int)≠1:=oqo;have i:(op:Int)≠2:=oqo;go_enter Tryz.func94,Tryz.ntmps94;go_wp2_with fail;go_ret;refine⟨aO ?_,(qjk _ _).alloc (qqf _) _⟩;have j:((op:Int)==1)=false:=qqe.2 h;have l:((op:Int)==2)=false:=qqe.2 i;have m:((op:Int)==3)=(op==3):=by rw[qzd,jqz,jqz];omega
   rw[c,d,j,l,m]
def qO(x:In):Value:=match bG x with|some v=>.tuple #[.int .i64 v,.bool true]|none=>.tuple #[.int .i64 0,.bool false]
theorem Fw(g:InV)(w:World):Calls Tryz.prog 133 #[ax g] w λe w'=>e=.returned (qO g.1)/\Below w.heap.size w w':=by
 obtain⟨⟨op,v,a,b,n,bin,args,f,arr,t⟩,av⟩:=g;have c:=(qjk w.heap.size w).alloc (qqf _) (.cells #[.int .u8 op,.int .i64 v,.int .i64 a,.int .i64 b,.int .i64 n,.int .u8 bin,av,.int .i64 f,.int .i64 arr,.int .i64 t] 71);have key:∀o:Nat,op=o->o∈[1,2,3,4,8,11]->Calls Tryz.prog 133 #[ax ⟨⟨op,v,a,b,n,bin,args,f,arr,t⟩,av⟩] w λe w'=>e=.returned (qO ⟨op,v,a,b,n,bin,args,f,arr,t⟩)/\Below w.heap.size w w':=λo e ho=>by simp only[qzh,qjh,jxo]at ho;unfold ax;simp only[];rcases ho with rfl|rfl|rfl|rfl|rfl|rfl<;>subst e<;>(go_enter Tryz.func133,Tryz.ntmps133;go_wp2_with fail;go_ret2;exact⟨rfl,c⟩)
 by_cases ho:op∈[1,2,3,4,8,11];·exact key op rfl ho
 ·have hv:eU op=false:=by unfold eU;simp only[qzh,qjh,jxo,not_or]at ho;simp[ho]
  have e:qO ⟨op,v,a,b,n,bin,args,f,arr,t⟩=.tuple #[.int .i64 0,.bool false]:=by unfold qO bG;simp only[hv,qzr,jxh]
  rw[e];simp only[qzh,qjh,jxo,not_or]at ho;obtain⟨d,h,i,j,l,m⟩:=ho;have y:((op:Int)==1)=false:=qqe.2 oqo;have z:((op:Int)==2)=false:=qqe.2 oqo;have A:((op:Int)==3)=false:=qqe.2 oqo;have B:((op:Int)==4)=false:=qqe.2 oqo;have C:((op:Int)==8)=false:=qqe.2 oqo;have D:((op:Int)==11)=false:=qqe.2 oqo;have p:¬(op:Int)=1:=oqo;have q:¬(op:Int)=2:=oqo;have r:¬(op:Int)=3:=oqo;have s:¬(op:Int)=4:=oqo;have u:¬(op:Int)=8:=oqo;have x:¬(op:Int)=11:=oqo;unfold ax;simp only[];go_enter Tryz.func133,Tryz.ntmps133;go_wp2_with fail;go_ret2;exact⟨rfl,c⟩
theorem eu(j:Value)(v a:Int)(w:World):Calls Tryz.prog 218 #[j,ax ⟨aQ v a,.slice none 0 0⟩] w λe w'=>e=.returned (ax ⟨aJ (aQ v a),.slice none 0 0⟩)/\Below w.heap.size w w':=by
 have i:∀cs c,Blk ((w.alloc (.cells cs 71)).alloc (.cells c 71)) (w.heap.size+1) 71 c:=λcs c=>by have:=Blk.new (w.alloc (.cells cs 71)) 71 c;rwa[jqe]at this
 have d:∀cs c,Below w.heap.size w ((w.alloc (.cells cs 71)).alloc (.cells c 71)):=λcs c=>((qjk w.heap.size w).alloc (qqf _) _).alloc (by rw[jqe];omega) _;unfold aJ aQ ax;simp only[];by_cases h:v=a;·subst h;rw[qzb rfl];go_enter Tryz.func218,Tryz.ntmps218;go_wp2_with fail;refine bg (w.heap.size+1) (i _ _) ?_;exact⟨rfl,d _ _⟩
 ·rw[qzc h];have q:(v==a)=false:=qqe.2 h;go_enter Tryz.func218,Tryz.ntmps218;go_wp2_with fail;refine bg (w.heap.size+1) (i _ _) ?_;exact⟨rfl,d _ _⟩
theorem zR(g o q r L:Nat)(w:World)(m:q<4)(hr:r<64)(h:w.cell? ⟨g,o+q,none⟩=some (.int .u64 L))(j:L<2^64):Calls Tryz.prog 95 #[.pointer (some ⟨g,o,none⟩),.int .i64 ((64*q+r:Nat):Int)] w λe w'=>e=.returned (.bool (L.testBit r))/\w=w':=by
 have a:((64*q+r:Nat):Int).tdiv 64=(q:Int):=by rw[Int.tdiv_eq_ediv_of_nonneg oqo];omega
 have c:((64*q+r:Nat):Int).tmod 64=(r:Int):=by rw[Int.tmod_eq_emod_of_nonneg oqo];omega
 obtain⟨v,hv⟩:∃v,v=((64*q+r:Nat):Int):=⟨_,rfl⟩;rw[<-hv]at a c⊢;have p:=aK h;clear hv;go_enter Tryz.func95,Tryz.ntmps95;go_wp2_with fail;go_ret;refine⟨aO ?_,rfl⟩;have d:((L:Int)/2^r)=((L/2^r:Nat):Int):=by simp
 have l:L/2^r<18446744073709551616:=Nat.lt_of_le_of_lt (Nat.div_le_self _ _) j;have i:=bits_and_u64_nat (L/2^r) 1 l (by decide);rw[d,show(1:Int)=((1:Nat):Int)from rfl,i,Nat.and_one_is_mod,Nat.testBit_eq_decide_div_mod_eq,qzd,jqz,qqu];omega
theorem IC(g o q r L:Nat)(w:World)(G:q<4)(hr:r<64)(h:w.cell? ⟨g,o+q,none⟩=some (.int .u64 L))(hf:w.frozen? ⟨g,o+q,none⟩=false)(y:L<2^64):Calls Tryz.prog 136 #[.pointer (some ⟨g,o,none⟩),.int .i64 ((64*q+r:Nat):Int)] w λe w'=>e=.returned (.tuple #[])/\∃d,Below w.heap.size w d/\d.heap=w.heap/\w'=d.setCell ⟨g,o+q,none⟩ (.int .u64 ((L|||2^r:Nat):Int)):=by
 have u:((64*q+r:Nat):Int).tdiv 64=(q:Int):=by rw[Int.tdiv_eq_ediv_of_nonneg oqo];omega
 have x:((64*q+r:Nat):Int).tmod 64=(r:Int):=by rw[Int.tmod_eq_emod_of_nonneg oqo];omega
 obtain⟨v,hv⟩:∃v,v=((64*q+r:Nat):Int):=⟨_,rfl⟩;rw[<-hv]at u x⊢;have J:=aK h;have H:=hqh h;clear h;clear hv;have M:IntKind.i64.wrap (q:Int)=q:=jqs _ oqo;have wr:IntKind.i64.wrap (r:Int)=r:=jqs _ oqo;have I:(q:Int)<4:=oqo;go_enter Tryz.func136,Tryz.ntmps136;go_upto_region 0 with fail;refine wp_region_draw [true,true,true,true,true,true,true,true,true,true,true,true,false] (λW=>Below w.heap.size w W) 1 bY (λ_ a s _ hd h=>by cases a;cases s;cases hd;exact h) kqk (λ_ _ h=>h) ?_;iterate 12 refine aI (λK c=>?_);rw[qzb kqk];refine⟨_,λZ A=>(by have B:=aa A H.o;go_simp;try rfl),?_⟩;simp only[qqa];refine c _ ?_;clear c
 refine aV (aW ?_);intro vs i z l j;refine aF 12 rfl kqk (λE c=>?_);have B:=aa j H.o;have F:i.frozen? ⟨g,o+q,none⟩=false:=by unfold World.frozen? at hf⊢;rw[l];exact hf
 go_simp;refine c.o _ _ (Or.inr ((z.o 12).trans kqk)) ?_;clear c;refine aH kqk ?_;go_wp2_with fail;go_end0;have C:((2:Int)^r)=((2^r:Nat):Int):=by simp
 have p:2^r<18446744073709551616:=qzj (Nat.pow_lt_pow_right (by decide) hr) (by decide);rw[C];generalize 2^r=m at p⊢;have D:IntKind.u64.wrap (m:Int)=m:=IntWalk.u64_in _ oqo;exact⟨rfl,i,j,l,by rw[D,bits_or_u64_nat L m y p]⟩
theorem GD(a b:Nat)(ha:a<18446744073709551616)(c:b<18446744073709551616):bits .andNot .u64 (a:Int) (b:Int)=(((BitVec.ofNat 64 a&&& ~~~BitVec.ofNat 64 b).toNat:Nat):Int):=by have h1:BitVec.ofInt 64 (a:Int)=BitVec.ofNat 64 a:=BitVec.ofInt_natCast ..;have h2:BitVec.ofInt 64 (b:Int)=BitVec.ofNat 64 b:=BitVec.ofInt_natCast ..;show IntKind.u64.wrap ((BitVec.ofInt 64 (a:Int)&&& ~~~BitVec.ofInt 64 (b:Int)).toNat:Int)=_;rw[h1,h2];have:=(BitVec.ofNat 64 a&&& ~~~BitVec.ofNat 64 b).isLt;exact IntWalk.u64_in _ oqo
def vM(L r:Nat):Nat:=(BitVec.ofNat 64 L&&& ~~~BitVec.ofNat 64 (2^r)).toNat
theorem Gc(g o q r L:Nat)(w:World)(G:q<4)(hr:r<64)(h:w.cell? ⟨g,o+q,none⟩=some (.int .u64 L))(hf:w.frozen? ⟨g,o+q,none⟩=false)(y:L<2^64):Calls Tryz.prog 134 #[.pointer (some ⟨g,o,none⟩),.int .i64 ((64*q+r:Nat):Int)] w λe w'=>e=.returned (.tuple #[])/\∃d,Below w.heap.size w d/\d.heap=w.heap/\w'=d.setCell ⟨g,o+q,none⟩ (.int .u64 ((vM L r:Nat):Int)):=by
 have u:((64*q+r:Nat):Int).tdiv 64=(q:Int):=by rw[Int.tdiv_eq_ediv_of_nonneg oqo];omega
 have x:((64*q+r:Nat):Int).tmod 64=(r:Int):=by rw[Int.tmod_eq_emod_of_nonneg oqo];omega
 obtain⟨v,hv⟩:∃v,v=((64*q+r:Nat):Int):=⟨_,rfl⟩;rw[<-hv]at u x⊢;have J:=aK h;have H:=hqh h;clear h;clear hv;have M:IntKind.i64.wrap (q:Int)=q:=jqs _ oqo;have wr:IntKind.i64.wrap (r:Int)=r:=jqs _ oqo;have I:(q:Int)<4:=oqo;go_enter Tryz.func134,Tryz.ntmps134;go_upto_region 0 with fail;refine wp_region_draw [true,true,true,true,true,true,true,true,true,true,true,true,false] (λW=>Below w.heap.size w W) 1 bY (λ_ a s _ hd h=>by cases a;cases s;cases hd;exact h) kqk (λ_ _ h=>h) ?_;iterate 12 refine aI (λK c=>?_);rw[qzb kqk];refine⟨_,λZ A=>(by have B:=aa A H.o;go_simp;try rfl),?_⟩;simp only[qqa];refine c _ ?_;clear c
 refine aV (aW ?_);intro vs i z l j;refine aF 12 rfl kqk (λE c=>?_);have B:=aa j H.o;have F:i.frozen? ⟨g,o+q,none⟩=false:=by unfold World.frozen? at hf⊢;rw[l];exact hf
 go_simp;refine c.o _ _ (Or.inr ((z.o 12).trans kqk)) ?_;clear c;refine aH kqk ?_;go_wp2_with fail;go_end0;have C:((2:Int)^r)=((2^r:Nat):Int):=by simp
 have p:2^r<18446744073709551616:=qzj (Nat.pow_lt_pow_right (by decide) hr) (by decide);rw[C];generalize hm:2^r=m at p⊢;have D:IntKind.u64.wrap (m:Int)=m:=IntWalk.u64_in _ oqo;exact⟨rfl,i,j,l,by unfold vM;rw[D,GD L m y p,hm]⟩
open Go.Maps
structure om{κ:Type}(k:TypeId)(good:κ->Prop)(kv:κ->Value)(kl:κ->Lit):Prop where
 keyed:Keyed Tryz.prog k
 key:∀{x:κ},good x->keyOf Tryz.prog k (kv x)=some (kl x)inv:∀{v:Value}{l:Lit},keyOf Tryz.prog k v=some l->∃x,good x/\v=kv x
 inj:∀{x y:κ},kv x=kv y->x=y
theorem om.lit{κ:Type}{k:TypeId}{good:κ->Prop}{kv:κ->Value}{kl:κ->Lit}(T:om k good kv kl){x:κ}(a:good x):WideAt.IsKeyLit (kl x):=T.keyed.key (T.key a)
theorem om.ne{κ:Type}{k:TypeId}{good:κ->Prop}{kv:κ->Value}{kl:κ->Lit}(T:om k good kv kl){x y:κ}(a:good x)(c:good y)(h:x≠y):kl x≠kl y:=λe=>by have h1:=T.key a;have h2:=T.key c;rw[e]at h1;exact h (T.inj (T.keyed.inj h1 h2))
def okN(x:Int):Prop:=(Lit.int .i64 x).wf=true
theorem jh:om (κ:=Int) 3 okN (λx=>.int .i64 x) (λx=>.int .i64 x)where
 keyed:=int_keyed (q:=.i64) kqk;key{x}h:=by have hu:Tryz.prog.underlying 3=some (.int .i64):=kqk;unfold okN at h;simp[keyOf,mapKey,hu,h]
 inv{v l}h:=by obtain⟨x,e,_,hw⟩:=Maps.keyOf_int_inv (q:=.i64) kqk h;exact⟨x,hw,e⟩
 inj{x y}h:=by injection h
def fF(n:Int):DataW Unit:=.lit (.int .i64 n)
section
variable {κ:Type}{k:TypeId}{good:κ->Prop}{kv:κ->Value}{kl:κ->Lit}{e t:TypeId}{w w':World}{b n:Nat}{f:κ->Option Int}
def dK(k:TypeId)(good:κ->Prop)(kl:κ->Lit)(e:TypeId)(w:World)(b n:Nat)(f:κ->Option Int):Prop:= ∃D:DataW Unit,w.ownsMap Tryz.prog k (plainElem Tryz.prog e) b n D/\∀x,good x->Maps.has D (kl x)=(f x).isSome/\D.atKey (kl x) (fF 0)=fF ((f x).getD 0)
theorem dK.mono(h:dK k good kl e w b n f){m:Nat}(hm:n<=m):dK k good kl e w b m f:=let⟨D,h1,h2⟩:=h;⟨D,h1.mono hm,h2⟩
theorem dK.lt(h:dK k good kl e w b n f):b<w.heap.size:=let⟨_,h1,_⟩:=h;h1.lt
theorem dK.same(h:dK k good kl e w b n f)(i:w'.heap[b]? =w.heap[b]?):dK k good kl e w' b n f:=by obtain⟨D,⟨es,c,h1,h2,h3,a⟩,d⟩:=h;exact⟨D,⟨es,c,by rw[i];exact h1,h2,h3,a⟩,d⟩
theorem dK.below(h:dK k good kl e w b n f)(a:Below w.heap.size w w'):dK k good kl e w' b n f:=h.same (a.block b h.lt)
theorem dK.made(w:World):dK k good kl e (w.alloc (.map #[] 0)) w.heap.size 0 (λ_=>none):=⟨.map [],World.ownsMap_made w _ _ _,λ_ _=>⟨rfl,rfl⟩⟩
theorem dK.look(h:dK k good kl e w b n f)(T:om k good kv kl)(ht:Tryz.prog.underlying t=some (.map k e))(he:Tryz.prog.underlying e=some (.int .i64))(hz:(zeroValue e).run Tryz.prog w=.ok (.int .i64 0) w){x:κ}(i:good x):(Instr.lookup t (.map (some b)) (kv x) true).run Tryz.prog w=.ok (.tuple #[.int .i64 ((f x).getD 0),.bool (f x).isSome]) w:=by
 obtain⟨D,h1,h2⟩:=h;obtain⟨v,ps,j,hv⟩:=h1.look_ok T.keyed ht hz (plainElem_int (H:=Unit) he (a:=0) (by decide)) (T.key i);obtain⟨l,m⟩:=h2 x i;obtain⟨c,rfl,hc,_⟩:=plainElem_int_inv he hv;have:=jqi Prod.fst hc;simp only at this;rw[show(DataW.lit (Lit.int IntKind.i64 0):DataW Unit)=fF 0 from rfl,m]at this;have d:(f x).getD 0=c:=by injection this with d;injection d
 rw[j,l,d]
theorem dK.store(h:dK k good kl e w b n f)(T:om k good kv kl)(ht:Tryz.prog.underlying t=some (.map k e))(he:Tryz.prog.underlying e=some (.int .i64))(hn:n<maxLen){x:κ}(c:good x){y:Int}(d:okN y) [DecidableEq κ]: ∃w',(Instr.mapUpdate t (.map (some b)) (kv x) (.int .i64 y)).run Tryz.prog w=.ok () w'/\dK k good kl e w' b (n+1) (λz=>if z=x then some y else f z)/\w.mapTurned w' b:=by
 obtain⟨D,h1,h2⟩:=h;obtain⟨w',i,j,l⟩:=h1.store T.keyed ht hn (T.key c) (plainElem_int (H:=Unit) he d);refine⟨w',i,⟨_,j,λz hz=>?_⟩,l⟩;simp only[];by_cases a:z=x;·subst a;rw[qzb rfl];exact⟨has_put_same h1.isMap (T.lit hz) _,atKey_put_same h1.isMap (T.lit hz) _ _⟩
 ·rw[qzc a];have:=T.ne hz c a;rw[has_put_other this,atKey_put_other this];exact h2 z hz
theorem dK.drop(h:dK k good kl e w b n f)(T:om k good kv kl)(ht:Tryz.prog.underlying t=some (.map k e)){x:κ}(c:good x)(ty:TypeId) [DecidableEq κ]: ∃w',(Builtin.delete_ #[t,k] ty #[.map (some b),kv x]).run Tryz.prog w=.ok (.tuple #[]) w'/\dK k good kl e w' b n (λz=>if z=x then none else f z)/\w.mapTurned w' b:=by
 obtain⟨D,h1,h2⟩:=h;obtain⟨w',d,i,j⟩:=h1.drop T.keyed ht (T.key c) ty;refine⟨w',d,⟨_,i,λz hz=>?_⟩,j⟩;simp only[];by_cases a:z=x;·subst a;rw[qzb rfl];exact⟨has_del_same,atKey_del_same _⟩
 ·rw[qzc a];have:=T.ne hz c a;rw[has_del_other this,atKey_del_other this];exact h2 z hz
theorem BJ{pd:Lit->DataW Unit->Bool}{a:Lit}(hk:WideAt.IsKeyLit a):∀(c:List (Lit×DataW Unit)),c.Pairwise (λp q=>p.1≠q.1)->(Maps.has (.map (c.filter λp=>!pd p.1 p.2)) a=(Maps.has (.map c) a&&!pd a ((DataW.map c).atKey a (fF 0))))/\(DataW.map (c.filter λp=>!pd p.1 p.2)).atKey a (fF 0)=if Maps.has (.map c) a&&!pd a ((DataW.map c).atKey a (fF 0))then(DataW.map c).atKey a (fF 0)else fF 0
 |[],_=>⟨by simp[has_eq],by simp[has_eq,DataW.atKey]⟩|p::c,h=>by
  obtain⟨h1,h2⟩:=List.pairwise_cons.1 h;have ih:=BJ (pd:=pd) hk c h2;by_cases i:p.1=a
  ·have hs:p.1.sameKey a=true:=by rw[i];exact WideAt.sameKey_self hk
   have s:∀q∈c,q.1.sameKey a=false:=λq l=>sameKey_ne (by rw[<-i];exact(h1 q l).symm);have u:Maps.has (.map c) a=false:=by rw[has_eq,List.any_eq_false];intro q l;rw[s q l];simp
   have ha:(DataW.map (p::c)).atKey a (fF 0)=p.2:=by simp[DataW.atKey,List.find?_cons,hs]
   have j:Maps.has (.map (p::c)) a=true:=by rw[has_eq,List.any_cons,hs,Bool.true_or]
   have m:pd a p.2=pd p.1 p.2:=by rw[i]
   rw[ha,j,jzr,m];rw[u]at ih;by_cases d:pd p.1 p.2=true;·rw[qzc (by simp[d]),ih.1,ih.2,d];simp
   ·have d:pd p.1 p.2=false:=by simpa using d
    rw[qzb (by simp[d]),d];exact⟨by rw[has_eq,List.any_cons,hs,Bool.true_or];rfl,by simp[DataW.atKey,List.find?_cons,hs]⟩
  ·have hs:p.1.sameKey a=false:=sameKey_ne i;have ha:(DataW.map (p::c)).atKey a (fF 0)=(DataW.map c).atKey a (fF 0):=by simp[DataW.atKey,List.find?_cons,hs]
   have j:Maps.has (.map (p::c)) a=Maps.has (.map c) a:=by rw[has_eq,has_eq,List.any_cons,hs,Bool.false_or]
   rw[ha,j,jzr];by_cases d:(!pd p.1 p.2)=true
   ·rw[qzb d];have o:(DataW.map (p::c.filter λp=>!pd p.1 p.2)).atKey a (fF 0)=(DataW.map (c.filter λp=>!pd p.1 p.2)).atKey a (fF 0):=by simp[DataW.atKey,List.find?_cons,hs]
    have r:Maps.has (.map (p::c.filter λp=>!pd p.1 p.2)) a=Maps.has (.map (c.filter λp=>!pd p.1 p.2)) a:=by rw[has_eq,has_eq,List.any_cons,hs,Bool.false_or]
    rw[o,r];exact ih
   ·rw[qzc d];exact ih
theorem yR{D:DataW Unit}(h1:w.ownsMap Tryz.prog k (plainElem Tryz.prog e) b n D)(h2:∀x,good x->Maps.has D (kl x)=(f x).isSome/\D.atKey (kl x) (fF 0)=fF ((f x).getD 0))(T:om k good kv kl){pd:Lit->DataW Unit->Bool}{g:κ->Option Int}(d:∀x,good x->g x=if(f x).isSome=true/\pd (kl x) (fF ((f x).getD 0))=true then none else f x)(hs:w'.ownsMap Tryz.prog k (plainElem Tryz.prog e) b n (Lib.deleteFuncD pd D)):dK k good kl e w' b n g:=by refine⟨_,hs,λx c=>?_⟩;obtain⟨a,rfl,ht⟩:=h1.tidy T.keyed;obtain⟨i,j⟩:=h2 x c;obtain⟨l,m⟩:=BJ (pd:=pd) (T.lit c) a ht;show Maps.has (.map (a.filter λp=>!pd p.1 p.2)) (kl x)=_/\(DataW.map (a.filter λp=>!pd p.1 p.2)).atKey (kl x) (fF 0)=_;rw[l,m,i,j,d x c];cases hf:f x with|none=>simp|some y=>cases h:pd (kl x) (fF y)<;>simp[h]
end
open Go.Shelf
def VK:Go.Shelf.Ren:=⟨λ|5=>158|n=>n,λ|0=>0|4=>4|23=>191|24=>3|26=>3|27=>240|n=>n,λ|n=>n⟩
theorem Uu:SlLaysDf.n5 Tryz.prog VK:={
 mixed:=kqk
 f5:=⟨ "maps.DeleteFunc[map[int]int,int,int]",by kernel_rfl,Tryz.func158.trans (jqi some kqk)⟩
 t0:=Tryz.underlying0
 a0:=Tryz.isAgg0
 z0:=Tryz.sizeOf0
 v0:=Tryz.zeroValue0
 t4:=Tryz.underlying4
 a4:=Tryz.isAgg4
 z4:=Tryz.sizeOf4
 v4:=Tryz.zeroValue4
 t23:=Tryz.underlying191
 a23:=Tryz.isAgg191
 z23:=Tryz.sizeOf191
 v23:=Tryz.zeroValue191
 a24:=Tryz.isAgg3
 z24:=Tryz.sizeOf3
 a26:=Tryz.isAgg3
 z26:=Tryz.sizeOf3
 t27:=Tryz.underlying240
 a27:=Tryz.isAgg240
 z27:=Tryz.sizeOf240
 v27:=Tryz.zeroValue240}
theorem MM(x y v:Int)(g:Nat)(w:World)(h:w.cell? ⟨g,0,none⟩=some (.int .i64 v)):Calls Tryz.prog 159 (#[.int .i64 x,.int .i64 y]++ #[.pointer (some ⟨g,0,none⟩)]) w λe w'=>e=.returned (.bool (x==v||y==v))/\w.grownBy w' none:=by
 show Calls Tryz.prog 159 #[.int .i64 x,.int .i64 y,.pointer (some ⟨g,0,none⟩)] w _;have hr:=World.grownBy.refl w none;cases a:x==v
 ·go_enter Tryz.func159,Tryz.ntmps159;go_wp2_with fail;all_goals go_ret
  all_goals exact⟨by simp,hr⟩
 ·go_enter Tryz.func159,Tryz.ntmps159;go_wp2_with fail;all_goals go_ret
  all_goals exact⟨by simp,hr⟩
def UU(v:Int)(kl:Lit)(a:DataW Unit):Bool:=(match kl with| .int _ x=>x==v|_=>false)||(match a with| .lit (.int _ y)=>y==v|_=>false)
def Un(v:Int)(f:Int->Option Int):Int->Option Int:=λx=>if x=v then none else if f x=some v then none else f x
theorem LC(b n g:Nat)(v:Int)(f:Int->Option Int)(w:World)(h:dK 3 okN (λx=>.int .i64 x) 3 w b n f)(hc:w.cell? ⟨g,0,none⟩=some (.int .i64 v))(m:g≠b):Calls Tryz.prog 158 #[.map (some b),.func (.func 159) #[] #[.pointer (some ⟨g,0,none⟩)]] w λe w'=>e=.returned (.tuple #[])/\dK 3 okN (λx=>.int .i64 x) 3 w' b n (Un v f)/\w.grownBy w' (some b):=by obtain⟨D,h1,h2⟩:=h;have c:=AnyDf.maps_DeleteFunc Uu jh.keyed (plainElem Tryz.prog 3) (UU v) 159 #[.pointer (some ⟨g,0,none⟩)] b n D w (enters_of Tryz.func159 kqk rfl) h1 (λW key val kl o p a hk hv=>by obtain⟨x,rfl,rfl,_⟩:=Maps.keyOf_int_inv (q:=.i64) kqk hk;obtain⟨y,rfl,j,_⟩:=plainElem_int_inv (q:=.i64) kqk hv;have l:o=fF y:=jqi Prod.fst j;subst l;exact(MM x y v g W (a.cell hc (by simpa using m))));refine c.mono ?_;rintro e w1⟨he,ho,a⟩;refine⟨he,yR h1 h2 jh (λx _=>?_) ho,a⟩;unfold Un UU fF;cases hf:f x with|none=>simp|some y=>
  by_cases d:x=v;·simp[d]
  ·by_cases i:y=v;·simp[i]
   ·simp[d,i]
open Go.WideShapes
abbrev pq:=Nat×Int×Int
def okB(x:pq):Prop:=(Lit.int .u8 x.1).wf=true/\okN x.2.1/\okN x.2.2
def kvB(x:pq):Value:=.agg #[.int .u8 x.1,.int .i64 x.2.1,.int .i64 x.2.2]
def klB(x:pq):Lit:=.string (keyBytes [.int .u8 x.1,.int .i64 x.2.1,.int .i64 x.2.2])
theorem RD:laidOutB Tryz.prog=true:=kqk
theorem yo:Tryz.prog.cellsOf 198=3:=kqk
theorem Cj:Tryz.prog.cellsOf 3=1:=kqk
theorem zY:Tryz.prog.cellsOf 37=1:=kqk
theorem Rw:Tryz.prog.keyType 198=true:=kqk
theorem Im:∃d,Tryz.prog.types.size=d+1:=⟨Tryz.prog.types.size-1,by have:0<Tryz.prog.types.size:=jxu kqk;omega⟩
theorem xJ{d:Nat}{t:TypeId}{q:IntKind}{n:Int}(hu:Tryz.prog.underlying t=some (.int q))(h:(Lit.int q n).wf=true):Tryz.prog.keyLits (d+1) t [.int q n]=some [.int q n]:=by unfold Program.keyLits;simp[hu,h]
theorem AZ{d:Nat}{t:TypeId}{q:IntKind}{cs:List Value}{l:List Lit}(hu:Tryz.prog.underlying t=some (.int q))(h:Tryz.prog.keyLits (d+1) t cs=some l):∃n,cs=[.int q n]/\l=[.int q n]/\(Lit.int q n).wf=true:=by
 obtain⟨n,rfl,rfl⟩:=keyLits_int' hu h;refine⟨n,rfl,rfl,?_⟩;unfold Program.keyLits at h;simp only[hu]at h;split at h;·rename_i c;exact c.2
 ·cases h
theorem PI{d:Nat}(x:pq)(h:okB x):Tryz.prog.keyLits (d+1+1) 198 [.int .u8 x.1,.int .i64 x.2.1,.int .i64 x.2.2]=some [.int .u8 x.1,.int .i64 x.2.1,.int .i64 x.2.2]:=by obtain⟨h1,h2,h3⟩:=h;unfold okN at h2 h3;unfold Program.keyLits;simp only[Tryz.underlying198,yo];rw[qzb ⟨rfl,by kernel_rfl⟩];simp[List.mapM_cons,Cj,zY,xJ Tryz.underlying37 h1,xJ Tryz.underlying3 h2,xJ Tryz.underlying3 h3]
theorem lL:om (κ:=pq) 198 okB kvB klB where
 keyed:=Keyed.of_law (deep_law_laid RD (m:=2) oqo (jxu kqk) kqk (by rw[Tryz.underlying198]));key{x}h:=by obtain⟨d,hd⟩:=Im;unfold keyOf kvB klB;simp only[Tryz.underlying198,Rw,Value.formed,yo];rw[hd];have:=PI (d:=d) x h;simp[Value.cells,this]
 inv{v l}h:=by
  obtain⟨xs,L,rfl,hl,rfl⟩:=keyOf_top (P:=Tryz.prog) (k:=198) (by rw[Tryz.underlying198]) h;obtain⟨d,hd⟩:=Im;rw[hd]at hl;unfold Program.keyLits at hl;simp only[Tryz.underlying198,yo]at hl;split at hl
  ·rename_i hc;obtain⟨c0,c1,c2,e⟩:∃c0 c1 c2,xs=#[c0,c1,c2]:=by obtain⟨l⟩:=xs;match l,hc.1 with|[a,b,c],_=>exact⟨a,b,c,rfl⟩
   subst e;simp only[List.mapM_cons,List.mapM_nil,Cj,zY,List.drop_zero,List.drop_succ_cons,List.take_succ_cons,List.take_zero]at hl;simp only[Option.map_eq_some_iff,Option.bind_eq_bind,Option.bind_eq_some_iff,Option.pure_def]at hl;obtain⟨ls,⟨C,h0,E,⟨D,h1,G,⟨F,h2,hz⟩,_⟩,_⟩,_⟩:=hl;obtain⟨i,j,_,w0⟩:=AZ Tryz.underlying37 h0;obtain⟨s,o,_,w1⟩:=AZ Tryz.underlying3 h1;obtain⟨u,p,_,z⟩:=AZ Tryz.underlying3 h2;simp only[jxg,and_true]at j o p;subst j o p;have hn:0<=i:=by
    simp only[Lit.wf,qqn,qqu]at w0;have r:IntKind.min .u8=0:=by decide
    rw[r]at w0;exact w0.1
   obtain⟨k,rfl⟩:∃k:Nat,i=(k:Int):=⟨i.toNat,by omega⟩;exact⟨(k,s,u),⟨w0,w1,z⟩,rfl⟩
  ·cases hl
 inj{x y}h:=by obtain⟨a,b,c⟩:=x;obtain⟨q,A,B⟩:=y;unfold kvB at h;simp at h;obtain⟨h1,h2,h3⟩:=h;have:a=q:=oqo;rw[this,h2,h3]
theorem Ko(x:pq)(y v:Int)(g:Nat)(w:World)(h:w.cell? ⟨g,0,none⟩=some (.int .i64 v)):Calls Tryz.prog 161 (#[kvB x,.int .i64 y]++ #[.pointer (some ⟨g,0,none⟩)]) w λe w'=>e=.returned (.bool (x.2.1==v||x.2.2==v||y==v))/\w.grownBy w' none:=by
 obtain⟨o,a,b⟩:=x;show Calls Tryz.prog 161 #[.agg #[.int .u8 o,.int .i64 a,.int .i64 b],.int .i64 y,.pointer (some ⟨g,0,none⟩)] w _;have hr:w.grownBy (w.alloc (.cells #[.int .u8 o,.int .i64 a,.int .i64 b] 198)) none:=⟨rfl,rfl,rfl,by simp,λk hk _=>Below.heap_alloc _ _ _ hk⟩;have c:=aK h;simp only[];cases h1:a==v
 ·cases h2:b==v;·cases h3:y==v;all_goals
    go_enter Tryz.func161,Tryz.ntmps161;go_wp2_with fail;all_goals go_ret
    all_goals exact⟨by simp,hr⟩
  ·go_enter Tryz.func161,Tryz.ntmps161;go_wp2_with fail;all_goals go_ret
   all_goals exact⟨by simp,hr⟩
 ·go_enter Tryz.func161,Tryz.ntmps161;go_wp2_with fail;all_goals go_ret
  all_goals exact⟨by simp,hr⟩
open Classical in noncomputable def zG(v:Int)(kl:Lit)(a:DataW Unit):Bool:=decide (∃x:pq,okB x/\kl=klB x/\(x.2.1=v\/x.2.2=v))||(match a with| .lit (.int _ y)=>y==v|_=>false)
theorem Eo(v:Int)(x:pq)(a:okB x)(y:Int):zG v (klB x) (fF y)=(x.2.1==v||x.2.2==v||y==v):=by
 unfold zG fF;simp only[];congr 1;rw[qzd];simp only[qqu,qji,jqz];constructor;·rintro⟨z,hz,e,k⟩;have:x=z:=jqy λc=>lL.ne a hz c e;rw[this];exact k
 ·exact λk=>⟨x,a,rfl,k⟩
def VH(v:Int)(f:pq->Option Int):pq->Option Int:=λx=>if x.2.1=v\/x.2.2=v then none else if f x=some v then none else f x
theorem GJ(w:World)(o:Obj)(r:Option Nat):w.grownBy (w.alloc o) r:=⟨rfl,rfl,rfl,by simp,λk hk _=>Below.heap_alloc _ _ _ hk⟩
theorem IV(b n g:Nat)(v:Int)(f:pq->Option Int)(w:World)(h:dK 198 okB klB 3 w b n f)(hc:w.cell? ⟨g,0,none⟩=some (.int .i64 v))(q0:g≠b):Calls Tryz.prog 160 #[.map (some b),.func (.func 161) #[] #[.pointer (some ⟨g,0,none⟩)]] w λe w'=>e=.returned (.tuple #[])/\dK 198 okB klB 3 w' b n (VH v f)/\w.grownBy w' (some b):=by
 obtain⟨D,h1,h2⟩:=h;have K:=lL.keyed;have key:Calls Tryz.prog 160 #[.map (some b),.func (.func 161) #[] #[.pointer (some ⟨g,0,none⟩)]] w λe w'=>e=.returned (.tuple #[])/\w'.ownsMap Tryz.prog 198 (plainElem Tryz.prog 3) b n (Lib.deleteFuncD (zG v) D)/\w.grownBy w' (some b):=by
  obtain⟨i0,rfl,N,n0⟩:=h1.entries K;have H2:=hqh h2;clear h2;have Z:=hqh hc;clear hc;go_enter Tryz.func160,Tryz.ntmps160;go_wp2_with(first|(at_range;refine wpList_range_own _ rfl _ 192 rfl 198 3 K Tryz.underlying192 (plainElem Tryz.prog 3) b n _ rfl h1 ?_;intro w0 r0 l0 g1)|go_in);go_frame;go_loopw [8](λ_ wr=>∃(F:Lit->Bool)(cnt:Nat),wr.ranges Tryz.prog 198 (plainElem Tryz.prog 3) b w.heap.size n (Fk (zG v) i0 F) F cnt/\w.grownBy wr (some b))(λ_ wr=>wr.rangeLeft b w.heap.size);case atStart=>exact⟨_,_,by rw[Fk_start n0];exact r0,l0.but _⟩
  case round=>
   obtain⟨F,cnt,u,Q⟩:=hrel;go_wp2_with(first|(at_next;refine wpList_next_ranges _ rfl _ rfl 198 K (plainElem Tryz.prog 3) id id (λkey _ _=>⟨key,rfl⟩) (λv _ _=>⟨v,rfl⟩) b w.heap.size n _ _ _ rfl u ?_ ?_)|go_in);·-- NOTHING IS LEFT
    intro _ o0;go_wp2;go_end0;exact⟨rfl,by rw[<-Fk_end o0];exact u.owns,Q⟩
   ·-- AN ENTRY HAS COME
    intro x c kl Y yp w1 d0 d T hv O B p0 m0 s0 j0;have A:=Q.andThen m0 (λj hj=>by cases hj;exact Or.inl (qqf _));obtain⟨p,E,rfl⟩:=lL.inv d;have S:kl=klB p:=by have:=lL.key E;rw[d]at this;exact jzp this
    obtain⟨y,rfl,L,_⟩:=plainElem_int_inv (q:=.i64) kqk hv;have M:Y=fF y:=jqi Prod.fst L;have s:zG v kl Y=(p.2.1==v||p.2.2==v||y==v):=by rw[S,M];exact Eo v p E y
    have P:w1.cell? ⟨g,0,none⟩=some (.int .i64 v):=A.cell Z.o (by simpa using q0);obtain⟨r,i,l⟩:=p;simp only[kvB]at d j0⊢;simp only[]at s;have o:=GJ w1 (.cells #[.int .u8 r,.int .i64 i,.int .i64 l] 198) none;have V:=B.kept o (by simp) (by simp);have hc:Calls Tryz.prog 161 #[.agg #[.int .u8 r,.int .i64 i,.int .i64 l],.int .i64 y,.pointer (some ⟨g,0,none⟩)] _ _:=Ko (r,i,l) y v g (w1.alloc (.cells #[.int .u8 r,.int .i64 i,.int .i64 l] 198)) (o.cell P (by simp));simp only[]at hc;have a1:=B.owns.lt;have e1:=B.lt;have R:=A.andThen o (λj hj=>by cases hj);obtain⟨q,U⟩:∃q:Bool,q=(i==v||l==v||y==v):=⟨_,rfl⟩;rw[<-U]at hc s;clear U;have HR:=hqh V;have H:=hqh s;have HK:=hqh d;have J:=hqh T;have G:=hqh O;have HV:=hqh o;have I:=hqh R;clear V s T O o R S M L E P A;cases q
    ·go_wp2_with(first|(go_at_call 161;refine hc.mono ?_;rintro e X⟨rfl,a⟩)|go_in);have z:=HR.o.kept a (by simp) (by simp);go_roundw;case rel=>exact⟨_,d0,by rw[<-Fk_stays N (K.key d) J.o H.o G.o];exact z,I.o.andThen a (λj hj=>by cases hj)⟩
     case measure=>rw[z.left_eq,u.left_eq];exact p0
    ·go_wp2_with(first|(go_at_call 161;refine hc.mono ?_;rintro e X⟨rfl,a⟩;have z:=HR.o.kept a (by simp) (by simp);have m:Blk X w1.heap.size 198 #[.int .u8 r,.int .i64 i,.int .i64 l]:=(a.block _ (by simp) (by simp)).trans (jxk w1 _);rw[s0]at m;have y0:=m.cell 0;have y1:=m.cell 1;have y2:=m.cell 2;clear m)|(at_delete;refine wpList_delete_ranges _ rfl _ _ 192 198 rfl 3 K Tryz.underlying192 (plainElem Tryz.prog 3) b w.heap.size n _ _ _ rfl z _ _ rfl HK.o ?_;intro w3 e0 C d1 x0;go_frame)|go_in);rw[strike_twice]at C;go_roundw;case rel=>exact⟨_,e0,by rw[<-Fk_struck N (K.key d) J.o H.o G.o];exact C,(I.o.andThen a (λj hj=>by cases hj)).andThen x0.grown (λj hj=>by cases hj;exact Or.inr rfl)⟩
     case measure=>rw[C.left_eq,u.left_eq];omega
 refine key.mono ?_;rintro e w1⟨he,ho,hg⟩;refine⟨he,yR h1 h2 lL (λx hx=>?_) ho,hg⟩;unfold VH;cases hf:f x with|none=>simp|some y=>
  simp only[qzm,qzn,true_and,Eo v x hx];by_cases h1:x.2.1=v;·simp[h1]
  ·by_cases h2:x.2.2=v;·simp[h2]
   ·by_cases h3:y=v;·simp[h3]
    ·simp[h1,h2,h3]
theorem oC{κ:Type}{k:TypeId}{good:κ->Prop}{kv:κ->Value}{kl:κ->Lit}{e:TypeId}{w:World}{b n:Nat}{f:κ->Option Int}{ops:Array Oper}{rest:List Oper}{o:Oper}{a:Act}{Q:Exit->Act->World->Prop}(i:o.guard=none)(m x:Operand)(t:TypeId)(j:o.op=Op.lookup t m x true)(T:om k good kv kl)(ht:Tryz.prog.underlying t=some (.map k e))(he:Tryz.prog.underlying e=some (.int .i64))(hz:(zeroValue e).run Tryz.prog w=.ok (.int .i64 0) w)(hm:a.eval m=.map (some b))(h:dK k good kl e w b n f)(z:κ)(q:good z)(p:a.eval x=kv z)(c:wpList Tryz.prog ops Q rest (a.put o.dst (.tuple #[.int .i64 ((f z).getD 0),.bool (f z).isSome])) w):wpList Tryz.prog ops Q (o::rest) a w:=by refine wpList_plain i λr d=>?_;have l:=h.look T ht he hz q;unfold Oper.wp;simp[execOp,j,hm,p,l,Result.andThen];exact d _ _ c
theorem fI(g b0 b1 b2 n:Nat)(v:Int)(f:Int->Option Int)(w:World)(h:Blk w g 194 #[.map (some b0),.map (some b1),.map (some b2)])(hm:dK 3 okN (λx=>.int .i64 x) 3 w b1 n f)(hv:okN v):Calls Tryz.prog 137 #[.pointer (some ⟨g,0,none⟩),.int .i64 v] w λe w'=>e=.returned (.int .i64 ((f v).getD v))/\w=w':=by have ht:Tryz.prog.underlying 191=some (.map 3 3):=kqk;have he:Tryz.prog.underlying 3=some (.int .i64):=kqk;have k1:w.cell? ⟨g,1,none⟩=some (.map (some b1)):=h.cell 1;have a:=h.lt;have hz:(zeroValue 3).run Tryz.prog w=.ok (.int .i64 0) w:=Tryz.zeroValue3 w;cases hf:f v with|none=>go_enter Tryz.func137,Tryz.ntmps137;go_wp2_with(first|(at_lookup;refine oC rfl _ _ 191 rfl jh ht he hz rfl hm v hv rfl ?_;rw[hf];simp only[qzp,jzw])|go_in);go_ret;exact⟨rfl,rfl⟩|some y=>go_enter Tryz.func137,Tryz.ntmps137;go_wp2_with(first|(at_lookup;refine oC rfl _ _ 191 rfl jh ht he hz rfl hm v hv rfl ?_;rw[hf];simp only[qzm,qzn])|go_in);go_ret;exact⟨rfl,rfl⟩
theorem MG(w:World):Calls Tryz.prog 93 #[] w λe w'=>∃b0 b1 b2 g,e=.returned (.pointer (some ⟨g,0,none⟩))/\Below w.heap.size w w'/\w.heap.size<=b0/\b0<b1/\b1<b2/\b2<g/\Blk w' g 194 #[.map (some b0),.map (some b1),.map (some b2)]/\w'.heap[b0]? =some (.map #[] 0)/\w'.heap[b1]? =some (.map #[] 0)/\w'.heap[b2]? =some (.map #[] 0):=by
 have m:∀w:World,(Instr.makeMap 190 none).run Tryz.prog w=.ok (.map (some w.heap.size)) (w.alloc (.map #[] 0)):=λw=>run_makeMap ..;have p:∀w:World,(Instr.makeMap 191 none).run Tryz.prog w=.ok (.map (some w.heap.size)) (w.alloc (.map #[] 0)):=λw=>run_makeMap ..;have q:∀w:World,(Instr.makeMap 192 none).run Tryz.prog w=.ok (.map (some w.heap.size)) (w.alloc (.map #[] 0)):=λw=>run_makeMap ..;go_enter Tryz.func93,Tryz.ntmps93;go_wp2_with fail;go_ret;have h:(w.alloc (.map #[] 0)).heap.size=w.heap.size+1:=jqe ..;have i:((w.alloc (.map #[] 0)).alloc (.map #[] 0)).heap.size=w.heap.size+1+1:=by rw[jqe,h]
 have z3:(((w.alloc (.map #[] 0)).alloc (.map #[] 0)).alloc (.map #[] 0)).heap.size=w.heap.size+1+1+1:=by rw[jqe,i]
 have l:=jxk w (.map #[] 0);have c:=jxk (w.alloc (.map #[] 0)) (.map #[] 0);have d:=jxk ((w.alloc (.map #[] 0)).alloc (.map #[] 0)) (.map #[] 0);rw[h]at c;rw[i]at d;have up:∀(W:World)(o:Obj)(j:Nat),j<W.heap.size->(W.alloc o).heap[j]? =W.heap[j]?:=λW o j hj=>((qjk W.heap.size W).alloc (qqf _) o).block j hj;have a:=Blk.new (((w.alloc (.map #[] 0)).alloc (.map #[] 0)).alloc (.map #[] 0)) 194 #[.map (some w.heap.size),.map (some (w.heap.size+1)),.map (some (w.heap.size+1+1))];rw[z3]at a;refine⟨w.heap.size,w.heap.size+1,w.heap.size+1+1,w.heap.size+1+1+1,rfl,?_,qqf _,by omega,by omega,by omega,a,?_,?_,?_⟩;·exact((((qjk w.heap.size w).alloc (qqf _) _).alloc oqo _).alloc oqo _).alloc oqo _
 ·rw[up _ _ _ oqo,up _ _ _ oqo,up _ _ _ oqo];exact l
 ·rw[up _ _ _ oqo,up _ _ _ oqo];exact c
 ·rw[up _ _ _ oqo];exact d
