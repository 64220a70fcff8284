/- Joint text: HSpec, OSpec, HText, MSpec, MOk, OReach, OSweepP, OOk. By an AI agent. -/
import Derived.Test.YtgdibfnpkcdiiaaGreatDoorSzz
import Derived.Lib.Hide
import Derived.RowKit
import Derived.Lib.ItoaMem
set_option linter.all false
set_option maxRecDepth 100000
set_option maxHeartbeats 64000000
noncomputable section
namespace Go.Proofs.YtgdibfnpkcdiiaaGreatDoor
structure In where
 op:Nat:=0
 v:Int:=0
 a:Int:=0
 b:Int:=0
 n:Int:=0
 bin:Nat:=0
 args:List Int:=[]f:Int:=0
 arr:Int:=0
 to:Int:=0 deriving DecidableEq
structure FnP where
 name:List UInt8
 params:Int
 vars:Int
 code:List In deriving DecidableEq
structure PrW where
 arrays:List Int
 fns:List FnP
 main:Int deriving DecidableEq
def fq(o:Nat):Bool:=o==1||o==2||o==3||o==4||o==8||o==11
def fH(o:Nat):Bool:=o==2||o==3||o==4||o==5||o==6||o==7||o==9||o==10||o==12||o==14
def hasB(o:Nat):Bool:=o==3||o==5
def wh(o:Nat):Bool:=o==1
def og(o:Nat):Bool:=o==3
def nY(o:Nat):Bool:=o==11
def sK(o:Nat):Bool:=o==4||o==5||o==6
def jq(o:Nat):Bool:=o==13||o==14
def jw:List Nat:=[1,2,3,4,5,8,9,10,11,13,14,16]
def eH(has:Bool)(n many:Int):Bool:=decide (0<=n)&&(if has then decide (n<many)else decide (n=0))
def fC(p:PrW)(x:In):Int:=if nY x.op then((p.fns[x.f.toNat]?).map (·.params)).getD 0 else 0
def dw(p:PrW)(f:FnP)(x:In):Bool:=decide (1<=x.op/\x.op<=14)&&eH (fq x.op) x.v f.vars&&eH (fH x.op) x.a f.vars&&eH (hasB x.op) x.b f.vars&&eH (nY x.op) x.f p.fns.length&&eH (sK x.op) x.arr p.arrays.length&&eH (jq x.op) x.to f.code.length&&((wh x.op||decide (x.n=0))&&(if og x.op then decide (x.bin∈jw)else decide (x.bin=0))&&decide ((x.args.length:Int)=fC p x)&&x.args.all (λv=>decide (0<=v/\v<f.vars)))
def lD(f:FnP):Bool:=match f.code.getLast? with|none=>false|some x=>decide (x.op=12)
def fnW(p:PrW)(f:FnP):Bool:=decide (0<=f.params/\f.params<=6/\f.params<=f.vars/\f.vars<=200/\f.code.length<=8000)&&lD f&&f.code.all (dw p f)
def jF(p:PrW):Bool:=decide (0<=p.main/\p.main<p.fns.length)&&decide (((p.fns[p.main.toNat]?).map (·.params)).getD 0=0)
def aP(p:PrW):Bool:=decide (p.arrays.length<=16/\p.fns.length<=64)&&jF p&&p.arrays.all (λn=>decide (1<=n/\n<=4096))&&p.fns.all (fnW p)
def dO(x:In):List Int:=[(x.op:Int),x.v,x.a,x.b,x.n,(x.bin:Int),x.f,x.arr,x.to]++x.args
def Iz{x y:In}(h:dO x=dO y):x=y:=by obtain⟨o,v,a,b,n,bi,B,f,r,t⟩:=x;obtain⟨z,K,A,E,H,c,C,F,I,J⟩:=y;simp only[dO,jqm,jzj,jjb]at h;obtain⟨h1,h2,h3,k,m,G,q,u,w,g⟩:=h;have d:o=z:=oqo;have e:bi=c:=oqo;subst d e h2 h3 k m q u w g;rfl
def lQ(l:List In):Bool:=l.all λx=>decide (x.args.length<=20)
structure af where
 num:Int->Option Int
 cp:Int->Option Int
 dD:Nat->Int->Int->Option Int
def af.new:af:=⟨λ_=>none,λ_=>none,λ_ _ _=>none⟩
def af.put(b:af)(v:Int):af:=⟨λx=>if x=v then none else b.num x,λx=>if x=v then none else if b.cp x=some v then none else b.cp x,λo x y=>if x=v\/y=v then none else if b.dD o x y=some v then none else b.dD o x y⟩
def af.root(b:af)(v:Int):Int:=(b.cp v).getD v
def af.jP(b:af)(v n:Int):af:={b with num:=λx=>if x=v then some n else b.num x}
def af.aV(b:af)(v a:Int):af:={b with cp:=λx=>if x=v then some a else b.cp x}
def af.qN(b:af)(o:Nat)(x y v:Int):af:={b with dD:=λa c d=>if a=o/\c=x/\d=y then some v else b.dD a c d}
def dX(x:In):List Int:=if hasB x.op then [x.a,x.b]else if fH x.op then [x.a]else if x.op=11 then x.args else []
def bD(x:In):Option Int:=if fq x.op then some x.v else none
def gJ(x:In):Bool:=x.op==1||x.op==2||x.op==3
def bN(x:In)(i:Nat):List Nat:=if x.op=13 then [x.to.toNat]else if x.op=14 then [x.to.toNat,i+1]else if x.op=12\/x.op=10 then []else [i+1]
def af.does(b:af)(x:In):af:=match bD x with|none=>b|some v=>if x.op=1 then(b.put v).jP v x.n else if x.op=2 then(match b.num x.a with|some n=>((b.put v).aV v x.a).jP v n|none=>(b.put v).aV v x.a)else if x.op=3 then(if v≠x.a/\v≠x.b then(b.put v).qN x.bin x.a x.b v else b.put v)else b.put v
def af.rooted(b:af)(x:In):In:=if hasB x.op then{x with a:=b.root x.a,b:=b.root x.b}else if fH x.op then{x with a:=b.root x.a}else if x.op=11 then{x with args:=x.args.map b.root}else x
def bn(v a:Int):In:={op:=2,v:=v,a:=a}
def fQ(v n:Int):In:={op:=1,v:=v,n:=n}
def aS(x:In):In:=if x.v=x.a then{}else x
def af.dR(b:af)(x:In):In:=if x.v=x.a then{}else match b.num x.a with|some n=>fQ x.v n|none=>x
def ak(x:In)(n m:Option Int):In:=if(x.bin=1\/x.bin=9\/x.bin=10)/\n=some 0 then aS (bn x.v x.b)else if(x.bin=1\/x.bin=9\/x.bin=10\/x.bin=2\/x.bin=11\/x.bin=13)/\m=some 0 then aS (bn x.v x.a)else if x.bin=3/\n=some 1 then aS (bn x.v x.b)else if x.bin=3/\m=some 1 then aS (bn x.v x.a)else if x.bin=3/\(n=some 0\/m=some 0)then fQ x.v 0 else x
section
variable (D:Nat->Int->Int->Int)(arr:List Int)
def vH(x:In):Int:=(arr[x.arr.toNat]?).getD 0
def af.iK(b:af)(x:In):In:=if(b.num x.a).isSome=true/\(b.num x.b).isSome=true/\(b.num x.b≠some 0\/(x.bin≠4/\x.bin≠5))then fQ x.v (D x.bin ((b.num x.a).getD 0) ((b.num x.b).getD 0))else match b.dD x.bin x.a x.b with|some v=>if v=x.v then{}else b.dR (bn x.v (b.root v))|none=>ak x (b.num x.a) (b.num x.b)
def af.bB(b:af)(x:In):In:=if x.op=2 then b.dR x else if x.op=3 then b.iK D x else if x.op=6 then(match b.num x.a with|some n=>if 0<=n/\n<vH arr x then{}else x|none=>x)else if x.op=7 then(match b.num x.a with|some n=>if n≠0 then{}else x|none=>x)else if x.op=14 then(match b.num x.a with|some n=>if n=0 then{op:=13,to:=x.to}else{}|none=>x)else x
def af.shorter(b:af)(x:In):In:=b.bB D arr (b.rooted x)
def eu(l:List In)(i:Nat):Bool:=i==0||l.any (λx=>(x.op==13||x.op==14)&&x.to.toNat==i)||(match i with|0=>false|j+1=>match l[j]? with|some x=>x.op==13||x.op==14||x.op==12||x.op==10|none=>false)
def bG(lead:Nat->Bool):Nat->af->List In->List In|_,_,[]=>[]|i,b,x::l=>let a:=if lead i then .new else b;a.shorter D arr x::bG lead (i+1) (a.does (a.shorter D arr x)) l
def aK(l:List In):List In:=bG D arr (eu l) 0 .new l
end
inductive Reach(l:List In):Nat->Prop|first:Reach l 0|next{i k:Nat}{x:In}:Reach l i->l[i]? =some x->k∈bN x i->Reach l k
inductive Live(l:List In):Nat->Int->Prop|use{i:Nat}{x:In}{v:Int}:l[i]? =some x->v∈dX x->Live l i v|pass{i k:Nat}{x:In}{v:Int}:l[i]? =some x->bD x≠some v->k∈bN x i->Live l k v->Live l i v
open Classical in def aZ(l:List In):List In:=(List.range l.length).map λi=>if¬Reach l i/\i+1<l.length then{}else l.getD i {}
open Classical in def bO(l:List In):List In:=(List.range l.length).map λi=>if gJ (l.getD i {})=true/\¬Live l (i+1) (l.getD i {}).v then{}else l.getD i {}
def lW(l:List In)(i j:Nat):Bool:=((l.take j).drop i).all λx=>x.op==0
def eB:Nat->List In->List In->List In|_,_,[]=>[]|_,_,[x]=>[x]|i,l,x::y::r=>(if x.op=13/\(i:Int)<x.to/\lW l (i+1) x.to.toNat=true then{}else x)::eB (i+1) l (y::r)
def mR(l:List In):List In:=eB 0 l l
def eT(l:List In):List In:=mR (bO (aZ l))
def atW(l:List In)(i:Nat):Nat:=((l.take i).filter λx=>x.op !=0).length
def bZ(l:List In):List In:=(l.filter λx=>x.op !=0).map λx=>if x.op=13\/x.op=14 then{x with to:=(atW l x.to.toNat:Nat)}else x
def bC(D:Nat->Int->Int->Int)(arr:List Int)(l:List In):List In:=bZ (eT (aK D arr l))
def I64(n:Int):Prop:=-9223372036854775808<=n/\n<=9223372036854775807
structure vK(x:In):Prop where
 op:x.op<256
 v:I64 x.v
 a:I64 x.a
 b:I64 x.b
 n:I64 x.n
 bin:x.bin<256
 args:∀k∈x.args,I64 k
 f:I64 x.f
 arr:I64 x.arr
 to:I64 x.to
structure Tn(f:FnP):Prop where
 params:I64 f.params
 vars:I64 f.vars
 code:∀x∈f.code,vK x
structure wT(p:PrW):Prop where
 arrays:∀k∈p.arrays,I64 k
 fns:∀f∈p.fns,Tn f
 main:I64 p.main
structure FrM where
 f:Nat
 i:Nat
 vars:List Int
 into:Nat
structure MS where
 inp:List Int
 arr:List (List Int)base:List FrM
 top:FrM
 evs:List (Nat×Int)ended:Bool
 steps:Nat
variable (D:Nat->Int->Int->Int)
def MS.see(s:MS)(k:Nat)(n:Int):MS:={s with evs:=s.evs++[(k,n)],ended:=s.ended||(k==3||k==4)}
def MS.v(s:MS)(k:Int):Int:=s.top.vars.getD k.toNat 0
def MS.put(s:MS)(k:Int)(n:Int):MS:={s with top:={s.top with vars:=s.top.vars.set k.toNat n}}
def MS.cell(s:MS)(a:Int)(i:Int):Option Int:=if 0<=i then((s.arr[a.toNat]?).getD [])[i.toNat]? else none
def MS.store(s:MS)(a:Int)(i:Int)(n:Int):MS:={s with arr:=s.arr.set a.toNat (((s.arr[a.toNat]?).getD []).set i.toNat n)}
def MS.jump(s:MS)(to:Int):MS:={s with top:={s.top with i:=to.toNat}}
def fT(p:PrW)(f:Int):Int:=((p.fns[f.toNat]?).map (λg:FnP=>g.vars)).getD 0
def iA(vars:Int)(args:List Int):List Int:=(args++List.replicate vars.toNat 0).take vars.toNat
def MS.enter(p:PrW)(s:MS)(f into:Int)(args:List Int):MS:={s with base:=s.base++[s.top],top:=⟨f.toNat,0,iA (fT p f) args,into.toNat⟩}
def MS.ret(s:MS)(n:Int):MS:=match s.base.getLast? with|none=>s.see 3 n|some g=>{s with base:=s.base.dropLast,top:={g with vars:=g.vars.set s.top.into n}}
def MS.read(s:MS)(v:Int):MS:=(({s with inp:=s.inp.tail}:MS).put v (s.inp.headD 0)).see 1 (s.inp.headD 0)
def bU(p:PrW)(x:In)(s:MS):MS:=if x.op=1 then s.put x.v x.n else if x.op=2 then s.put x.v (s.v x.a)else if x.op=3 then s.put x.v (D x.bin (s.v x.a) (s.v x.b))else if x.op=4 then(match s.cell x.arr (s.v x.a)with|some n=>s.put x.v n|none=>s.see 4 1)else if x.op=5 then(match s.cell x.arr (s.v x.a)with|some _=>s.store x.arr (s.v x.a) (s.v x.b)|none=>s.see 4 1)else if x.op=6 then(match s.cell x.arr (s.v x.a)with|some _=>s|none=>s.see 4 1)else if x.op=7 then(if s.v x.a=0 then s.see 4 2 else s)else if x.op=8 then s.read x.v else if x.op=9 then s.see 2 (s.v x.a)else if x.op=10 then s.see 3 (s.v x.a)else if x.op=11 then s.enter p x.f x.v (x.args.map s.v)else if x.op=12 then s.ret (s.v x.a)else if x.op=13 then s.jump x.to else(if s.v x.a=0 then s.jump x.to else s)
def MS.tick(s:MS):MS:={s with steps:=s.steps+1,top:={s.top with i:=s.top.i+1}}
def atM(p:PrW)(f i:Nat):Option In:=(p.fns[f]?).bind λg=>g.code[i]?
def gK(p:PrW)(s:MS):MS:=if s.ended then s else match atM p s.top.f s.top.i with|none=>s|some x=>bU D p x s.tick
def runM(p:PrW):Nat->MS->MS|0,s=>s|n+1,s=>runM p n (gK D p s)
def mh(p:PrW):Nat->MS->Nat|0,_=>0|n+1,s=>if s.ended then 0 else 1+mh p n (gK D p s)
def dQ(p:PrW)(inp:List Int):MS:=⟨inp,p.arrays.map (λn=>List.replicate n.toNat 0),[],⟨p.main.toNat,0,List.replicate (fT p p.main).toNat 0,0⟩,[],false,0⟩
def ql{p:PrW}{s:MS}(h:s.ended=true):gK D p s=s:=by simp[gK,h]
def sw{p:PrW}:∀(n:Nat){s:MS},s.ended=true->runM D p n s=s|0,_,_=>rfl|n+1,s,h=>by rw[runM,ql D h];exact sw n h
def Dy{p:PrW}(n:Nat){s:MS}(h:s.ended=true):mh D p n s=0:=by cases n<;>simp[mh,h]
def ui{p:PrW}:∀(a b:Nat)(s:MS),runM D p (a+b) s=runM D p b (runM D p a s)|0,b,s=>by simp[runM]|a+1,b,s=>by rw[show a+1+b=(a+b)+1 by omega];exact ui a b _
def Ci{p:PrW}:∀(a b:Nat)(s:MS),mh D p (a+b) s=mh D p a s+mh D p b (runM D p a s)|0,b,s=>by simp[mh,runM]|a+1,b,s=>by rw[show a+1+b=(a+b)+1 by omega];simp only[mh,runM];cases h:s.ended with|true=>simp[ql D h,sw D a h,Dy D b h]|false=>have:=Ci (p:=p) a b (gK D p s);simp only[qzr,jxa];omega
end Go.Proofs.YtgdibfnpkcdiiaaGreatDoor
namespace Go.Proofs.YtgdibfnpkcdiiaaGreatDoor
structure Bp(p:PrW)(fn:FnP)(x:In):Prop where
 op:1<=x.op/\x.op<=14
 v:fq x.op=true->0<=x.v/\x.v<fn.vars
 a:fH x.op=true->0<=x.a/\x.a<fn.vars
 b:hasB x.op=true->0<=x.b/\x.b<fn.vars
 f:nY x.op=true->0<=x.f/\x.f<p.fns.length
 arr:sK x.op=true->0<=x.arr/\x.arr<p.arrays.length
 to:jq x.op=true->0<=x.to/\x.to<fn.code.length
 bin:og x.op=true->x.bin∈jw
 many:(x.args.length:Int)=fC p x
 args:∀v∈x.args,0<=v/\v<fn.vars
def qG{h:Bool}{n m:Int}(k:eH h n m=true):h=true->0<=n/\n<m:=by intro e;subst e;simp[eH]at k;exact k
def tu{p:PrW}{fn:FnP}{x:In}(h:dw p fn x=true):Bp p fn x:=by simp only[dw,qqn,qqu,qqw]at h;obtain⟨⟨⟨⟨⟨⟨⟨h1,h2⟩,h3⟩,d⟩,f⟩,g⟩,k⟩,⟨⟨_,a⟩,b⟩,c⟩:=h;exact⟨h1,qG h2,qG h3,qG d,qG f,qG g,qG k,λe=>by rw[e]at a;simpa using a,b,c⟩
structure Ps(p:PrW)(fn:FnP):Prop where
 params:0<=fn.params/\fn.params<=fn.vars/\fn.vars<=200
 code:∀x∈fn.code,Bp p fn x
 last:∀i x,fn.code[i]? =some x->x.op≠12->i+1<fn.code.length
 pos:0<fn.code.length
structure mY(p:PrW):Prop where
 fns:∀fn∈p.fns,Ps p fn
 arrays:∀n∈p.arrays,1<=n/\n<=4096
 main:0<=p.main/\p.main<p.fns.length
def lC{p:PrW}(h:aP p=true):mY p:=by
 simp only[aP,jF,qqn,qqu,qqw]at h;obtain⟨⟨⟨h1,h2,h3⟩,f⟩,g⟩:=h;refine⟨λfn m=>?_,f,h2⟩;have d:=g fn m;simp only[fnW,lD,qqn,qqu,qqw]at d;obtain⟨⟨c,a⟩,k⟩:=d;refine⟨⟨c.1,c.2.2.1,c.2.2.2.1⟩,λx b=>tu (k x b),λi x b ho=>?_,?_⟩
 ·have hi:=(qqi.1 b).1;rcases Nat.lt_or_ge (i+1) fn.code.length with n|o;·exact n
  ·exfalso;have e:fn.code.getLast? =some x:=by rw[jxl,show fn.code.length-1=i by omega,b]
   rw[e]at a;simp at a;exact ho a
 ·cases hc:fn.code with|nil=>rw[hc]at a;simp at a|cons=>simp
def BJ{p:PrW}{f i:Nat}{x:In}(h:atM p f i=some x):∃fn,p.fns[f]? =some fn/\fn.code[i]? =some x:=by unfold atM at h;cases hf:p.fns[f]? with|none=>simp[hf]at h|some fn=>exact⟨fn,rfl,by simpa [hf]using h⟩
def xB{p:PrW}{f i:Nat}{fn:FnP}(h:p.fns[f]? =some fn)(hi:i<fn.code.length):(atM p f i).isSome=true:=by simp[atM,h,hi]
def BN{p:PrW}{f:Nat}{fn:FnP}(h:p.fns[f]? =some fn):fT p (f:Int)=fn.vars:=by simp[fT,h]
structure TE(p:PrW)(r:FrM):Prop where
 f:r.f<p.fns.length
 vars:(r.vars.length:Int)=fT p r.f
 ints:∀n∈r.vars,I64 n
def iV:List FrM->Prop|g::h::l=>h.into<g.vars.length/\iV (h::l)|_=>True
structure MOk(p:PrW)(s:MS):Prop where
 inp:∀n∈s.inp,I64 n
 arr:s.arr.map (·.length)=p.arrays.map (·.toNat)qM:∀l∈s.arr,∀n∈l,I64 n
 fr:∀g∈s.base++[s.top],TE p g
 bi:∀g∈s.base,(atM p g.f g.i).isSome=true
 ti:s.ended=false->(atM p s.top.f s.top.i).isSome=true
 into:iV (s.base++[s.top])evs:∀e∈s.evs,I64 e.2
 many:s.evs.length<=s.steps/\s.base.length<=s.steps
def kg{g g':FrM}(hv:g'.vars.length=g.vars.length)(hi:g'.into=g.into):∀(l:List FrM),iV (l++[g])->iV (l++[g'])|[],_=>trivial|[a],h=>by simp only[jqm,jzj,iV]at h⊢;rw[hi];exact h|a::b::l,h=>by simp only[jqm,iV]at h⊢;exact⟨h.1,kg hv hi (b::l) h.2⟩
def Dj{g h:FrM}(hi:h.into<g.vars.length):∀(l:List FrM),iV (l++[g])->iV ((l++[g])++[h])|[],_=>⟨hi,trivial⟩|[a],k=>by simp only[jqm,jzj,iV]at k⊢;exact⟨k.1,hi,trivial⟩|a::b::l,k=>by simp only[jqm,iV]at k⊢;exact⟨k.1,Dj hi (b::l) k.2⟩
def sH{g h:FrM}:∀(l:List FrM),iV ((l++[g])++[h])->iV (l++[g])/\h.into<g.vars.length|[],k=>⟨trivial,k.1⟩|[a],k=>by simp only[jqm,jzj,iV]at k⊢;exact⟨⟨k.1,trivial⟩,k.2.1⟩|a::b::l,k=>by simp only[jqm,iV]at k⊢;exact⟨⟨k.1,(sH (b::l) k.2).1⟩,(sH (b::l) k.2).2⟩
def eY:I64 0:=⟨by omega,by omega⟩
def zF{l:List Int}(h:∀n∈l,I64 n)(k:Nat):I64 (l.getD k 0):=by rw[qqm];cases hk:l[k]? with|none=>exact eY|some n=>exact h n (qqr hk)
def Ce{l:List Int}(h:∀n∈l,I64 n)(k:Nat){v:Int}(hv:I64 v):∀n∈l.set k v,I64 n:=λn hn=>by
 rcases List.mem_or_eq_of_mem_set hn with hn|rfl;·exact h n hn
 ·exact hv
section
variable {p:PrW}{s:MS}
def MOk.jL(h:MOk p s):TE p s.top:=h.fr _ (by simp)
def MOk.v(h:MOk p s)(k:Int):I64 (s.v k):=zF h.jL.ints _
def MOk.UG(h:MOk p s){t:FrM}(ht:TE p t)(hl:t.vars.length=s.top.vars.length)(b:t.into=s.top.into)(hi:s.ended=false->(atM p t.f t.i).isSome=true):MOk p {s with top:=t}:=⟨h.inp,h.arr,h.qM,λg a=>by
  rcases qzu.1 a with a|a;·exact h.fr g (List.mem_append_left _ a)
  ·rw[jzm]at a;exact a▸ht,h.bi,hi,kg hl b _ h.into,h.evs,h.many⟩
def MOk.put(h:MOk p s)(k:Int){n:Int}(hn:I64 n):MOk p (s.put k n):=h.UG ⟨h.jL.f,by simpa using h.jL.vars,Ce h.jL.ints _ hn⟩ (by simp) rfl h.ti
def MOk.jump(h:MOk p s){to:Int}(ht:(atM p s.top.f to.toNat).isSome=true):MOk p (s.jump to):=h.UG ⟨h.jL.f,h.jL.vars,h.jL.ints⟩ rfl rfl λ_=>ht
end
structure xY(s:MS):Prop where
 evs:s.evs.length<s.steps
 base:s.base.length<s.steps
section
variable {p:PrW}{s:MS}
def MOk.see(h:MOk p s)(hr:xY s)(k:Nat){n:Int}(hn:I64 n):MOk p (s.see k n):=⟨h.inp,h.arr,h.qM,h.fr,h.bi,λe=>h.ti (by have e:(s.ended||(k==3||k==4))=false:=e;rw[Bool.or_eq_false_iff]at e;exact e.1),h.into,λe he=>by
  rcases qzu.1 he with he|he;·exact h.evs e he
  ·rw[jzm]at he;exact he▸hn,by have:=hr.evs;have:=h.many;simp only[MS.see,qzl,qzv,jqz];omega⟩
def MOk.store(h:MOk p s)(a i:Int){n:Int}(hn:I64 n):MOk p (s.store a i n):=by
 refine⟨h.inp,?_,?_,h.fr,h.bi,h.ti,h.into,h.evs,h.many⟩
 ·have:(s.arr.set a.toNat (((s.arr[a.toNat]?).getD []).set i.toNat n)).map (·.length)=s.arr.map (·.length):=by
   apply jqk;intro k;rw[qqp,qqp,List.getElem?_set];split
   ·rename_i e;subst e;split;·rename_i hk;simp[hk]
    ·rename_i hk;simp[qza (show s.arr.length<=a.toNat by omega)]
   ·rfl
  exact this.trans h.arr
 ·intro l hl;rcases List.mem_or_eq_of_mem_set hl with hl|rfl;·exact h.qM l hl
  ·apply Ce _ _ hn;cases hk:s.arr[a.toNat]? with|none=>intro n hn;simp at hn|some l=>exact h.qM l (qqr hk)
def MOk.Te(h:MOk p s){a i n:Int}(e:s.cell a i=some n):I64 n:=by
 unfold MS.cell at e;split at e;·cases hk:s.arr[a.toNat]? with|none=>rw[hk]at e;simp at e|some l=>rw[hk]at e;exact h.qM l (qqr hk) n (qqr e)
 ·cases e
def zq(v:Int)(args:List Int):(iA v args).length=v.toNat:=by simp[iA]
def MOk.enter(h:MOk p s)(g:mY p)(hr:xY s){f into:Int}{args:List Int}(hf:0<=f/\f<p.fns.length)(k:0<=into/\into<s.top.vars.length)(ha:∀n∈args,I64 n)(hi:(atM p s.top.f s.top.i).isSome=true):MOk p (s.enter p f into args):=by
 have b:f.toNat<p.fns.length:=oqo;have c:p.fns[f.toNat]? =some p.fns[f.toNat]:=qqh b;have d:=g.fns _ (jxr b);refine⟨h.inp,h.arr,h.qM,λq a=>?_,λq a=>?_,λ_=>xB c d.pos,Dj (by show into.toNat<_;omega) _ h.into,h.evs,?_⟩
 ·rcases qzu.1 a with a|a;·exact h.fr q a
  ·rw[jzm]at a;subst a;have e:fT p f=fT p ((f.toNat:Nat):Int):=by rw[Int.toNat_of_nonneg hf.1]
   refine⟨b,?_,λn hn=>?_⟩;·show((iA (fT p f) args).length:Int)=fT p ((f.toNat:Nat):Int);rw[zq,e,BN c];have:=d.params;omega
   ·have:=List.mem_of_mem_take hn;rcases qzu.1 this with hn|hn;·exact ha n hn
    ·rw[List.eq_of_mem_replicate hn];exact eY
 ·rcases qzu.1 a with a|a;·exact h.bi q a
  ·rw[jzm]at a;subst a;exact hi
 ·have:=hr.base;have:=h.many;simp only[MS.enter,qzl,qzv,jqz];omega
def MOk.ret(h:MOk p s)(hr:xY s){n:Int}(hn:I64 n):MOk p (s.ret n):=by unfold MS.ret;cases c:s.base.getLast? with|none=>exact h.see hr 3 hn|some g=>
  obtain⟨l,hl⟩:∃l,s.base=l++[g]:=List.getLast?_eq_some_iff.1 c;have b:=h.fr g (by rw[hl];simp);have d:=sH l (hl▸h.into);refine⟨h.inp,h.arr,h.qM,λq a=>?_,λq a=>?_,λ_=>?_,?_,h.evs,?_⟩
  ·simp only[hl,jxv]at a;rcases qzu.1 a with a|a;·exact h.fr q (by rw[hl];simp[a])
   ·rw[jzm]at a;subst a;exact⟨b.f,by simpa using b.vars,Ce b.ints _ hn⟩
  ·simp only[hl,jxv]at a;exact h.bi q (by rw[hl];simp[a])
  ·exact h.bi g (by rw[hl];simp)
  ·simp only[hl,jxv];exact kg (g:=g) (g':={g with vars:=g.vars.set s.top.into n}) (by simp) rfl _ d.1
  ·have:=h.many;simp only[hl,jxv,qzl,qzv,jqz]at this⊢;omega
def MOk.read(h:MOk p s)(hr:xY s)(v:Int):MOk p (s.read v):=by
 have b:I64 (s.inp.headD 0):=by cases hi:s.inp with|nil=>exact eY|cons a l=>exact h.inp a (by rw[hi];simp)
 have h1:MOk p {s with inp:=s.inp.tail}:=⟨λn hn=>h.inp n (List.mem_of_mem_tail hn),h.arr,h.qM,h.fr,h.bi,h.ti,h.into,h.evs,h.many⟩;exact(h1.put v b).see ⟨hr.evs,hr.base⟩ 1 b
end
def MOk.inst{p:PrW}{s:MS}(h:MOk p s)(g:mY p)(he:s.ended=false):∃fn x,p.fns[s.top.f]? =some fn/\fn.code[s.top.i]? =some x/\atM p s.top.f s.top.i=some x/\Bp p fn x/\Ps p fn/\(s.top.vars.length:Int)=fn.vars/\(x.op≠12->(atM p s.top.f (s.top.i+1)).isSome=true):=by have:=h.ti he;obtain⟨x,b⟩:=jzu.1 this;obtain⟨fn,hf,hc⟩:=BJ b;have a:=g.fns fn (qqr hf);refine⟨fn,x,hf,hc,b,a.code x (qqr hc),a,?_,λho=>xB hf (a.last _ x hc ho)⟩;rw[h.jL.vars,BN hf]
variable (D:Nat->Int->Int->Int)
section
variable {p:PrW}{x:In}{s:MS}
def tZ(e:x.op=1):bU D p x s=s.put x.v x.n:=by unfold bU;rw[e];rfl
def uk(e:x.op=2):bU D p x s=s.put x.v (s.v x.a):=by unfold bU;rw[e];rfl
def uj(e:x.op=3):bU D p x s=s.put x.v (D x.bin (s.v x.a) (s.v x.b)):=by unfold bU;rw[e];rfl
def rC(e:x.op=4):bU D p x s=(match s.cell x.arr (s.v x.a)with|some n=>s.put x.v n|none=>s.see 4 1):=by unfold bU;rw[e];rfl
def rf(e:x.op=5):bU D p x s=(match s.cell x.arr (s.v x.a)with|some _=>s.store x.arr (s.v x.a) (s.v x.b)|none=>s.see 4 1):=by unfold bU;rw[e];rfl
def pI(e:x.op=6):bU D p x s=(match s.cell x.arr (s.v x.a)with|some _=>s|none=>s.see 4 1):=by unfold bU;rw[e];rfl
def pq(e:x.op=7):bU D p x s=(if s.v x.a=0 then s.see 4 2 else s):=by unfold bU;rw[e];rfl
def wZ(e:x.op=8):bU D p x s=s.read x.v:=by unfold bU;rw[e];rfl
def qX(e:x.op=9):bU D p x s=s.see 2 (s.v x.a):=by unfold bU;rw[e];rfl
def nP(e:x.op=10):bU D p x s=s.see 3 (s.v x.a):=by unfold bU;rw[e];rfl
def ll(e:x.op=11):bU D p x s=s.enter p x.f x.v (x.args.map s.v):=by unfold bU;rw[e];rfl
def nU(e:x.op=12):bU D p x s=s.ret (s.v x.a):=by unfold bU;rw[e];rfl
def qD(e:x.op=13):bU D p x s=s.jump x.to:=by unfold bU;rw[e];rfl
def lK(e:x.op=14):bU D p x s=(if s.v x.a=0 then s.jump x.to else s):=by unfold bU;rw[e];rfl
end
def step_ok{p:PrW}{s:MS}(h:MOk p s)(g:mY p)(y:∀o a b,I64 (D o a b))(hc:∀x:In,(∃f∈p.fns,x∈f.code)->I64 x.n):MOk p (gK D p s):=by cases he:s.ended with|true=>rw[ql D he];exact h|false=>
  obtain⟨fn,x,hf,B,z,ho,F,H,t⟩:=h.inst g he;have C:I64 x.n:=hc x ⟨fn,qqr hf,qqr B⟩;have hs:gK D p s=bU D p x s.tick:=by simp[gK,he,z]
  rw[hs];have G:=ho.op;by_cases m:x.op=12;·have h1:MOk p {s.tick with ended:=true}:=⟨h.inp,h.arr,h.qM,λq c=>by
    rcases qzu.1 c with c|c;·exact h.fr q (List.mem_append_left _ c)
    ·rw[jzm]at c;subst c;exact⟨h.jL.f,h.jL.vars,h.jL.ints⟩,h.bi,λe=>by simp at e,kg (g:=s.top) (g':=s.tick.top) rfl rfl _ h.into,h.evs,by have:=h.many;simp only[MS.tick];omega⟩;have hr:xY {s.tick with ended:=true}:=⟨by have:=h.many;simp only[MS.tick];omega,by have:=h.many;simp only[MS.tick];omega⟩;have h2:=h1.ret hr (n:=s.tick.v x.a) (h.v x.a);rw[nU D m];cases d:s.base.getLast? with
   |none=>
    have e:s.tick.ret (s.tick.v x.a)=s.tick.see 3 (s.tick.v x.a):=by simp[MS.ret,MS.tick,d]
    have w:MS.ret {s.tick with ended:=true} (s.tick.v x.a)=s.tick.see 3 (s.tick.v x.a):=by simp[MS.ret,MS.tick,d,MS.see]
    rw[w]at h2;rw[e];exact h2|some q=>
    have e:s.tick.ret (s.tick.v x.a)={(MS.ret {s.tick with ended:=true} (s.tick.v x.a))with ended:=s.ended}:=by simp[MS.ret,MS.tick,d]
    have u:(atM p (s.tick.ret (s.tick.v x.a)).top.f (s.tick.ret (s.tick.v x.a)).top.i).isSome=true:=by
     have:(s.tick.ret (s.tick.v x.a)).top={q with vars:=q.vars.set s.top.into (s.tick.v x.a)}:=by simp[MS.ret,MS.tick,d]
     rw[this];exact h.bi q (List.mem_of_getLast? d)
    rw[e]at u⊢;exact⟨h2.inp,h2.arr,h2.qM,h2.fr,h2.bi,λ_=>u,h2.into,h2.evs,h2.many⟩
  ·have h1:MOk p s.tick:=⟨h.inp,h.arr,h.qM,λq c=>by
    rcases qzu.1 c with c|c;·exact h.fr q (List.mem_append_left _ c)
    ·rw[jzm]at c;subst c;exact⟨h.jL.f,h.jL.vars,h.jL.ints⟩,h.bi,λ_=>t m,kg (g:=s.top) (g':=s.tick.top) rfl rfl _ h.into,h.evs,by have:=h.many;simp only[MS.tick];omega⟩;have hr:xY s.tick:=⟨by have:=h.many;simp only[MS.tick];omega,by have:=h.many;simp only[MS.tick];omega⟩;have v:jq x.op=true->(atM p s.tick.top.f x.to.toNat).isSome=true:=λe=>xB hf (by have:=ho.to e;omega);have r:I64 1:=⟨by omega,by omega⟩;have E:I64 2:=⟨by omega,by omega⟩;have A:x.op=1\/x.op=2\/x.op=3\/x.op=4\/x.op=5\/x.op=6\/x.op=7\/x.op=8\/x.op=9\/x.op=10\/x.op=11\/x.op=13\/x.op=14:=oqo;rcases A with e|e|e|e|e|e|e|e|e|e|e|e|e;·rw[tZ D e];exact h1.put _ C
   ·rw[uk D e];exact h1.put _ (h1.v _)
   ·rw[uj D e];exact h1.put _ (y _ _ _)
   ·rw[rC D e];split;·rename_i n e;exact h1.put _ (h1.Te e)
    ·exact h1.see hr 4 r
   ·rw[rf D e];split;·exact h1.store _ _ (h1.v _)
    ·exact h1.see hr 4 r
   ·rw[pI D e];split;·exact h1
    ·exact h1.see hr 4 r
   ·rw[pq D e];split;·exact h1.see hr 4 E
    ·exact h1
   ·rw[wZ D e];exact h1.read hr _
   ·rw[qX D e];exact h1.see hr 2 (h1.v _)
   ·rw[nP D e];exact h1.see hr 3 (h1.v _)
   ·rw[ll D e];have hv:=ho.v (by rw[e];rfl);exact h1.enter g hr (ho.f (by rw[e];rfl)) ⟨hv.1,by show x.v<(s.top.vars.length:Int);omega⟩ (λn hn=>by obtain⟨k,_,rfl⟩:=qjb.1 hn;exact h1.v k) (t m)
   ·rw[qD D e];exact h1.jump (v (by rw[e];rfl))
   ·rw[lK D e];split;·exact h1.jump (v (by rw[e];rfl))
    ·exact h1
def OP{p:PrW}(g:mY p)(c:∀o a b,I64 (D o a b))(hc:∀x:In,(∃f∈p.fns,x∈f.code)->I64 x.n):∀(n:Nat){s:MS},MOk p s->MOk p (runM D p n s)|0,_,h=>h|n+1,_,h=>OP g c hc n (step_ok D h g c hc)
def IG{p:PrW}(x:In)(s:MS):(bU D p x s).steps=s.steps:=by
 have hr:∀n,(s.ret n).steps=s.steps:=λn=>by unfold MS.ret;cases s.base.getLast?<;>rfl
 have d:∀(c:Prop) [Decidable c](a b:MS),a.steps=s.steps->b.steps=s.steps->(if c then a else b).steps=s.steps:=λc _ a b ha e=>by by_cases h:c<;>simp[h,ha,e]
 have i2:∀(o:Option Int)(f:Int->MS)(b:MS),(∀n,(f n).steps=s.steps)->b.steps=s.steps->(match o with|some n=>f n|none=>b).steps=s.steps:=λo f b ha e=>by cases o<;>simp[ha,e]
 unfold bU;refine d _ _ _ rfl (d _ _ _ rfl (d _ _ _ rfl (d _ _ _ (i2 _ _ _ (λ_=>rfl) rfl) (d _ _ _ (i2 _ _ _ (λ_=>rfl) rfl) (d _ _ _ (i2 _ _ _ (λ_=>rfl) rfl) (d _ _ _ (d _ _ _ rfl rfl) (d _ _ _ rfl (d _ _ _ rfl (d _ _ _ rfl (d _ _ _ rfl (d _ _ _ (hr _) (d _ _ _ rfl (d _ _ _ rfl rfl)))))))))))))
def Kt{p:PrW}{s:MS}:(gK D p s).steps<=s.steps+1:=by
 unfold gK;split;·omega
 ·split;·omega
  ·rw[IG];exact qqf _
def oV{p:PrW}:∀(n:Nat){s:MS},(runM D p n s).steps<=s.steps+n|0,_=>qqf _|n+1,s=>by have:=oV (p:=p) n (s:=gK D p s);have:=Kt D (p:=p) (s:=s);simp only[runM];omega
def qW{p:PrW}(g:mY p){inp:List Int}(hi:∀n∈inp,I64 n):MOk p (dQ p inp):=by
 have hm:=g.main;have b:p.fns[p.main.toNat]? =some p.fns[p.main.toNat]:=qqh oqo;have hl:p.main.toNat<p.fns.length:=oqo;have c:=g.fns _ (jxr hl);have hz:∀(k:Nat)(n:Int),n∈List.replicate k 0->I64 n:=λk n hn=>by rw[List.eq_of_mem_replicate hn];exact eY
 refine⟨hi,?_,λl hl n hn=>?_,λq a=>?_,λq a=>by simp[dQ]at a,λ_=>xB b c.pos,trivial,λe he=>by simp[dQ]at he,by simp[dQ]⟩;·simp[dQ]
 ·obtain⟨m,_,rfl⟩:=qjb.1 hl;exact hz _ n hn
 ·simp only[dQ,jzj,jzm]at a;subst a;have e:fT p p.main=fT p ((p.main.toNat:Nat):Int):=by rw[Int.toNat_of_nonneg hm.1]
  refine⟨by show p.main.toNat<_;omega,?_,λn hn=>hz _ n hn⟩;show((List.replicate (fT p p.main).toNat 0).length:Int)=fT p ((p.main.toNat:Nat):Int);rw[List.length_replicate,e,BN b];have:=c.params;omega
end Go.Proofs.YtgdibfnpkcdiiaaGreatDoor
namespace Go.Proofs.YtgdibfnpkcdiiaaGreatDoor
structure iG(l:List In)(out:List Bool)(td:Nat->Prop):Prop where
 len:out.length=l.length
 sound:∀i,out[i]? =some true->Reach l i
 todo:∀i,td i->Reach l i
 zero:0<l.length->td 0\/out[0]? =some true
 closed:∀i x k,out[i]? =some true->l[i]? =some x->k∈bN x i->k<l.length->td k\/out[k]? =some true
section
variable {l:List In}{out:List Bool}{T:Nat->Prop}{i:Nat}
def IK(l:List In):iG l (List.replicate l.length false) (· =0)where
 len:=List.length_replicate ..;sound:=λi h=>by rw[qzt]at h;split at h<;>simp at h
 todo:=λi h=>h▸Reach.first;zero:=λ_=>Or.inl rfl;closed:=λi x k h=>by rw[qzt]at h;split at h<;>simp at h
def iG.weak(h:iG l out T){T':Nat->Prop}(e:∀i,T i↔T' i):iG l out T' where len:=h.len;sound:=h.sound;todo:=λi k=>h.todo i ((e i).2 k);zero:=λk=>(h.zero k).imp (e 0).1 id;closed:=λi x k a b c d=>(h.closed i x k a b c d).imp (e k).1 id
def iG.skip(h:iG l out (λj=>T j\/j=i))(hi:l.length<=i\/out[i]? =some true):iG l out T where
 len:=h.len;sound:=h.sound;todo:=λj k=>h.todo j (Or.inl k);zero:=λk=>by
  rcases h.zero k with(c|c)|c;·exact Or.inl c
  ·subst c;rcases hi with hi|hi;·omega
   ·exact Or.inr hi
  ·exact Or.inr c
 closed:=λj x k a b c d=>by
  rcases h.closed j x k a b c d with(e|e)|e;·exact Or.inl e
  ·subst e;rcases hi with hi|hi;·omega
   ·exact Or.inr hi
  ·exact Or.inr e
def Hz{out:List Bool}{i j:Nat}(h:out[j]? =some true):(out.set i true)[j]? =some true:=by
 by_cases e:j=i;·subst e;rw[jqb (qqi.1 h).1]
 ·rw[jqd (λc=>e c.symm)];exact h
def iG.mark(h:iG l out (λj=>T j\/j=i)){x:In}(g:l[i]? =some x):iG l (out.set i true) (λj=>T j\/j∈bN x i)where
 len:=by rw[qjg];exact h.len
 sound:=λj k=>by
  by_cases e:j=i;·subst e;exact h.todo j (Or.inr rfl)
  ·rw[jqd (λc=>e c.symm)]at k;exact h.sound j k
 todo:=λj k=>by
  rcases k with k|k;·exact h.todo j (Or.inl k)
  ·exact Reach.next (h.todo i (Or.inr rfl)) g k
 zero:=λk=>by
  have m:i<out.length:=by rw[h.len];exact(qqi.1 g).1
  rcases h.zero k with(c|c)|c;·exact Or.inl (Or.inl c)
  ·subst c;exact Or.inr (jqb m)
  ·exact Or.inr (Hz c)
 closed:=λj y k a b c d=>by
  have m:i<out.length:=by rw[h.len];exact(qqi.1 g).1
  by_cases e:j=i;·subst e;rw[g]at b;cases b;exact Or.inl (Or.inr c)
  ·rw[jqd (λc=>e c.symm)]at a;rcases h.closed j y k a b c d with(f|f)|f;·exact Or.inl (Or.inl f)
   ·subst f;exact Or.inr (jqb m)
   ·exact Or.inr (Hz f)
def iG.all(h:iG l out (λ_=>False))(hi:i<l.length):out[i]? =some true↔Reach l i:=by refine⟨h.sound i,λk=>?_⟩;revert hi;induction k with
 |first=>
  intro hi;rcases h.zero hi with c|c;·exact c.elim
  ·exact c|next hj a hk ih=>
  intro hi;have:=ih (qqi.1 a).1;rcases h.closed _ _ _ this a hk hi with c|c;·exact c.elim
  ·exact c
end
open Classical in def nk(l:List In):List Bool:=(List.range l.length).map λi=>decide (Reach l i)
def iG.eq{l:List In}{out:List Bool}(h:iG l out (λ_=>False)):out=nk l:=by
 apply jqk;intro i;unfold nk;by_cases hi:i<l.length;·rw[qqp,qqz hi];have:=h.all hi;cases ho:out[i]? with|none=>rw[List.getElem?_eq_none_iff]at ho;rw[h.len]at ho;omega|some b=>rw[ho]at this;cases b with|true=>simp[this.1 rfl]|false=>
    have:¬Reach l i:=λc=>by have:=this.2 c;simp at this
    simp[this]
 ·rw[qza (by rw[h.len];omega),qza (by simp;omega)]
def mX(out:List Bool):Nat:=(out.filter λb=>!b).length
def Gf:∀(out:List Bool)(i:Nat),out[i]? =some false->mX (out.set i true)+1=mX out
 |[],i,h=>by simp at h|b::out,0,h=>by simp at h;subst h;simp[mX]|b::out,i+1,h=>by
  have:=Gf out i (by simpa using h);unfold mX at this⊢;rw[qqk,jzz,jzz];cases b;·simp only[Bool.not_false,jzo,qzv];omega
  ·simp only[Bool.not_true,qzr,jxa];exact this
def jU(l:List In)(S:Nat->Nat->Bool)(i v:Nat):Bool:=match l[i]? with|none=>false|some x=>(dX x).any (λu=>u==(v:Int))||((bD x !=some (v:Int))&&(bN x i).any λk=>S k v)
structure kY(l:List In)(S:Nat->Nat->Bool):Prop where sound:∀i v,S i v=true->Live l i (v:Int)post:∀i v,S i v=true->jU l S i v=true
section
variable {l:List In}{S S':Nat->Nat->Bool}
def Mm(l:List In):kY l (λ_ _=>false):=⟨λ_ _ h=>by simp at h,λ_ _ h=>by simp at h⟩
def OU(h:∀i v,S i v=true->Live l i (v:Int)){i v:Nat}(k:jU l S i v=true):Live l i (v:Int):=by unfold jU at k;cases a:l[i]? with|none=>rw[a]at k;simp at k|some x=>
  rw[a]at k;simp only[qji,jze,qqn,jxw,jzb]at k;rcases k with⟨u,hu,e⟩|⟨b,q,c,e⟩;·rw[e]at hu;exact Live.use a hu
  ·exact Live.pass a b c (h q v e)
def CG(h:∀i v,S i v=true->S' i v=true){i v:Nat}(k:jU l S i v=true):jU l S' i v=true:=by unfold jU at k⊢;cases a:l[i]? with|none=>rw[a]at k;simp at k|some x=>
  rw[a]at k;simp only[qji,jze,qqn]at k⊢;rcases k with k|⟨b,q,c,e⟩;·exact Or.inl k
  ·exact Or.inr ⟨b,q,c,h q v e⟩
def kY.step(h:kY l S)(h1:∀i v,S i v=true->S' i v=true)(h2:∀i v,S' i v=true->S i v=true\/jU l S i v=true):kY l S':=⟨λi v k=>by
  rcases h2 i v k with k|k;·exact h.sound i v k
  ·exact OU h.sound k,λi v k=>by
  rcases h2 i v k with k|k;·exact CG h1 (h.post i v k)
  ·exact CG h1 k⟩
def kY.all(h:kY l S)(hf:∀i v,jU l S i v=true->S i v=true)(i v:Nat):S i v=true↔Live l i (v:Int):=by refine⟨h.sound i v,λk=>?_⟩;generalize hw:(v:Int)=w at k;induction k with|use a hu=>refine hf _ _ ?_;unfold jU;rw[a];simp only[qji,jze,jzb];exact Or.inl ⟨_,hu,hw.symm⟩|pass a b hk _ ih=>refine hf _ _ ?_;unfold jU;rw[a];simp only[qji,jze,qqn,jxw];exact Or.inr ⟨by rw[hw];exact b,_,hk,ih hw⟩
end
def rO(S:Nat->Bool):Nat->Nat|0=>0|n+1=>rO S n+(if S n then 0 else 1)
def uO{S S':Nat->Bool}(h:∀i,S i=true->S' i=true):∀n,rO S' n<=rO S n|0=>qqf _|n+1=>by have:=uO h n;unfold rO;cases e:S n with|true=>rw[h n e];simpa using this|false=>split<;>simp<;>omega
def G7{S S':Nat->Bool}(h:∀i,S i=true->S' i=true){i:Nat}(h1:S i=false)(h2:S' i=true):∀n,i<n->rO S' n<rO S n
 |0,k=>by omega|n+1,k=>by
  unfold rO;by_cases e:i=n;·subst e;have:=uO h i;rw[h1,h2];simp;omega
  ·have:=G7 h h1 h2 n oqo;cases e:S n with|true=>rw[h n e];simpa using this|false=>split<;>simp<;>omega
def lh(S:Nat->Nat->Bool)(m:Nat):Nat->Nat|0=>0|n+1=>lh S m n+rO (S n) m
def Gr{S S':Nat->Nat->Bool}(h:∀i v,S i v=true->S' i v=true)(m:Nat):∀n,lh S' m n<=lh S m n|0=>qqf _|n+1=>by have:=Gr h m n;have:=uO (h n) m;unfold lh;omega
def Hd{S S':Nat->Nat->Bool}(h:∀i v,S i v=true->S' i v=true){i v m:Nat}(hv:v<m)(h1:S i v=false)(h2:S' i v=true):∀n,i<n->lh S' m n<lh S m n
 |0,k=>by omega|n+1,k=>by
  unfold lh;by_cases e:i=n;·subst e;have:=Gr h m i;have:=G7 (h i) h1 h2 m hv;omega
  ·have:=Hd h hv h1 h2 n oqo;have:=uO (h n) m;omega
def fA(p:Nat->Bool)(l:List In)(i:Nat):List In:=(List.range l.length).map λj=>if j<i/\p j=true then{}else l.getD j {}
section
variable {p:Nat->Bool}{l:List In}{i j:Nat}
def oZ(p:Nat->Bool)(l:List In)(i:Nat):(fA p l i).length=l.length:=by unfold fA;simp
def zK(p:Nat->Bool)(i:Nat)(hj:j<l.length):(fA p l i)[j]? =some (if j<i/\p j=true then{}else l.getD j {}):=by unfold fA;rw[qqp,qqz hj];rfl
def wO(p:Nat->Bool)(hj:i<=j):(fA p l i)[j]? =l[j]?:=by
 by_cases h:j<l.length;·rw[zK p i h,qzc oqo,qqm,qqh h];rfl
 ·rw[qza (by rw[oZ];omega),qza oqo]
def vv(p:Nat->Bool)(l:List In):fA p l 0=l:=jqk λj=>wO p (qqy j)
def LZ(h:p i=false):fA p l (i+1)=fA p l i:=by
 unfold fA;refine jqj λj _=>?_;by_cases e:j=i;·subst e;rw[qzc (by simp[h]),qzc oqo]
 ·by_cases a:p j=true
  ·by_cases hj:j<i;·rw[qzb ⟨by omega,a⟩,qzb ⟨hj,a⟩]
   ·rw[qzc oqo,qzc oqo]
  ·rw[qzc (λh=>a h.2),qzc (λh=>a h.2)]
def NH(h:p i=true)(hi:i<l.length):(fA p l i).set i {}=fA p l (i+1):=by
 apply jqk;intro j;by_cases hj:j<l.length
 ·rw[zK p (i+1) hj];by_cases e:j=i;·subst e;rw[jqb (by rw[oZ];exact hj),qzb ⟨by omega,h⟩]
  ·rw[jqd (λc=>e c.symm),zK p i hj];congr 1;by_cases a:p j=true
   ·by_cases hj:j<i;·rw[qzb ⟨hj,a⟩,qzb ⟨by omega,a⟩]
    ·rw[qzc oqo,qzc oqo]
   ·rw[qzc (λh=>a h.2),qzc (λh=>a h.2)]
 ·rw[qza (by rw[qjg,oZ];omega),qza (by rw[oZ];omega)]
open Classical in def Eb(l:List In):aZ l=fA (λj=>decide (¬Reach l j/\j+1<l.length)) l l.length:=by
 unfold aZ fA;refine jqj λj hj=>?_;rw[qzg]at hj;by_cases h:¬Reach l j/\j+1<l.length;·rw[qzb h,qzb ⟨hj,qqx h⟩]
 ·rw[qzc h,qzc (λc=>h (jjh c.2))]
open Classical in def Ld(l:List In):bO l=fA (λj=>gJ (l.getD j {})&&decide (¬Live l (j+1) (l.getD j {}).v)) l l.length:=by
 unfold bO fA;refine jqj λj hj=>?_;rw[qzg]at hj;by_cases h:gJ (l.getD j {})=true/\¬Live l (j+1) (l.getD j {}).v;·rw[qzb h,qzb ⟨hj,(show(gJ (l.getD j {})&&decide (¬Live l (j+1) (l.getD j {}).v))=true by rw[h.1,qqx h.2];rfl)⟩]
 ·rw[qzc h,qzc (λc=>h (by have:(gJ (l.getD j {})&&decide (¬Live l (j+1) (l.getD j {}).v))=true:=c.2;rw[qqn]at this;exact⟨this.1,jjh this.2⟩))]
def uS(l:List In)(j:Nat):Bool:=decide (j+1<l.length)&&((l.getD j {}).op==13&&decide ((j:Int)<(l.getD j {}).to)&&lW l (j+1) (l.getD j {}).to.toNat)
def P8(l:List In):∀(r:List In)(i:Nat),l.drop i=r->eB i l r=(List.range r.length).map λj=>if uS l (i+j)=true then{}else l.getD (i+j) {}
 |[],i,h=>by simp[eB]|[x],i,h=>by
  have hl:l.length=i+1:=by have:=jqp List.length h;simp at this;omega
  have a:l.getD i {}=x:=by have:=jqp (λq:List In=>q[0]?) h;simp at this;rw[qqm,this];rfl
  simp only[eB,qzv,jqz,qja,List.range_one,jqx,List.map_nil,qzz];rw[qzc (by unfold uS;rw[hl];simp),a]|x::y::r,i,h=>by
  have a:l.getD i {}=x:=by have:=jqp (λq:List In=>q[0]?) h;simp at this;rw[qqm,this];rfl
  have hl:i+1<l.length:=by have:=jqp List.length h;simp at this;omega
  have hr:l.drop (i+1)=y::r:=by rw[<-List.drop_drop,h];rfl
  rw[show eB i l (x::y::r)=(if x.op=13/\(i:Int)<x.to/\lW l (i+1) x.to.toNat=true then{}else x)::eB (i+1) l (y::r)from rfl,P8 l (y::r) (i+1) hr];rw[show(x::y::r).length=(y::r).length+1 from rfl,List.range_succ_eq_map,jqx,qzx];congr 1
  ·simp only[qzz];rw[a];by_cases c:x.op=13/\(i:Int)<x.to/\lW l (i+1) x.to.toNat=true;·rw[qzb c,qzb (by unfold uS;rw[a];simp only[qqn,qqu,jzb];exact⟨hl,⟨c.1,c.2.1⟩,c.2.2⟩)]
   ·rw[qzc c,qzc (by unfold uS;rw[a];simp only[qqn,qqu,jzb];exact λh=>c ⟨h.2.1.1,h.2.1.2,h.2.2⟩)]
  ·refine jqj λj _=>?_;simp only[Function.comp];rw[show i+1+j=i+(j+1)by omega]
def NV(l:List In):mR l=fA (uS l) l (l.length-1):=by
 unfold mR;rw[P8 l l 0 rfl];unfold fA;refine jqj λj hj=>?_;rw[qzg]at hj;rw[qja];by_cases h:uS l j=true
 ·have h1:j+1<l.length:=by have:=h;unfold uS at this;rw[qqn,qqu]at this;exact this.1
  rw[qzb h,qzb ⟨by omega,h⟩]
 ·rw[qzc h,qzc (λc=>h c.2)]
end
structure af.Ok(b:af)(n:Int):Prop where
 cp:∀v o,b.cp v=some o->0<=o/\o<n
 dD:∀o x y v,b.dD o x y=some v->0<=v/\v<n
def okI(p:PrW)(f:FnP)(x:In):Prop:=x={}\/dw p f x=true
def af.qW(n:Int):af.new.Ok n:=⟨λ_ _ h=>(by cases h),λ_ _ _ _ h=>(by cases h)⟩
def af.Ok.put{b:af}{n:Int}(h:b.Ok n)(v:Int):(b.put v).Ok n:=⟨λx o e=>by
  simp only[af.put]at e;split at e;·cases e
  ·split at e;·cases e
   ·exact h.cp x o e,λo x y u e=>by
  simp only[af.put]at e;split at e;·cases e
  ·split at e;·cases e
   ·exact h.dD o x y u e⟩
def af.Ok.root{b:af}{n:Int}(h:b.Ok n){v:Int}(hv:0<=v/\v<n):0<=b.root v/\b.root v<n:=by unfold af.root;cases e:b.cp v with|none=>exact hv|some o=>exact h.cp v o e
def Qx{has:Bool}{k m:Int}:eH has k m=true↔0<=k/\(if has then k<m else k=0):=by unfold eH;cases has<;>simp
def dB{p:PrW}{f:FnP}{x:In}:dw p f x=true↔(1<=x.op/\x.op<=14)/\(0<=x.v/\(if fq x.op then x.v<f.vars else x.v=0))/\(0<=x.a/\(if fH x.op then x.a<f.vars else x.a=0))/\(0<=x.b/\(if hasB x.op then x.b<f.vars else x.b=0))/\(0<=x.f/\(if nY x.op then x.f<p.fns.length else x.f=0))/\(0<=x.arr/\(if sK x.op then x.arr<p.arrays.length else x.arr=0))/\(0<=x.to/\(if jq x.op then x.to<f.code.length else x.to=0))/\(wh x.op=true\/x.n=0)/\(if og x.op then x.bin∈jw else x.bin=0)/\(x.args.length:Int)=fC p x/\∀v∈x.args,0<=v/\v<f.vars:=by unfold dw;simp only[qqn,qqu,Qx,qji,qqw];cases og x.op<;>simp[and_assoc]
def yQ{p:PrW}{f:FnP}{v a:Int}(hv:0<=v/\v<f.vars)(ha:0<=a/\a<f.vars):dw p f (bn v a)=true:=by rw[dB];simp[bn,fq,fH,hasB,nY,sK,jq,wh,og,fC,hv,ha]
def wF{p:PrW}{f:FnP}{v n:Int}(hv:0<=v/\v<f.vars):dw p f (fQ v n)=true:=by rw[dB];simp[fQ,fq,fH,hasB,nY,sK,jq,wh,og,fC,hv]
def FL{p:PrW}{f:FnP}{x:In}(h:dw p f x=true):okI p f (aS x):=by
 unfold aS;split;·exact Or.inl rfl
 ·exact Or.inr h
def Ei{p:PrW}{f:FnP}{x:In}(h:dw p f x=true)(k:fq x.op=true):0<=x.v/\x.v<f.vars:=by have:=(dB.1 h).2.1;rw[qzb k]at this;exact this
def Es{p:PrW}{f:FnP}{x:In}(h:dw p f x=true)(k:fH x.op=true):0<=x.a/\x.a<f.vars:=by have:=(dB.1 h).2.2.1;rw[qzb k]at this;exact this
def Ur{p:PrW}{f:FnP}{x:In}(h:dw p f x=true)(k:hasB x.op=true):0<=x.b/\x.b<f.vars:=by have:=(dB.1 h).2.2.2.1;rw[qzb k]at this;exact this
def vM{p:PrW}{f:FnP}{x:In}(h:dw p f x=true)(k:jq x.op=true):0<=x.to/\x.to<f.code.length:=by have:=(dB.1 h).2.2.2.2.2.2.1;rw[qzb k]at this;exact this
def Gl{p:PrW}{f:FnP}{x:In}(h:dw p f x=true):∀v∈x.args,0<=v/\v<f.vars:=(dB.1 h).2.2.2.2.2.2.2.2.2.2
def Pn{p:PrW}{f:FnP}{b:af}{x:In}(g:b.Ok f.vars)(h:dw p f x=true):dw p f (b.rooted x)=true:=by
 have a:=dB.1 h;unfold af.rooted;split
 ·rename_i e;have c:fH x.op=true:=by unfold fH;unfold hasB at e;simp only[qji,jzb]at e⊢;omega
  have d:=g.root (Es h c);have k:=g.root (Ur h e);rw[dB];refine⟨a.1,a.2.1,⟨d.1,by simp only[c,jzo];exact d.2⟩,⟨k.1,by simp only[e,jzo];exact k.2⟩,a.2.2.2.2⟩
 ·split;·rename_i c;have d:=g.root (Es h c);rw[dB];refine⟨a.1,a.2.1,⟨d.1,by simp only[c,jzo];exact d.2⟩,a.2.2.2⟩
  ·split
   ·rw[dB];refine⟨a.1,a.2.1,a.2.2.1,a.2.2.2.1,a.2.2.2.2.1,a.2.2.2.2.2.1,a.2.2.2.2.2.2.1,a.2.2.2.2.2.2.2.1,a.2.2.2.2.2.2.2.2.1,?_,?_⟩;·rw[qqv];exact a.2.2.2.2.2.2.2.2.2.1
    ·intro v hv;obtain⟨u,hu,rfl⟩:=qjb.1 hv;exact g.root (Gl h u hu)
   ·exact h
def Fs{p:PrW}{f:FnP}{b:af}{x:In}(a:x.op=2)(h:dw p f x=true):okI p f (b.dR x):=by
 unfold af.dR;split;·exact Or.inl rfl
 ·split;·exact Or.inr (wF (Ei h (by rw[a];rfl)))
  ·exact Or.inr h
def TP{p:PrW}{f:FnP}{x:In}{n m:Option Int}(a:x.op=3)(h:dw p f x=true):okI p f (ak x n m):=by
 have hv:=Ei h (by rw[a];rfl);have ha:=Es h (by rw[a];rfl);have e:=Ur h (by rw[a];rfl);have b:=FL (yQ (p:=p) hv e);have d:=FL (yQ (p:=p) hv ha);have g:okI p f (fQ x.v 0):=Or.inr (wF hv);have k:okI p f x:=Or.inr h;have key:∀(c:Prop) [Decidable c](y z:In),okI p f y->okI p f z->okI p f (if c then y else z):=λc _ y z h1 h2=>by
  by_cases hc:c;·rw[qzb hc];exact h1
  ·rw[qzc hc];exact h2
 unfold ak;exact key _ _ _ b (key _ _ _ d (key _ _ _ b (key _ _ _ d (key _ _ _ g k))))
def UL{D:Nat->Int->Int->Int}{p:PrW}{f:FnP}{b:af}{x:In}(a:b.Ok f.vars)(c:x.op=3)(h:dw p f x=true):okI p f (b.iK D x):=by
 have hv:=Ei h (by rw[c];rfl);unfold af.iK;split;·exact Or.inr (wF hv)
 ·split
  ·rename_i v d;split;·exact Or.inl rfl
   ·exact Fs rfl (yQ hv (a.root (a.dD _ _ _ _ d)))
  ·exact TP c h
def Ww{D:Nat->Int->Int->Int}{arr:List Int}{p:PrW}{f:FnP}{b:af}{x:In}(d:b.Ok f.vars)(h:dw p f x=true):okI p f (b.bB D arr x):=by
 unfold af.bB;split;·rename_i a;exact Fs a h
 ·split;·rename_i a;exact UL d a h
  ·split
   ·split
    ·split;·exact Or.inl rfl
     ·exact Or.inr h
    ·exact Or.inr h
   ·split
    ·split
     ·split;·exact Or.inl rfl
      ·exact Or.inr h
     ·exact Or.inr h
    ·split
     ·rename_i c;split
      ·split;·right;have ht:=vM h (by rw[c];rfl);rw[dB];simp[fq,fH,hasB,nY,sK,jq,wh,og,fC,ht]
       ·exact Or.inl rfl
      ·exact Or.inr h
     ·exact Or.inr h
def uq{D:Nat->Int->Int->Int}{arr:List Int}{p:PrW}{f:FnP}{b:af}{x:In}(a:b.Ok f.vars)(h:dw p f x=true):okI p f (b.shorter D arr x):=Ww a (Pn a h)
def af.Ok.does{p:PrW}{f:FnP}{b:af}{x:In}(g:b.Ok f.vars)(h:okI p f x):(b.does x).Ok f.vars:=by
 rcases h with rfl|h;·exact g
 unfold af.does bD;by_cases d:fq x.op=true
 ·rw[qzb d];have hv:=Ei h d;have a:=g.put x.v;have m:∀c:af,c.Ok f.vars->∀v n,(c.jP v n).Ok f.vars:=λc hc v n=>⟨hc.cp,hc.dD⟩;simp only[];split;·exact m _ a _ _
  ·split
   ·rename_i h2;have ha:=Es h (by rw[h2];rfl);have k:((b.put x.v).aV x.v x.a).Ok f.vars:=⟨λu o e=>by
     simp only[af.aV]at e;split at e;·cases e;exact ha
     ·exact a.cp u o e,a.dD⟩;split;·exact m _ k _ _
    ·exact k
   ·split
    ·split;·exact⟨a.cp,λo y z u e=>by
       simp only[af.qN]at e;split at e;·cases e;exact hv
       ·exact a.dD o y z u e⟩
     ·exact a
    ·exact a
 ·rw[qzc d];exact g
def jZ(D:Nat->Int->Int->Int)(arr:List Int)(lead:Nat->Bool):∀(l:List In)(i:Nat)(b:af),(bG D arr lead i b l).length=l.length|[],_,_=>rfl|x::l,i,b=>by simp[bG,jZ D arr lead l]
def DT{D:Nat->Int->Int->Int}{arr:List Int}{p:PrW}{f:FnP}{lead:Nat->Bool}:∀(l:List In)(i:Nat)(b:af),b.Ok f.vars->(∀x∈l,dw p f x=true)->∀y∈bG D arr lead i b l,okI p f y
 |[],_,_,_,_,_,h=>by cases h|x::l,i,b,c,hl,y,h=>by
  simp only[bG,qzh]at h;have a:(if lead i then af.new else b).Ok f.vars:=by
   split;·exact af.qW _
   ·exact c
  have hs:=uq (D:=D) (arr:=arr) a (hl x (by simp));rcases h with rfl|h;·exact hs
  ·exact DT l (i+1) _ (a.does hs) (λz hz=>hl z (by simp[hz])) y h
def Iu{D:Nat->Int->Int->Int}{arr:List Int}{b:af}{x:In}(h:x.op=12):(b.shorter D arr x).op=12:=by unfold af.shorter af.bB af.rooted;simp[h,fH,hasB]
def yo{D:Nat->Int->Int->Int}{arr:List Int}{lead:Nat->Bool}:∀(l:List In)(i:Nat)(b:af),(∃x,l.getLast? =some x/\x.op=12)->∃x,(bG D arr lead i b l).getLast? =some x/\x.op=12|[],_,_,⟨x,h,_⟩=>by cases h|[x],i,b,⟨y,h,h2⟩=>by simp at h;subst h;exact⟨(if lead i then af.new else b).shorter D arr x,rfl,Iu h2⟩|x::y::l,i,b,⟨z,h,h2⟩=>by obtain⟨u,hu,a⟩:=yo (D:=D) (arr:=arr) (lead:=lead) (y::l) (i+1) ((if lead i then af.new else b).does ((if lead i then af.new else b).shorter D arr x)) ⟨z,by simpa using h,h2⟩;refine⟨u,?_,a⟩;simp only[bG]at hu⊢;rw[List.getLast?_cons_cons];exact hu
def Pm{l:List In}{F:Nat->In}(hF:∀i,i<l.length->F i={}\/F i=l.getD i {}):∀y∈(List.range l.length).map F,y={}\/y∈l:=λy a=>by
 obtain⟨i,hi,rfl⟩:=qjb.1 a;have hi:=qzg.1 hi;rcases hF i hi with h|h;·exact Or.inl h
 ·right;rw[h,qqm,qqh hi];exact jxr hi
def yB{l:List In}:∀y∈aZ l,y={}\/y∈l:=Pm λi _=>by
 by_cases h:¬Reach l i/\i+1<l.length;·rw[qzb h];exact Or.inl rfl
 ·rw[qzc h];exact Or.inr rfl
def R9{l:List In}:∀y∈bO l,y={}\/y∈l:=Pm λi _=>by
 by_cases h:gJ (l.getD i {})=true/\¬Live l (i+1) (l.getD i {}).v;·rw[qzb h];exact Or.inl rfl
 ·rw[qzc h];exact Or.inr rfl
def lS(l:List In):(aZ l).length=l.length:=by simp[aZ]
def uw(l:List In):(bO l).length=l.length:=by simp[bO]
def BP:∀(i:Nat)(l r:List In),(eB i l r).length=r.length|_,_,[]=>rfl|_,_,[x]=>rfl|i,l,x::y::r=>by simp only[eB,qzv];rw[BP (i+1) l (y::r)];rfl
def JY:∀(i:Nat)(l r:List In),∀z∈eB i l r,z={}\/z∈r
 |_,_,[],z,h=>by cases h|_,_,[x],z,h=>Or.inr h|i,l,x::y::r,z,h=>by
  simp only[eB,qzh]at h;rcases h with h|h
  ·split at h;·exact Or.inl h
   ·right;rw[h];simp
  ·rcases JY (i+1) l (y::r) z h with h|h;·exact Or.inl h
   ·right;simp only[qzh]at h⊢;exact Or.inr h
def Gd:∀(i:Nat)(l r:List In),(eB i l r).getLast? =r.getLast?
 |_,_,[]=>rfl|_,_,[x]=>rfl|i,l,x::y::r=>by
  have h:=Gd (i+1) l (y::r);simp only[eB];have c:eB (i+1) l (y::r)≠[]:=by intro e;have:=BP (i+1) l (y::r);rw[e]at this;simp at this
  rw[List.getLast?_cons_cons,<-h];cases b:eB (i+1) l (y::r)with|nil=>exact absurd b c|cons a t=>rw[List.getLast?_cons_cons]
def Dl{l:List In}{x:In}:l.getLast? =some x↔l≠[]/\l.getD (l.length-1) {}=x:=by rw[jxl,qqm];cases l with|nil=>simp|cons y l=>simp
def EC{l:List In}{x:In}(h:l.getLast? =some x):(aZ l).getLast? =some x:=by have hl:=Dl.1 h;have a:0<l.length:=List.length_pos_iff.2 hl.1;rw[jxl,lS];unfold aZ;rw[qqp,qqz oqo];simp only[jqf];rw[qzc oqo,hl.2]
def O0{l:List In}{x:In}(h:l.getLast? =some x)(a:x.op=12):(bO l).getLast? =some x:=by have hl:=Dl.1 h;have b:0<l.length:=List.length_pos_iff.2 hl.1;rw[jxl,uw];unfold bO;rw[qqp,qqz oqo];simp only[jqf];rw[hl.2,qzc (by rintro⟨h1,_⟩;simp[gJ,a]at h1)]
def Lc{l:List In}{x:In}(h:l.getLast? =some x)(a:x.op=12):(eT l).getLast? =some x:=by unfold eT mR;rw[Gd];exact O0 (EC h) a
def su(l:List In):(eT l).length=l.length:=by unfold eT mR;rw[BP,uw,lS]
def wU{l:List In}:∀y∈eT l,y={}\/y∈l:=λy a=>by
 rcases JY _ _ _ y a with h|h;·exact Or.inl h
 rcases R9 y h with h|h;·exact Or.inl h
 exact yB y h
def Aj(l:List In):(bZ l).length=atW l l.length:=by simp[bZ,atW]
def YU(l:List In){i j:Nat}(h:i<=j):atW l i<=atW l j:=by unfold atW;obtain⟨k,rfl⟩:∃k,j=i+k:=⟨j-i,by omega⟩;rw[List.take_add,List.filter_append,qzl];omega
def Cj{l:List In}{i:Nat}{x:In}(h:l[i]? =some x):atW l (i+1)=atW l i+(if x.op !=0 then 1 else 0):=by
 unfold atW;rw[jqw,h,List.filter_append,qzl];congr 1;simp only[Option.toList_some];by_cases a:(x.op !=0)=true;·rw[qzb a,jzz,qzb a];rfl
 ·rw[qzc a,jzz,qzc a];rfl
def Vw{l:List In}{x:In}(h:l.getLast? =some x)(a:x.op≠0){i:Nat}(hi:i<l.length):atW l i<atW l l.length:=by rw[jxl]at h;have h1:=Cj h;rw[show l.length-1+1=l.length by omega,qzb (by simpa using a)]at h1;have:=YU l (show i<=l.length-1 by omega);omega
def I5{l:List In}{x:In}(h:l.getLast? =some x)(a:x.op=12):(bZ l).getLast? =some x:=by obtain⟨t,rfl⟩:=List.getLast?_eq_some_iff.1 h;unfold bZ;rw[List.filter_append,jzy,jzz,qzb (by simp[a])];simp[a]
def PL{p p':PrW}{f c:FnP}{l:List In}(hv:c.vars=f.vars)(hc:f.code.length=l.length)(g:c.code=bZ l)(ha:p'.arrays.length=p.arrays.length)(hf:p'.fns.map (·.params)=p.fns.map (·.params))(hl:∀x∈l,okI p f x){z:In}(hz:l.getLast? =some z)(q:z.op=12):∀y∈bZ l,dw p' c y=true:=λy e=>by
 unfold bZ at e;obtain⟨x,m,rfl⟩:=qjb.1 e;obtain⟨n,o⟩:=jxb.1 m;rcases hl x n with rfl|h;·simp at o
 have hn:p'.fns.length=p.fns.length:=by have:=jqp List.length hf;simpa using this
 have hm:fC p' x=fC p x:=by
  unfold fC;have:∀i:Nat,(p'.fns[i]?).map (·.params)=(p.fns[i]?).map (·.params):=λi=>by rw[<-qqp,<-qqp,hf]
  rw[this]
 have a:=dB.1 h;by_cases d:x.op=13\/x.op=14
 ·rw[qzb d];have b:jq x.op=true:=by unfold jq;simpa using d
  have ht:=vM h b;have k:=Vw hz oqo (i:=x.to.toNat) oqo;rw[<-Aj,<-g]at k;rw[dB,hv,hn,ha];refine⟨a.1,a.2.1,a.2.2.1,a.2.2.2.1,a.2.2.2.2.1,a.2.2.2.2.2.1,⟨by simp only[];omega,by rw[qzb b];simp only[];omega⟩,a.2.2.2.2.2.2.2.1,a.2.2.2.2.2.2.2.2.1,?_,a.2.2.2.2.2.2.2.2.2.2⟩;rw[show fC p' {x with to:=(atW l x.to.toNat:Nat)}=fC p' x from rfl,hm];exact a.2.2.2.2.2.2.2.2.2.1
 ·rw[qzc d,dB,hv,hn,ha,hm];have b:jq x.op=false:=by unfold jq;simp only[Bool.or_eq_false_iff,qqe];omega
  refine⟨a.1,a.2.1,a.2.2.1,a.2.2.2.1,a.2.2.2.2.1,a.2.2.2.2.2.1,?_,a.2.2.2.2.2.2.2⟩;have:=a.2.2.2.2.2.2.1;rw[b]at this⊢;exact this
