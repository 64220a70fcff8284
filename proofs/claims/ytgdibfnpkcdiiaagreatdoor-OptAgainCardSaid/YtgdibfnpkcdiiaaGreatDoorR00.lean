/- Joint text: HSpec, OSpec, HText, MSpec, MOk, OReach, OSweepP, OOk. By an AI agent. -/
import Derived.Test.YtgdibfnpkcdiiaaGreatDoorRzz
import Derived.Lib.Hide
import Derived.RowKit
import Derived.Lib.ItoaMem
set_option linter.all false
set_option maxRecDepth 100000
set_option maxHeartbeats 64000000
noncomputable section
namespace Go.Proofs.YtgdibfnpkcdiiaaGreatDoor
structure In where
 op:Nat:=0
 v:Int:=0
 a:Int:=0
 b:Int:=0
 n:Int:=0
 bin:Nat:=0
 args:List Int:=[]f:Int:=0
 arr:Int:=0
 to:Int:=0 deriving DecidableEq
structure FnP where
 name:List UInt8
 params:Int
 vars:Int
 code:List In deriving DecidableEq
structure PrW where
 arrays:List Int
 fns:List FnP
 main:Int deriving DecidableEq
def eU(o:Nat):Bool:=o==1||o==2||o==3||o==4||o==8||o==11
def fe(o:Nat):Bool:=o==2||o==3||o==4||o==5||o==6||o==7||o==9||o==10||o==12||o==14
def hasB(o:Nat):Bool:=o==3||o==5
def vJ(o:Nat):Bool:=o==1
def mK(o:Nat):Bool:=o==3
def mD(o:Nat):Bool:=o==11
def sG(o:Nat):Bool:=o==4||o==5||o==6
def iG(o:Nat):Bool:=o==13||o==14
def jE:List Nat:=[1,2,3,4,5,8,9,10,11,13,14,16]
def eQ(has:Bool)(n a:Int):Bool:=decide (0<=n)&&(if has then decide (n<a)else decide (n=0))
def fG(p:PrW)(x:In):Int:=if mD x.op then((p.fns[x.f.toNat]?).map (·.params)).getD 0 else 0
def dJ(p:PrW)(f:FnP)(x:In):Bool:=decide (1<=x.op/\x.op<=14)&&eQ (eU x.op) x.v f.vars&&eQ (fe x.op) x.a f.vars&&eQ (hasB x.op) x.b f.vars&&eQ (mD x.op) x.f p.fns.length&&eQ (sG x.op) x.arr p.arrays.length&&eQ (iG x.op) x.to f.code.length&&((vJ x.op||decide (x.n=0))&&(if mK x.op then decide (x.bin∈jE)else decide (x.bin=0))&&decide ((x.args.length:Int)=fG p x)&&x.args.all (λv=>decide (0<=v/\v<f.vars)))
def ky(f:FnP):Bool:=match f.code.getLast? with|none=>false|some x=>decide (x.op=12)
def fnW(p:PrW)(f:FnP):Bool:=decide (0<=f.params/\f.params<=6/\f.params<=f.vars/\f.vars<=200/\f.code.length<=8000)&&ky f&&f.code.all (dJ p f)
def jI(p:PrW):Bool:=decide (0<=p.main/\p.main<p.fns.length)&&decide (((p.fns[p.main.toNat]?).map (·.params)).getD 0=0)
def bB(p:PrW):Bool:=decide (p.arrays.length<=16/\p.fns.length<=64)&&jI p&&p.arrays.all (λn=>decide (1<=n/\n<=4096))&&p.fns.all (fnW p)
def dz(x:In):List Int:=[(x.op:Int),x.v,x.a,x.b,x.n,(x.bin:Int),x.f,x.arr,x.to]++x.args
theorem Gn{x y:In}(h:dz x=dz y):x=y:=by obtain⟨o,v,a,b,n,c,B,f,r,t⟩:=x;obtain⟨z,K,A,E,H,d,C,F,I,J⟩:=y;simp only[dz,jjb,List.nil_append,jxg]at h;obtain⟨h1,h2,h3,m,q,G,s,u,w,k⟩:=h;have e:o=z:=oqo;have g:c=d:=oqo;subst e g h2 h3 m q s u w k;rfl
def kJ(l:List In):Bool:=l.all λx=>decide (x.args.length<=20)
structure ae where
 num:Int->Option Int
 cp:Int->Option Int
 cB:Nat->Int->Int->Option Int
def ae.new:ae:=⟨λ_=>none,λ_=>none,λ_ _ _=>none⟩
def ae.put(b:ae)(v:Int):ae:=⟨λx=>if x=v then none else b.num x,λx=>if x=v then none else if b.cp x=some v then none else b.cp x,λo x y=>if x=v\/y=v then none else if b.cB o x y=some v then none else b.cB o x y⟩
def ae.root(b:ae)(v:Int):Int:=(b.cp v).getD v
def ae.jw(b:ae)(v n:Int):ae:={b with num:=λx=>if x=v then some n else b.num x}
def ae.aZ(b:ae)(v a:Int):ae:={b with cp:=λx=>if x=v then some a else b.cp x}
def ae.pE(b:ae)(o:Nat)(x y v:Int):ae:={b with cB:=λa c d=>if a=o/\c=x/\d=y then some v else b.cB a c d}
def di(x:In):List Int:=if hasB x.op then [x.a,x.b]else if fe x.op then [x.a]else if x.op=11 then x.args else []
def bG(x:In):Option Int:=if eU x.op then some x.v else none
def eO(x:In):Bool:=x.op==1||x.op==2||x.op==3
def bN(x:In)(i:Nat):List Nat:=if x.op=13 then [x.to.toNat]else if x.op=14 then [x.to.toNat,i+1]else if x.op=12\/x.op=10 then []else [i+1]
def ae.does(b:ae)(x:In):ae:=match bG x with|none=>b|some v=>if x.op=1 then(b.put v).jw v x.n else if x.op=2 then(match b.num x.a with|some n=>((b.put v).aZ v x.a).jw v n|none=>(b.put v).aZ v x.a)else if x.op=3 then(if v≠x.a/\v≠x.b then(b.put v).pE x.bin x.a x.b v else b.put v)else b.put v
def ae.rooted(b:ae)(x:In):In:=if hasB x.op then{x with a:=b.root x.a,b:=b.root x.b}else if fe x.op then{x with a:=b.root x.a}else if x.op=11 then{x with args:=x.args.map b.root}else x
def aQ(v a:Int):In:={op:=2,v:=v,a:=a}
def fC(v n:Int):In:={op:=1,v:=v,n:=n}
def aJ(x:In):In:=if x.v=x.a then{}else x
def ae.dQ(b:ae)(x:In):In:=if x.v=x.a then{}else match b.num x.a with|some n=>fC x.v n|none=>x
def au(x:In)(n m:Option Int):In:=if(x.bin=1\/x.bin=9\/x.bin=10)/\n=some 0 then aJ (aQ x.v x.b)else if(x.bin=1\/x.bin=9\/x.bin=10\/x.bin=2\/x.bin=11\/x.bin=13)/\m=some 0 then aJ (aQ x.v x.a)else if x.bin=3/\n=some 1 then aJ (aQ x.v x.b)else if x.bin=3/\m=some 1 then aJ (aQ x.v x.a)else if x.bin=3/\(n=some 0\/m=some 0)then fC x.v 0 else x
section
variable (D:Nat->Int->Int->Int)(arr:List Int)
def oq(x:In):Int:=(arr[x.arr.toNat]?).getD 0
def ae.gU(b:ae)(x:In):In:=if(b.num x.a).isSome=true/\(b.num x.b).isSome=true/\(b.num x.b≠some 0\/(x.bin≠4/\x.bin≠5))then fC x.v (D x.bin ((b.num x.a).getD 0) ((b.num x.b).getD 0))else match b.cB x.bin x.a x.b with|some v=>if v=x.v then{}else b.dQ (aQ x.v (b.root v))|none=>au x (b.num x.a) (b.num x.b)
def ae.bE(b:ae)(x:In):In:=if x.op=2 then b.dQ x else if x.op=3 then b.gU D x else if x.op=6 then(match b.num x.a with|some n=>if 0<=n/\n<oq arr x then{}else x|none=>x)else if x.op=7 then(match b.num x.a with|some n=>if n≠0 then{}else x|none=>x)else if x.op=14 then(match b.num x.a with|some n=>if n=0 then{op:=13,to:=x.to}else{}|none=>x)else x
def ae.shorter(b:ae)(x:In):In:=b.bE D arr (b.rooted x)
def dh(l:List In)(i:Nat):Bool:=i==0||l.any (λx=>(x.op==13||x.op==14)&&x.to.toNat==i)||(match i with|0=>false|j+1=>match l[j]? with|some x=>x.op==13||x.op==14||x.op==12||x.op==10|none=>false)
def bD(lead:Nat->Bool):Nat->ae->List In->List In|_,_,[]=>[]|i,b,x::l=>let a:=if lead i then .new else b;a.shorter D arr x::bD lead (i+1) (a.does (a.shorter D arr x)) l
def aG(l:List In):List In:=bD D arr (dh l) 0 .new l
end
inductive Reach(l:List In):Nat->Prop|first:Reach l 0|next{i k:Nat}{x:In}:Reach l i->l[i]? =some x->k∈bN x i->Reach l k
inductive Live(l:List In):Nat->Int->Prop|use{i:Nat}{x:In}{v:Int}:l[i]? =some x->v∈di x->Live l i v|pass{i k:Nat}{x:In}{v:Int}:l[i]? =some x->bG x≠some v->k∈bN x i->Live l k v->Live l i v
open Classical in def bn(l:List In):List In:=(List.range l.length).map λi=>if¬Reach l i/\i+1<l.length then{}else l.getD i {}
open Classical in def bL(l:List In):List In:=(List.range l.length).map λi=>if eO (l.getD i {})=true/\¬Live l (i+1) (l.getD i {}).v then{}else l.getD i {}
def ku(l:List In)(i j:Nat):Bool:=((l.take j).drop i).all λx=>x.op==0
def dP:Nat->List In->List In->List In|_,_,[]=>[]|_,_,[x]=>[x]|i,l,x::y::r=>(if x.op=13/\(i:Int)<x.to/\ku l (i+1) x.to.toNat=true then{}else x)::dP (i+1) l (y::r)
def mg(l:List In):List In:=dP 0 l l
def dH(l:List In):List In:=mg (bL (bn l))
def atW(l:List In)(i:Nat):Nat:=((l.take i).filter λx=>x.op !=0).length
def bT(l:List In):List In:=(l.filter λx=>x.op !=0).map λx=>if x.op=13\/x.op=14 then{x with to:=(atW l x.to.toNat:Nat)}else x
def bz(D:Nat->Int->Int->Int)(arr:List Int)(l:List In):List In:=bT (dH (aG D arr l))
def ae.qc(arr:List Int)(b:ae)(x:In):Bool:=(di x).all (λv=>decide (b.root v=v))&&(if x.op=2 then decide (b.num x.a=none/\x.v≠x.a)else if x.op=3 then decide (b.cB x.bin x.a x.b=none)&&decide (b.num x.a=none\/b.num x.b=none\/(b.num x.b=some 0/\(x.bin=4\/x.bin=5)))else if x.op=6 then(match b.num x.a with|some n=>decide (n<0\/oq arr x<=n)|none=>true)else if x.op=7 then decide (b.num x.a=none\/b.num x.a=some 0)else if x.op=14 then decide (b.num x.a=none)else true)
open Classical in def mQ(arr:List Int)(l:List In):Nat->ae->List In->Bool|_,_,[]=>true|i,b,x::r=>let a:=if dh l i then .new else b;(!(decide (¬Reach l i/\i+1<l.length)||(eO x&&decide (¬Live l (i+1) x.v))||(x.op==13&&decide (x.to=(i:Int)+1))||!a.qc arr x))&&mQ arr l (i+1) (a.does x) r
def lK(arr:List Int)(l:List In):Bool:=mQ arr l 0 .new l
def I64(n:Int):Prop:=-9223372036854775808<=n/\n<=9223372036854775807
structure qU(x:In):Prop where
 op:x.op<256
 v:I64 x.v
 a:I64 x.a
 b:I64 x.b
 n:I64 x.n
 bin:x.bin<256
 args:∀k∈x.args,I64 k
 f:I64 x.f
 arr:I64 x.arr
 to:I64 x.to
structure OQ(f:FnP):Prop where
 params:I64 f.params
 vars:I64 f.vars
 code:∀x∈f.code,qU x
structure AL(p:PrW):Prop where
 arrays:∀k∈p.arrays,I64 k
 fns:∀f∈p.fns,OQ f
 main:I64 p.main
theorem eG:I64 0:=⟨by omega,by omega⟩
variable (D:Nat->Int->Int->Int)
end Go.Proofs.YtgdibfnpkcdiiaaGreatDoor
namespace Go.Proofs.YtgdibfnpkcdiiaaGreatDoor
structure gP(l:List In)(out:List Bool)(td:Nat->Prop):Prop where
 len:out.length=l.length
 sound:∀i,out[i]? =some true->Reach l i
 todo:∀i,td i->Reach l i
 zero:0<l.length->td 0\/out[0]? =some true
 closed:∀i x k,out[i]? =some true->l[i]? =some x->k∈bN x i->k<l.length->td k\/out[k]? =some true
section
variable {l:List In}{out:List Bool}{T:Nat->Prop}{i:Nat}
theorem Gz(l:List In):gP l (List.replicate l.length false) (· =0)where
 len:=List.length_replicate ..;sound:=λi h=>by rw[qzt]at h;split at h<;>simp at h
 todo:=λi h=>h▸Reach.first;zero:=λ_=>Or.inl rfl;closed:=λi x k h=>by rw[qzt]at h;split at h<;>simp at h
theorem gP.weak(h:gP l out T){T':Nat->Prop}(e:∀i,T i↔T' i):gP l out T' where len:=h.len;sound:=h.sound;todo:=λi k=>h.todo i ((e i).2 k);zero:=λk=>(h.zero k).imp (e 0).1 id;closed:=λi x k a b c d=>(h.closed i x k a b c d).imp (e k).1 id
theorem gP.skip(h:gP l out (λj=>T j\/j=i))(hi:l.length<=i\/out[i]? =some true):gP l out T where
 len:=h.len;sound:=h.sound;todo:=λj k=>h.todo j (Or.inl k);zero:=λk=>by
  rcases h.zero k with(c|c)|c;·exact Or.inl c
  ·subst c;rcases hi with hi|hi;·omega
   ·exact Or.inr hi
  ·exact Or.inr c
 closed:=λj x k a b c d=>by
  rcases h.closed j x k a b c d with(e|e)|e;·exact Or.inl e
  ·subst e;rcases hi with hi|hi;·omega
   ·exact Or.inr hi
  ·exact Or.inr e
theorem F9{out:List Bool}{i j:Nat}(h:out[j]? =some true):(out.set i true)[j]? =some true:=by
 by_cases e:j=i;·subst e;rw[jqn (qqi.1 h).1]
 ·rw[jqt (λc=>e c.symm)];exact h
theorem gP.mark(h:gP l out (λj=>T j\/j=i)){x:In}(g:l[i]? =some x):gP l (out.set i true) (λj=>T j\/j∈bN x i)where
 len:=by rw[qjg];exact h.len
 sound:=λj k=>by
  by_cases e:j=i;·subst e;exact h.todo j (Or.inr rfl)
  ·rw[jqt (λc=>e c.symm)]at k;exact h.sound j k
 todo:=λj k=>by
  rcases k with k|k;·exact h.todo j (Or.inl k)
  ·exact Reach.next (h.todo i (Or.inr rfl)) g k
 zero:=λk=>by
  have m:i<out.length:=by rw[h.len];exact(qqi.1 g).1
  rcases h.zero k with(c|c)|c;·exact Or.inl (Or.inl c)
  ·subst c;exact Or.inr (jqn m)
  ·exact Or.inr (F9 c)
 closed:=λj y k a b c d=>by
  have m:i<out.length:=by rw[h.len];exact(qqi.1 g).1
  by_cases e:j=i;·subst e;rw[g]at b;cases b;exact Or.inl (Or.inr c)
  ·rw[jqt (λc=>e c.symm)]at a;rcases h.closed j y k a b c d with(f|f)|f;·exact Or.inl (Or.inl f)
   ·subst f;exact Or.inr (jqn m)
   ·exact Or.inr (F9 f)
theorem gP.all(h:gP l out (λ_=>False))(hi:i<l.length):out[i]? =some true↔Reach l i:=by refine⟨h.sound i,λk=>?_⟩;revert hi;induction k with
 |first=>
  intro hi;rcases h.zero hi with c|c;·exact c.elim
  ·exact c|next hj a hk ih=>
  intro hi;have:=ih (qqi.1 a).1;rcases h.closed _ _ _ this a hk hi with c|c;·exact c.elim
  ·exact c
end
open Classical in def jk(l:List In):List Bool:=(List.range l.length).map λi=>decide (Reach l i)
theorem gP.eq{l:List In}{out:List Bool}(h:gP l out (λ_=>False)):out=jk l:=by
 apply jqq;intro i;unfold jk;by_cases hi:i<l.length;·rw[qqp,qqz hi];have:=h.all hi;cases ho:out[i]? with|none=>rw[List.getElem?_eq_none_iff]at ho;rw[h.len]at ho;omega|some b=>rw[ho]at this;cases b with|true=>simp[this.1 rfl]|false=>
    have:¬Reach l i:=λc=>by have:=this.2 c;simp at this
    simp[this]
 ·rw[qza (by rw[h.len];omega),qza (by simp;omega)]
def lW(out:List Bool):Nat:=(out.filter λb=>!b).length
theorem FT:∀(out:List Bool)(i:Nat),out[i]? =some false->lW (out.set i true)+1=lW out
 |[],i,h=>by simp at h|b::out,0,h=>by simp at h;subst h;simp[lW]|b::out,i+1,h=>by
  have:=FT out i (by simpa using h);unfold lW at this⊢;rw[qqk,jzr,jzr];cases b;·simp only[Bool.not_false,jzo,qzv];omega
  ·simp only[Bool.not_true,qzr,jxh];exact this
def iX(l:List In)(S:Nat->Nat->Bool)(i v:Nat):Bool:=match l[i]? with|none=>false|some x=>(di x).any (λu=>u==(v:Int))||((bG x !=some (v:Int))&&(bN x i).any λk=>S k v)
structure kD(l:List In)(S:Nat->Nat->Bool):Prop where sound:∀i v,S i v=true->Live l i (v:Int)post:∀i v,S i v=true->iX l S i v=true
section
variable {l:List In}{S S':Nat->Nat->Bool}
theorem JG(l:List In):kD l (λ_ _=>false):=⟨λ_ _ h=>by simp at h,λ_ _ h=>by simp at h⟩
theorem Mt(h:∀i v,S i v=true->Live l i (v:Int)){i v:Nat}(k:iX l S i v=true):Live l i (v:Int):=by unfold iX at k;cases a:l[i]? with|none=>rw[a]at k;simp at k|some x=>
  rw[a]at k;simp only[qji,jqv,qqn,jxl,jqz]at k;rcases k with⟨u,hu,e⟩|⟨b,q,c,e⟩;·rw[e]at hu;exact Live.use a hu
  ·exact Live.pass a b c (h q v e)
theorem Cf(h:∀i v,S i v=true->S' i v=true){i v:Nat}(k:iX l S i v=true):iX l S' i v=true:=by unfold iX at k⊢;cases a:l[i]? with|none=>rw[a]at k;simp at k|some x=>
  rw[a]at k;simp only[qji,jqv,qqn]at k⊢;rcases k with k|⟨b,q,c,e⟩;·exact Or.inl k
  ·exact Or.inr ⟨b,q,c,h q v e⟩
theorem kD.step(h:kD l S)(h1:∀i v,S i v=true->S' i v=true)(h2:∀i v,S' i v=true->S i v=true\/iX l S i v=true):kD l S':=⟨λi v k=>by
  rcases h2 i v k with k|k;·exact h.sound i v k
  ·exact Mt h.sound k,λi v k=>by
  rcases h2 i v k with k|k;·exact Cf h1 (h.post i v k)
  ·exact Cf h1 k⟩
theorem kD.all(h:kD l S)(hf:∀i v,iX l S i v=true->S i v=true)(i v:Nat):S i v=true↔Live l i (v:Int):=by refine⟨h.sound i v,λk=>?_⟩;generalize hw:(v:Int)=w at k;induction k with|use a hu=>refine hf _ _ ?_;unfold iX;rw[a];simp only[qji,jqv,jqz];exact Or.inl ⟨_,hu,hw.symm⟩|pass a b hk _ ih=>refine hf _ _ ?_;unfold iX;rw[a];simp only[qji,jqv,qqn,jxl];exact Or.inr ⟨by rw[hw];exact b,_,hk,ih hw⟩
end
def qH(S:Nat->Bool):Nat->Nat|0=>0|n+1=>qH S n+(if S n then 0 else 1)
theorem tF{S S':Nat->Bool}(h:∀i,S i=true->S' i=true):∀n,qH S' n<=qH S n|0=>qqf _|n+1=>by have:=tF h n;unfold qH;cases e:S n with|true=>rw[h n e];simpa using this|false=>split<;>simp<;>omega
theorem Fu{S S':Nat->Bool}(h:∀i,S i=true->S' i=true){i:Nat}(h1:S i=false)(h2:S' i=true):∀n,i<n->qH S' n<qH S n
 |0,k=>by omega|n+1,k=>by
  unfold qH;by_cases e:i=n;·subst e;have:=tF h i;rw[h1,h2];simp;omega
  ·have:=Fu h h1 h2 n oqo;cases e:S n with|true=>rw[h n e];simpa using this|false=>split<;>simp<;>omega
def kE(S:Nat->Nat->Bool)(m:Nat):Nat->Nat|0=>0|n+1=>kE S m n+qH (S n) m
theorem FJ{S S':Nat->Nat->Bool}(h:∀i v,S i v=true->S' i v=true)(m:Nat):∀n,kE S' m n<=kE S m n|0=>qqf _|n+1=>by have:=FJ h m n;have:=tF (h n) m;unfold kE;omega
theorem Fa{S S':Nat->Nat->Bool}(h:∀i v,S i v=true->S' i v=true){i v m:Nat}(hv:v<m)(h1:S i v=false)(h2:S' i v=true):∀n,i<n->kE S' m n<kE S m n
 |0,k=>by omega|n+1,k=>by
  unfold kE;by_cases e:i=n;·subst e;have:=FJ h m i;have:=Fu (h i) h1 h2 m hv;omega
  ·have:=Fa h hv h1 h2 n oqo;have:=tF (h n) m;omega
def eT(p:Nat->Bool)(l:List In)(i:Nat):List In:=(List.range l.length).map λj=>if j<i/\p j=true then{}else l.getD j {}
section
variable {p:Nat->Bool}{l:List In}{i j:Nat}
theorem nP(p:Nat->Bool)(l:List In)(i:Nat):(eT p l i).length=l.length:=by unfold eT;simp
theorem xR(p:Nat->Bool)(i:Nat)(hj:j<l.length):(eT p l i)[j]? =some (if j<i/\p j=true then{}else l.getD j {}):=by unfold eT;rw[qqp,qqz hj];rfl
theorem um(p:Nat->Bool)(hj:i<=j):(eT p l i)[j]? =l[j]?:=by
 by_cases h:j<l.length;·rw[xR p i h,qzc oqo,qqm,qqh h];rfl
 ·rw[qza (by rw[nP];omega),qza oqo]
theorem sD(p:Nat->Bool)(l:List In):eT p l 0=l:=jqq λj=>um p (qqy j)
theorem I9(h:p i=false):eT p l (i+1)=eT p l i:=by
 unfold eT;refine jqg λj _=>?_;by_cases e:j=i;·subst e;rw[qzc (by simp[h]),qzc oqo]
 ·by_cases a:p j=true
  ·by_cases hj:j<i;·rw[qzb ⟨by omega,a⟩,qzb ⟨hj,a⟩]
   ·rw[qzc oqo,qzc oqo]
  ·rw[qzc (λh=>a h.2),qzc (λh=>a h.2)]
theorem Np(h:p i=true)(hi:i<l.length):(eT p l i).set i {}=eT p l (i+1):=by
 apply jqq;intro j;by_cases hj:j<l.length
 ·rw[xR p (i+1) hj];by_cases e:j=i;·subst e;rw[jqn (by rw[nP];exact hj),qzb ⟨by omega,h⟩]
  ·rw[jqt (λc=>e c.symm),xR p i hj];congr 1;by_cases a:p j=true
   ·by_cases hj:j<i;·rw[qzb ⟨hj,a⟩,qzb ⟨by omega,a⟩]
    ·rw[qzc oqo,qzc oqo]
   ·rw[qzc (λh=>a h.2),qzc (λh=>a h.2)]
 ·rw[qza (by rw[qjg,nP];omega),qza (by rw[nP];omega)]
open Classical in theorem CG(l:List In):bn l=eT (λj=>decide (¬Reach l j/\j+1<l.length)) l l.length:=by
 unfold bn eT;refine jqg λj hj=>?_;rw[qzg]at hj;by_cases h:¬Reach l j/\j+1<l.length;·rw[qzb h,qzb ⟨hj,qqx h⟩]
 ·rw[qzc h,qzc (λc=>h (jxu c.2))]
open Classical in theorem I6(l:List In):bL l=eT (λj=>eO (l.getD j {})&&decide (¬Live l (j+1) (l.getD j {}).v)) l l.length:=by
 unfold bL eT;refine jqg λj hj=>?_;rw[qzg]at hj;by_cases h:eO (l.getD j {})=true/\¬Live l (j+1) (l.getD j {}).v;·rw[qzb h,qzb ⟨hj,(show(eO (l.getD j {})&&decide (¬Live l (j+1) (l.getD j {}).v))=true by rw[h.1,qqx h.2];rfl)⟩]
 ·rw[qzc h,qzc (λc=>h (by have:(eO (l.getD j {})&&decide (¬Live l (j+1) (l.getD j {}).v))=true:=c.2;rw[qqn]at this;exact⟨this.1,jxu this.2⟩))]
def sU(l:List In)(j:Nat):Bool:=decide (j+1<l.length)&&((l.getD j {}).op==13&&decide ((j:Int)<(l.getD j {}).to)&&ku l (j+1) (l.getD j {}).to.toNat)
theorem M0(l:List In):∀(r:List In)(i:Nat),l.drop i=r->dP i l r=(List.range r.length).map λj=>if sU l (i+j)=true then{}else l.getD (i+j) {}
 |[],i,h=>by simp[dP]|[x],i,h=>by
  have hl:l.length=i+1:=by have:=jqi List.length h;simp at this;omega
  have a:l.getD i {}=x:=by have:=jqi (λq:List In=>q[0]?) h;simp at this;rw[qqm,this];rfl
  simp only[dP,qzv,jxp,qja,List.range_one,jqw,List.map_nil,qzz];rw[qzc (by unfold sU;rw[hl];simp),a]|x::y::r,i,h=>by
  have a:l.getD i {}=x:=by have:=jqi (λq:List In=>q[0]?) h;simp at this;rw[qqm,this];rfl
  have hl:i+1<l.length:=by have:=jqi List.length h;simp at this;omega
  have hr:l.drop (i+1)=y::r:=by rw[<-List.drop_drop,h];rfl
  rw[show dP i l (x::y::r)=(if x.op=13/\(i:Int)<x.to/\ku l (i+1) x.to.toNat=true then{}else x)::dP (i+1) l (y::r)from rfl,M0 l (y::r) (i+1) hr];rw[show(x::y::r).length=(y::r).length+1 from rfl,List.range_succ_eq_map,jqw,qzx];congr 1
  ·simp only[qzz];rw[a];by_cases c:x.op=13/\(i:Int)<x.to/\ku l (i+1) x.to.toNat=true;·rw[qzb c,qzb (by unfold sU;rw[a];simp only[qqn,qqu,jqz];exact⟨hl,⟨c.1,c.2.1⟩,c.2.2⟩)]
   ·rw[qzc c,qzc (by unfold sU;rw[a];simp only[qqn,qqu,jqz];exact λh=>c ⟨h.2.1.1,h.2.1.2,h.2.2⟩)]
  ·refine jqg λj _=>?_;simp only[Function.comp];rw[show i+1+j=i+(j+1)by omega]
theorem Lu(l:List In):mg l=eT (sU l) l (l.length-1):=by
 unfold mg;rw[M0 l l 0 rfl];unfold eT;refine jqg λj hj=>?_;rw[qzg]at hj;rw[qja];by_cases h:sU l j=true
 ·have h1:j+1<l.length:=by have:=h;unfold sU at this;rw[qqn,qqu]at this;exact this.1
  rw[qzb h,qzb ⟨by omega,h⟩]
 ·rw[qzc h,qzc (λc=>h c.2)]
end
structure ae.Ok(b:ae)(n:Int):Prop where
 cp:∀v o,b.cp v=some o->0<=o/\o<n
 cB:∀o x y v,b.cB o x y=some v->0<=v/\v<n
def okI(p:PrW)(f:FnP)(x:In):Prop:=x={}\/dJ p f x=true
theorem ae.nY(n:Int):ae.new.Ok n:=⟨λ_ _ h=>(by cases h),λ_ _ _ _ h=>(by cases h)⟩
theorem ae.Ok.put{b:ae}{n:Int}(h:b.Ok n)(v:Int):(b.put v).Ok n:=⟨λx o e=>by
  simp only[ae.put]at e;split at e;·cases e
  ·split at e;·cases e
   ·exact h.cp x o e,λo x y u e=>by
  simp only[ae.put]at e;split at e;·cases e
  ·split at e;·cases e
   ·exact h.cB o x y u e⟩
theorem ae.Ok.root{b:ae}{n:Int}(h:b.Ok n){v:Int}(hv:0<=v/\v<n):0<=b.root v/\b.root v<n:=by unfold ae.root;cases e:b.cp v with|none=>exact hv|some o=>exact h.cp v o e
theorem Qq{has:Bool}{k m:Int}:eQ has k m=true↔0<=k/\(if has then k<m else k=0):=by unfold eQ;cases has<;>simp
theorem cz{p:PrW}{f:FnP}{x:In}:dJ p f x=true↔(1<=x.op/\x.op<=14)/\(0<=x.v/\(if eU x.op then x.v<f.vars else x.v=0))/\(0<=x.a/\(if fe x.op then x.a<f.vars else x.a=0))/\(0<=x.b/\(if hasB x.op then x.b<f.vars else x.b=0))/\(0<=x.f/\(if mD x.op then x.f<p.fns.length else x.f=0))/\(0<=x.arr/\(if sG x.op then x.arr<p.arrays.length else x.arr=0))/\(0<=x.to/\(if iG x.op then x.to<f.code.length else x.to=0))/\(vJ x.op=true\/x.n=0)/\(if mK x.op then x.bin∈jE else x.bin=0)/\(x.args.length:Int)=fG p x/\∀v∈x.args,0<=v/\v<f.vars:=by unfold dJ;simp only[qqn,qqu,Qq,qji,qqw];cases mK x.op<;>simp[and_assoc]
theorem yB{p:PrW}{f:FnP}{v a:Int}(hv:0<=v/\v<f.vars)(ha:0<=a/\a<f.vars):dJ p f (aQ v a)=true:=by rw[cz];simp[aQ,eU,fe,hasB,mD,sG,iG,vJ,mK,fG,hv,ha]
theorem uP{p:PrW}{f:FnP}{v n:Int}(hv:0<=v/\v<f.vars):dJ p f (fC v n)=true:=by rw[cz];simp[fC,eU,fe,hasB,mD,sG,iG,vJ,mK,fG,hv]
theorem EG{p:PrW}{f:FnP}{x:In}(h:dJ p f x=true):okI p f (aJ x):=by
 unfold aJ;split;·exact Or.inl rfl
 ·exact Or.inr h
theorem CW{p:PrW}{f:FnP}{x:In}(h:dJ p f x=true)(k:eU x.op=true):0<=x.v/\x.v<f.vars:=by have:=(cz.1 h).2.1;rw[qzb k]at this;exact this
theorem CJ{p:PrW}{f:FnP}{x:In}(h:dJ p f x=true)(k:fe x.op=true):0<=x.a/\x.a<f.vars:=by have:=(cz.1 h).2.2.1;rw[qzb k]at this;exact this
theorem Rh{p:PrW}{f:FnP}{x:In}(h:dJ p f x=true)(k:hasB x.op=true):0<=x.b/\x.b<f.vars:=by have:=(cz.1 h).2.2.2.1;rw[qzb k]at this;exact this
theorem rD{p:PrW}{f:FnP}{x:In}(h:dJ p f x=true)(k:iG x.op=true):0<=x.to/\x.to<f.code.length:=by have:=(cz.1 h).2.2.2.2.2.2.1;rw[qzb k]at this;exact this
theorem DL{p:PrW}{f:FnP}{x:In}(h:dJ p f x=true):∀v∈x.args,0<=v/\v<f.vars:=(cz.1 h).2.2.2.2.2.2.2.2.2.2
theorem MW{p:PrW}{f:FnP}{b:ae}{x:In}(g:b.Ok f.vars)(h:dJ p f x=true):dJ p f (b.rooted x)=true:=by
 have a:=cz.1 h;unfold ae.rooted;split
 ·rename_i e;have c:fe x.op=true:=by unfold fe;unfold hasB at e;simp only[qji,jqz]at e⊢;omega
  have d:=g.root (CJ h c);have k:=g.root (Rh h e);rw[cz];refine⟨a.1,a.2.1,⟨d.1,by simp only[c,jzo];exact d.2⟩,⟨k.1,by simp only[e,jzo];exact k.2⟩,a.2.2.2.2⟩
 ·split;·rename_i c;have d:=g.root (CJ h c);rw[cz];refine⟨a.1,a.2.1,⟨d.1,by simp only[c,jzo];exact d.2⟩,a.2.2.2⟩
  ·split
   ·rw[cz];refine⟨a.1,a.2.1,a.2.2.1,a.2.2.2.1,a.2.2.2.2.1,a.2.2.2.2.2.1,a.2.2.2.2.2.2.1,a.2.2.2.2.2.2.2.1,a.2.2.2.2.2.2.2.2.1,?_,?_⟩;·rw[qqv];exact a.2.2.2.2.2.2.2.2.2.1
    ·intro v hv;obtain⟨u,hu,rfl⟩:=qjb.1 hv;exact g.root (DL h u hu)
   ·exact h
theorem ES{p:PrW}{f:FnP}{b:ae}{x:In}(a:x.op=2)(h:dJ p f x=true):okI p f (b.dQ x):=by
 unfold ae.dQ;split;·exact Or.inl rfl
 ·split;·exact Or.inr (uP (CW h (by rw[a];rfl)))
  ·exact Or.inr h
theorem O0{p:PrW}{f:FnP}{x:In}{n m:Option Int}(a:x.op=3)(h:dJ p f x=true):okI p f (au x n m):=by
 have hv:=CW h (by rw[a];rfl);have ha:=CJ h (by rw[a];rfl);have e:=Rh h (by rw[a];rfl);have b:=EG (yB (p:=p) hv e);have d:=EG (yB (p:=p) hv ha);have g:okI p f (fC x.v 0):=Or.inr (uP hv);have k:okI p f x:=Or.inr h;have key:∀(c:Prop) [Decidable c](y z:In),okI p f y->okI p f z->okI p f (if c then y else z):=λc _ y z h1 h2=>by
  by_cases hc:c;·rw[qzb hc];exact h1
  ·rw[qzc hc];exact h2
 unfold au;exact key _ _ _ b (key _ _ _ d (key _ _ _ b (key _ _ _ d (key _ _ _ g k))))
theorem Sv{D:Nat->Int->Int->Int}{p:PrW}{f:FnP}{b:ae}{x:In}(a:b.Ok f.vars)(c:x.op=3)(h:dJ p f x=true):okI p f (b.gU D x):=by
 have hv:=CW h (by rw[c];rfl);unfold ae.gU;split;·exact Or.inr (uP hv)
 ·split
  ·rename_i v d;split;·exact Or.inl rfl
   ·exact ES rfl (yB hv (a.root (a.cB _ _ _ _ d)))
  ·exact O0 c h
theorem SF{D:Nat->Int->Int->Int}{arr:List Int}{p:PrW}{f:FnP}{b:ae}{x:In}(d:b.Ok f.vars)(h:dJ p f x=true):okI p f (b.bE D arr x):=by
 unfold ae.bE;split;·rename_i a;exact ES a h
 ·split;·rename_i a;exact Sv d a h
  ·split
   ·split
    ·split;·exact Or.inl rfl
     ·exact Or.inr h
    ·exact Or.inr h
   ·split
    ·split
     ·split;·exact Or.inl rfl
      ·exact Or.inr h
     ·exact Or.inr h
    ·split
     ·rename_i c;split
      ·split;·right;have ht:=rD h (by rw[c];rfl);rw[cz];simp[eU,fe,hasB,mD,sG,iG,vJ,mK,fG,ht]
       ·exact Or.inl rfl
      ·exact Or.inr h
     ·exact Or.inr h
theorem sW{D:Nat->Int->Int->Int}{arr:List Int}{p:PrW}{f:FnP}{b:ae}{x:In}(a:b.Ok f.vars)(h:dJ p f x=true):okI p f (b.shorter D arr x):=SF a (MW a h)
theorem ae.Ok.does{p:PrW}{f:FnP}{b:ae}{x:In}(g:b.Ok f.vars)(h:okI p f x):(b.does x).Ok f.vars:=by
 rcases h with rfl|h;·exact g
 unfold ae.does bG;by_cases d:eU x.op=true
 ·rw[qzb d];have hv:=CW h d;have a:=g.put x.v;have m:∀c:ae,c.Ok f.vars->∀v n,(c.jw v n).Ok f.vars:=λc hc v n=>⟨hc.cp,hc.cB⟩;simp only[];split;·exact m _ a _ _
  ·split
   ·rename_i h2;have ha:=CJ h (by rw[h2];rfl);have k:((b.put x.v).aZ x.v x.a).Ok f.vars:=⟨λu o e=>by
     simp only[ae.aZ]at e;split at e;·cases e;exact ha
     ·exact a.cp u o e,a.cB⟩;split;·exact m _ k _ _
    ·exact k
   ·split
    ·split;·exact⟨a.cp,λo y z u e=>by
       simp only[ae.pE]at e;split at e;·cases e;exact hv
       ·exact a.cB o y z u e⟩
     ·exact a
    ·exact a
 ·rw[qzc d];exact g
theorem iQ(D:Nat->Int->Int->Int)(arr:List Int)(lead:Nat->Bool):∀(l:List In)(i:Nat)(b:ae),(bD D arr lead i b l).length=l.length|[],_,_=>rfl|x::l,i,b=>by simp[bD,iQ D arr lead l]
theorem BI{D:Nat->Int->Int->Int}{arr:List Int}{p:PrW}{f:FnP}{lead:Nat->Bool}:∀(l:List In)(i:Nat)(b:ae),b.Ok f.vars->(∀x∈l,dJ p f x=true)->∀y∈bD D arr lead i b l,okI p f y
 |[],_,_,_,_,_,h=>by cases h|x::l,i,b,c,hl,y,h=>by
  simp only[bD,qzh]at h;have a:(if lead i then ae.new else b).Ok f.vars:=by
   split;·exact ae.nY _
   ·exact c
  have hs:=sW (D:=D) (arr:=arr) a (hl x (by simp));rcases h with rfl|h;·exact hs
  ·exact BI l (i+1) _ (a.does hs) (λz hz=>hl z (by simp[hz])) y h
theorem GH{D:Nat->Int->Int->Int}{arr:List Int}{b:ae}{x:In}(h:x.op=12):(b.shorter D arr x).op=12:=by unfold ae.shorter ae.bE ae.rooted;simp[h,fe,hasB]
theorem xB{D:Nat->Int->Int->Int}{arr:List Int}{lead:Nat->Bool}:∀(l:List In)(i:Nat)(b:ae),(∃x,l.getLast? =some x/\x.op=12)->∃x,(bD D arr lead i b l).getLast? =some x/\x.op=12|[],_,_,⟨x,h,_⟩=>by cases h|[x],i,b,⟨y,h,h2⟩=>by simp at h;subst h;exact⟨(if lead i then ae.new else b).shorter D arr x,rfl,GH h2⟩|x::y::l,i,b,⟨z,h,h2⟩=>by obtain⟨u,hu,a⟩:=xB (D:=D) (arr:=arr) (lead:=lead) (y::l) (i+1) ((if lead i then ae.new else b).does ((if lead i then ae.new else b).shorter D arr x)) ⟨z,by simpa using h,h2⟩;refine⟨u,?_,a⟩;simp only[bD]at hu⊢;rw[List.getLast?_cons_cons];exact hu
theorem Nc{l:List In}{F:Nat->In}(hF:∀i,i<l.length->F i={}\/F i=l.getD i {}):∀y∈(List.range l.length).map F,y={}\/y∈l:=λy a=>by
 obtain⟨i,hi,rfl⟩:=qjb.1 a;have hi:=qzg.1 hi;rcases hF i hi with h|h;·exact Or.inl h
 ·right;rw[h,qqm,qqh hi];exact List.getElem_mem hi
theorem xm{l:List In}:∀y∈bn l,y={}\/y∈l:=Nc λi _=>by
 by_cases h:¬Reach l i/\i+1<l.length;·rw[qzb h];exact Or.inl rfl
 ·rw[qzc h];exact Or.inr rfl
theorem OL{l:List In}:∀y∈bL l,y={}\/y∈l:=Nc λi _=>by
 by_cases h:eO (l.getD i {})=true/\¬Live l (i+1) (l.getD i {}).v;·rw[qzb h];exact Or.inl rfl
 ·rw[qzc h];exact Or.inr rfl
theorem kR(l:List In):(bn l).length=l.length:=by simp[bn]
theorem tC(l:List In):(bL l).length=l.length:=by simp[bL]
theorem Bu:∀(i:Nat)(l r:List In),(dP i l r).length=r.length|_,_,[]=>rfl|_,_,[x]=>rfl|i,l,x::y::r=>by simp only[dP,qzv];rw[Bu (i+1) l (y::r)];rfl
theorem GY:∀(i:Nat)(l r:List In),∀z∈dP i l r,z={}\/z∈r
 |_,_,[],z,h=>by cases h|_,_,[x],z,h=>Or.inr h|i,l,x::y::r,z,h=>by
  simp only[dP,qzh]at h;rcases h with h|h
  ·split at h;·exact Or.inl h
   ·right;rw[h];simp
  ·rcases GY (i+1) l (y::r) z h with h|h;·exact Or.inl h
   ·right;simp only[qzh]at h⊢;exact Or.inr h
theorem Et:∀(i:Nat)(l r:List In),(dP i l r).getLast? =r.getLast?
 |_,_,[]=>rfl|_,_,[x]=>rfl|i,l,x::y::r=>by
  have h:=Et (i+1) l (y::r);simp only[dP];have c:dP (i+1) l (y::r)≠[]:=by intro e;have:=Bu (i+1) l (y::r);rw[e]at this;simp at this
  rw[List.getLast?_cons_cons,<-h];cases b:dP (i+1) l (y::r)with|nil=>exact absurd b c|cons a t=>rw[List.getLast?_cons_cons]
theorem Cq{l:List In}{x:In}:l.getLast? =some x↔l≠[]/\l.getD (l.length-1) {}=x:=by rw[jxb,qqm];cases l with|nil=>simp|cons y l=>simp
theorem E8{l:List In}{x:In}(h:l.getLast? =some x):(bn l).getLast? =some x:=by have hl:=Cq.1 h;have a:0<l.length:=List.length_pos_iff.2 hl.1;rw[jxb,kR];unfold bn;rw[qqp,qqz oqo];simp only[jqb];rw[qzc oqo,hl.2]
theorem LU{l:List In}{x:In}(h:l.getLast? =some x)(a:x.op=12):(bL l).getLast? =some x:=by have hl:=Cq.1 h;have b:0<l.length:=List.length_pos_iff.2 hl.1;rw[jxb,tC];unfold bL;rw[qqp,qqz oqo];simp only[jqb];rw[hl.2,qzc (by rintro⟨h1,_⟩;simp[eO,a]at h1)]
theorem JL{l:List In}{x:In}(h:l.getLast? =some x)(a:x.op=12):(dH l).getLast? =some x:=by unfold dH mg;rw[Et];exact LU (E8 h) a
theorem nZ(l:List In):(dH l).length=l.length:=by unfold dH mg;rw[Bu,tC,kR]
theorem ve{l:List In}:∀y∈dH l,y={}\/y∈l:=λy a=>by
 rcases GY _ _ _ y a with h|h;·exact Or.inl h
 rcases OL y h with h|h;·exact Or.inl h
 exact xm y h
theorem tJ(l:List In):(bT l).length=atW l l.length:=by simp[bT,atW]
theorem Wp(l:List In){i j:Nat}(h:i<=j):atW l i<=atW l j:=by unfold atW;obtain⟨k,rfl⟩:∃k,j=i+k:=⟨j-i,by omega⟩;rw[List.take_add,List.filter_append,qzl];omega
theorem Br{l:List In}{i:Nat}{x:In}(h:l[i]? =some x):atW l (i+1)=atW l i+(if x.op !=0 then 1 else 0):=by
 unfold atW;rw[jqu,h,List.filter_append,qzl];congr 1;simp only[Option.toList_some];by_cases a:(x.op !=0)=true;·rw[qzb a,jzr,qzb a];rfl
 ·rw[qzc a,jzr,qzc a];rfl
theorem RJ{l:List In}{x:In}(h:l.getLast? =some x)(a:x.op≠0){i:Nat}(hi:i<l.length):atW l i<atW l l.length:=by rw[jxb]at h;have h1:=Br h;rw[show l.length-1+1=l.length by omega,qzb (by simpa using a)]at h1;have:=Wp l (show i<=l.length-1 by omega);omega
theorem Gf{l:List In}{x:In}(h:l.getLast? =some x)(a:x.op=12):(bT l).getLast? =some x:=by obtain⟨t,rfl⟩:=List.getLast?_eq_some_iff.1 h;unfold bT;rw[List.filter_append,jxf,jzr,qzb (by simp[a])];simp[a]
theorem Mq{p p':PrW}{f c:FnP}{l:List In}(hv:c.vars=f.vars)(hc:f.code.length=l.length)(g:c.code=bT l)(ha:p'.arrays.length=p.arrays.length)(hf:p'.fns.map (·.params)=p.fns.map (·.params))(hl:∀x∈l,okI p f x){z:In}(hz:l.getLast? =some z)(q:z.op=12):∀y∈bT l,dJ p' c y=true:=λy e=>by
 unfold bT at e;obtain⟨x,m,rfl⟩:=qjb.1 e;obtain⟨n,o⟩:=jzt.1 m;rcases hl x n with rfl|h;·simp at o
 have hn:p'.fns.length=p.fns.length:=by have:=jqi List.length hf;simpa using this
 have hm:fG p' x=fG p x:=by
  unfold fG;have:∀i:Nat,(p'.fns[i]?).map (·.params)=(p.fns[i]?).map (·.params):=λi=>by rw[<-qqp,<-qqp,hf]
  rw[this]
 have a:=cz.1 h;by_cases d:x.op=13\/x.op=14
 ·rw[qzb d];have b:iG x.op=true:=by unfold iG;simpa using d
  have ht:=rD h b;have k:=RJ hz oqo (i:=x.to.toNat) oqo;rw[<-tJ,<-g]at k;rw[cz,hv,hn,ha];refine⟨a.1,a.2.1,a.2.2.1,a.2.2.2.1,a.2.2.2.2.1,a.2.2.2.2.2.1,⟨by simp only[];omega,by rw[qzb b];simp only[];omega⟩,a.2.2.2.2.2.2.2.1,a.2.2.2.2.2.2.2.2.1,?_,a.2.2.2.2.2.2.2.2.2.2⟩;rw[show fG p' {x with to:=(atW l x.to.toNat:Nat)}=fG p' x from rfl,hm];exact a.2.2.2.2.2.2.2.2.2.1
 ·rw[qzc d,cz,hv,hn,ha,hm];have b:iG x.op=false:=by unfold iG;simp only[Bool.or_eq_false_iff,qqe];omega
  refine⟨a.1,a.2.1,a.2.2.1,a.2.2.2.1,a.2.2.2.2.1,a.2.2.2.2.2.1,?_,a.2.2.2.2.2.2.2⟩;have:=a.2.2.2.2.2.2.1;rw[b]at this⊢;exact this
