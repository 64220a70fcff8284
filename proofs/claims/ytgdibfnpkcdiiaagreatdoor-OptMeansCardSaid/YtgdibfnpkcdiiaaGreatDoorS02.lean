/- Joint text: OSimD, OSimE, OSimF, MLaw, OLit. By an AI agent. -/
import Derived.Test.YtgdibfnpkcdiiaaGreatDoorS01
set_option linter.all false
set_option maxRecDepth 100000
set_option maxHeartbeats 64000000
namespace Go.Proofs.YtgdibfnpkcdiiaaGreatDoor
def jf{α:Type}(R:α->Nat->Prop)(e:α->Nat):List α->Prop|g::h::l=>R g (e h)/\jf R e (h::l)|_=>True
section
variable {α:Type}{R:α->Nat->Prop}{e:α->Nat}{g g' h:α}
def nJ(hi:e g'=e g):∀(l:List α),jf R e (l++[g])->jf R e (l++[g'])|[],_=>trivial|[a],h=>by simp only[jqm,jzj,jf]at h⊢;rw[hi];exact h|a::b::l,h=>by simp only[jqm,jf]at h⊢;exact⟨h.1,nJ hi (b::l) h.2⟩
def zZ(hi:R g (e h)):∀(l:List α),jf R e (l++[g])->jf R e ((l++[g])++[h])|[],_=>⟨hi,trivial⟩|[a],k=>by simp only[jqm,jzj,jf]at k⊢;exact⟨k.1,hi,trivial⟩|a::b::l,k=>by simp only[jqm,jf]at k⊢;exact⟨k.1,zZ hi (b::l) k.2⟩
def uJ:∀(l:List α),jf R e ((l++[g])++[h])->jf R e (l++[g])/\R g (e h)|[],k=>⟨trivial,k.1⟩|[a],k=>by simp only[jqm,jzj,jf]at k⊢;exact⟨⟨k.1,trivial⟩,k.2.1⟩|a::b::l,k=>by simp only[jqm,jf]at k⊢;exact⟨⟨k.1,(uJ (b::l) k.2).1⟩,(uJ (b::l) k.2).2⟩
end
structure Alike(L:Int->Prop)(a b:List Int):Prop where
 len:a.length=b.length
 at':∀v,0<=v->L v->Vl a v=Vl b v
def oL(x:In)(n:Int)(vars:List Int):List Int:=match bD x with|none=>vars|some v=>vars.set v.toNat n
section
variable (D:Nat->Int->Int->Int)(p q:PrW)(pos:Nat->Nat->Nat)(L:Nat->Nat->Int->Prop)
def FrR(g:FrM×FrM)(into:Nat):Prop:=g.2.f=g.1.f/\g.2.into=g.1.into/\g.2.i=pos g.1.f g.1.i/\∀n,Alike (L g.1.f g.1.i) (g.1.vars.set into n) (g.2.vars.set into n)
structure SR(s t:MS):Prop where
 inp:t.inp=s.inp
 arr:t.arr=s.arr
 evs:t.evs=s.evs
 ended:t.ended=s.ended
 base:∃Z:List (FrM×FrM),s.base=Z.map (·.1)/\t.base=Z.map (·.2)/\jf (FrR pos L) (λg=>g.1.into) (Z++[(s.top,t.top)])f:t.top.f=s.top.f
 into:t.top.into=s.top.into
 top:s.ended=false->t.top.i=pos s.top.f s.top.i/\Alike (L s.top.f s.top.i) s.top.vars t.top.vars
def Xn(f i:Nat)(x:In)(vars vars':List Int):Prop:=x.op∈[0,1,2,3,13]/\∀i2 a,i2∈bN x i->jC D x vars a->pos f i2=pos f i/\Alike (L f i2) a vars'
structure XW(f i:Nat)(x:In)(vars vars':List Int)(y:In):Prop where
 at':atM q f (pos f i)=some y
 eq:y={x with to:=y.to}to:jq x.op=true->y.to.toNat=pos f x.to.toNat
 next:pos f (i+1)=pos f i+1
 uses:∀u∈dX x,Vl vars u=Vl vars' u
 alike:∀i2∈bN x i,∀n,Alike (L f i2) (oL x n vars) (oL x n vars')
variable {D p q pos L}{s t:MS}
def SR.to'(h:SR pos L s t){s' a:MS}(n:s'.base=s.base)(o:a.base=t.base)(j:s'.top.into=s.top.into)(ti:a.top.into=t.top.into)(i:s'.top.f=s.top.f)(u:a.top.f=t.top.f)(h1:a.inp=s'.inp)(h2:a.arr=s'.arr)(h3:a.evs=s'.evs)(m:a.ended=s'.ended)(ht:s'.ended=false->a.top.i=pos s.top.f s'.top.i/\Alike (L s.top.f s'.top.i) s'.top.vars a.top.vars):SR pos L s' a:=by obtain⟨Z,v,z2,z3⟩:=h.base;exact⟨h1,h2,h3,m,⟨Z,by rw[n,v],by rw[o,z2],nJ (g:=(s.top,t.top)) (g':=(s'.top,a.top)) j Z z3⟩,by rw[i,u,h.f],by rw[j,ti,h.into],by rw[i];exact ht⟩
def WE(h:SR pos L s t){x:In}(he:s.ended=false)(i:atM p s.top.f s.top.i=some x)(hs:Xn D pos L s.top.f s.top.i x s.top.vars t.top.vars):SR pos L (ic D p s) t:=by
 obtain⟨ho,hs⟩:=hs;obtain⟨ti,_⟩:=h.top he;unfold ic;rw[he,i];simp only[qzr,jxa];by_cases a:x.op=13;·rw[jV oqo,qD D a];refine h.to' rfl rfl rfl rfl rfl rfl h.inp h.arr h.evs h.ended λ_=>?_;obtain⟨k1,k2⟩:=hs x.to.toNat s.top.vars (by unfold bN;rw[qzb a];simp) (kH D (by rw[a];rfl));exact⟨by rw[ti];exact k1.symm,k2⟩
 ·have h3:x.op<=3:=by simp only[qzh,qjh,jzq]at ho;omega
  rw[BM h3];refine h.to' rfl rfl rfl rfl rfl rfl h.inp h.arr h.evs h.ended λ_=>?_;obtain⟨k1,k2⟩:=hs (s.top.i+1) (iZ D x s.top.vars) (by unfold bN;rw[qzc a,qzc oqo,qzc oqo];simp) (OX h3);exact⟨by rw[ti];exact k1.symm,k2⟩
def Zf{x:In}(h:fH x.op=true):x.a∈dX x:=by
 unfold dX;split;·simp
 ·simp
def ZN{x:In}(h:hasB x.op=true):x.b∈dX x:=by unfold dX;rw[qzb h];simp
def ZC{x:In}(h:x.op=11):dX x=x.args:=by unfold dX;rw[qzc (by rw[h];decide),qzc (by rw[h];decide),qzb h]
def VD(h:SR pos L s t){x y:In}(he:s.ended=false)(V:atM p s.top.f s.top.i=some x)(ho:1<=x.op/\x.op<=14)(hv:∀g,fT q g=fT p g)(T:∀f,pos f 0=0)(hm:XW q pos L s.top.f s.top.i x s.top.vars t.top.vars y):SR pos L (ic D p s) (ic D q t):=by
 obtain⟨X,o,N,Y,I,F⟩:=hm;obtain⟨ti,ta⟩:=h.top he;have te:t.ended=false:=by rw[h.ended];exact he
 have W:atM q t.top.f t.top.i=some y:=by rw[h.f,ti];exact X
 have j:y.op=x.op:=by rw[o]
 have ya:y.a=x.a:=by rw[o]
 have yb:y.b=x.b:=by rw[o]
 have z:y.v=x.v:=by rw[o]
 have yn:y.n=x.n:=by rw[o]
 have e0:y.bin=x.bin:=by rw[o]
 have K:y.arr=x.arr:=by rw[o]
 have yf:y.f=x.f:=by rw[o]
 have d0:y.args=x.args:=by rw[o]
 unfold ic;rw[he,te,V,W];simp only[qzr,jxa];rw[jV oqo,jV oqo];have va:fH x.op=true->t.tick.v y.a=s.tick.v x.a:=λe=>by rw[ya];exact(I _ (Zf e)).symm
 have P:hasB x.op=true->t.tick.v y.b=s.tick.v x.b:=λe=>by rw[yb];exact(I _ (ZN e)).symm
 have m:t.tick.top.i=pos s.top.f (s.top.i+1):=by show t.top.i+1=_;rw[ti,Y]
 have O:x.op∉[10,12,13]->s.top.i+1∈bN x s.top.i:=λe=>by
  simp only[qzh,qjh,jzq,not_or]at e;unfold bN;rw[qzc e.2.2];split;·simp
  ·rw[qzc oqo];simp
 have no:fq x.op=false->x.op∉[10,12,13]->Alike (L s.top.f (s.top.i+1)) s.top.vars t.top.vars:=λe H=>by have:=F _ (O H) 0;unfold oL bD at this;rw[e]at this;exact this
 have w:∀n,fq x.op=true->x.op∉[10,12,13]->Alike (L s.top.f (s.top.i+1)) (s.top.vars.set x.v.toNat n) (t.top.vars.set x.v.toNat n):=λn e H=>by have:=F _ (O H) n;unfold oL bD at this;rw[e]at this;exact this
 have E:∀n,¬(s.tick.see 4 n).ended=false:=λn e=>by simp[MS.see]at e
 have M:∀n,¬(s.tick.see 3 n).ended=false:=λn e=>by simp[MS.see]at e
 have se:∀k n,(t.tick.see k n).evs=(s.tick.see k n).evs:=λk n=>by show t.evs++_=s.evs++_;rw[h.evs]
 have v:∀k n,(t.tick.see k n).ended=(s.tick.see k n).ended:=λk n=>by show(t.ended||_)=(s.ended||_);rw[h.ended]
 have G:∀a i,t.tick.cell a i=s.tick.cell a i:=λa i=>by unfold MS.cell;show(if 0<=i then((t.arr[a.toNat]?).getD [])[i.toNat]? else none)=_;rw[h.arr];rfl
 have S:x.op=1\/x.op=2\/x.op=3\/x.op=4\/x.op=5\/x.op=6\/x.op=7\/x.op=8\/x.op=9\/x.op=10\/x.op=11\/x.op=12\/x.op=13\/x.op=14:=oqo;rcases S with e|e|e|e|e|e|e|e|e|e|e|e|e|e;·rw[tZ D e,tZ D (j.trans e),z,yn];exact h.to' rfl rfl rfl rfl rfl rfl h.inp h.arr h.evs h.ended λ_=>⟨m,w _ (by rw[e];rfl) (by rw[e];decide)⟩
 ·rw[uk D e,uk D (j.trans e),z,va (by rw[e];rfl)];exact h.to' rfl rfl rfl rfl rfl rfl h.inp h.arr h.evs h.ended λ_=>⟨m,w _ (by rw[e];rfl) (by rw[e];decide)⟩
 ·rw[uj D e,uj D (j.trans e),z,va (by rw[e];rfl),P (by rw[e];rfl),e0];exact h.to' rfl rfl rfl rfl rfl rfl h.inp h.arr h.evs h.ended λ_=>⟨m,w _ (by rw[e];rfl) (by rw[e];decide)⟩
 ·rw[rC D e,rC D (j.trans e),K,va (by rw[e];rfl),G,z];split;·exact h.to' rfl rfl rfl rfl rfl rfl h.inp h.arr h.evs h.ended λ_=>⟨m,w _ (by rw[e];rfl) (by rw[e];decide)⟩
  ·exact h.to' rfl rfl rfl rfl rfl rfl h.inp h.arr (se _ _) (v _ _) λc=>absurd c (E _)
 ·rw[rf D e,rf D (j.trans e),K,va (by rw[e];rfl),P (by rw[e];rfl),G];split;·exact h.to' rfl rfl rfl rfl rfl rfl h.inp (by show t.arr.set _ ((t.arr[_]?).getD []|>.set _ _)=s.arr.set _ ((s.arr[_]?).getD []|>.set _ _);rw[h.arr]) h.evs h.ended λ_=>⟨m,no (by rw[e];rfl) (by rw[e];decide)⟩
  ·exact h.to' rfl rfl rfl rfl rfl rfl h.inp h.arr (se _ _) (v _ _) λc=>absurd c (E _)
 ·rw[pI D e,pI D (j.trans e),K,va (by rw[e];rfl),G];split;·exact h.to' rfl rfl rfl rfl rfl rfl h.inp h.arr h.evs h.ended λ_=>⟨m,no (by rw[e];rfl) (by rw[e];decide)⟩
  ·exact h.to' rfl rfl rfl rfl rfl rfl h.inp h.arr (se _ _) (v _ _) λc=>absurd c (E _)
 ·rw[pq D e,pq D (j.trans e),va (by rw[e];rfl)];split;·exact h.to' rfl rfl rfl rfl rfl rfl h.inp h.arr (se _ _) (v _ _) λc=>absurd c (E _)
  ·exact h.to' rfl rfl rfl rfl rfl rfl h.inp h.arr h.evs h.ended λ_=>⟨m,no (by rw[e];rfl) (by rw[e];decide)⟩
 ·rw[wZ D e,wZ D (j.trans e),z];have hi:t.tick.inp=s.tick.inp:=h.inp;unfold MS.read;rw[hi];exact h.to' rfl rfl rfl rfl rfl rfl rfl h.arr (se 1 (s.tick.inp.headD 0)) (v 1 (s.tick.inp.headD 0)) λ_=>⟨m,w _ (by rw[e];rfl) (by rw[e];decide)⟩
 ·rw[qX D e,qX D (j.trans e),va (by rw[e];rfl)];exact h.to' rfl rfl rfl rfl rfl rfl h.inp h.arr (se _ _) (v _ _) λ_=>⟨m,no (by rw[e];rfl) (by rw[e];decide)⟩
 ·rw[nP D e,nP D (j.trans e),va (by rw[e];rfl)];exact h.to' rfl rfl rfl rfl rfl rfl h.inp h.arr (se _ _) (v _ _) λc=>absurd c (M _)
 ·rw[ll D e,ll D (j.trans e),yf,z,d0];have Q:x.args.map t.tick.v=x.args.map s.tick.v:=jqj λu hu=>(I u (by rw[ZC e];exact hu)).symm;rw[Q];obtain⟨Z,B,C,z3⟩:=h.base;refine⟨h.inp,h.arr,h.evs,h.ended,⟨Z++[(s.tick.top,t.tick.top)],?_,?_,?_⟩,rfl,rfl,λ_=>⟨(T _).symm,?_⟩⟩;·show s.base++[s.tick.top]=_;rw[B];simp
  ·show t.base++[t.tick.top]=_;rw[C];simp
  ·refine zZ ?_ Z (nJ (g:=(s.top,t.top)) (g':=(s.tick.top,t.tick.top)) rfl Z z3);exact⟨h.f,h.into,m,λn=>w n (by rw[e];rfl) (by rw[e];decide)⟩
  ·show Alike _ (iA (fT p x.f) _) (iA (fT q x.f) _);rw[hv];exact⟨rfl,λ_ _ _=>rfl⟩
 ·rw[nU D e,nU D (j.trans e),va (by rw[e];rfl)];obtain⟨Z,B,C,z3⟩:=h.base;unfold MS.ret;rcases List.eq_nil_or_concat Z with rfl|⟨A,g,rfl⟩;·have J:s.tick.base=[]:=B;have t0:t.tick.base=[]:=C;rw[J,t0];exact h.to' rfl rfl rfl rfl rfl rfl h.inp h.arr (se _ _) (v _ _) λc=>absurd c (M _)
  ·rw[List.concat_eq_append]at B C z3;have J:s.tick.base=A.map (·.1)++[g.1]:=by show s.base=_;rw[B];simp
   have t0:t.tick.base=A.map (·.2)++[g.2]:=by show t.base=_;rw[C];simp
   rw[J,t0];simp only[List.getLast?_concat,jxv];obtain⟨c1,c2,c3,c4,c5⟩:=uJ A z3;have U:t.tick.top.into=s.tick.top.into:=h.into;rw[U];exact⟨h.inp,h.arr,h.evs,h.ended,⟨A,rfl,rfl,nJ (g:=g) (g':=({g.1 with vars:=g.1.vars.set s.tick.top.into (s.tick.v x.a)},{g.2 with vars:=g.2.vars.set s.tick.top.into (s.tick.v x.a)})) rfl A c1⟩,c2,c3,λ_=>⟨c4,c5 _⟩⟩
 ·rw[qD D e,qD D (j.trans e)];refine h.to' rfl rfl rfl rfl rfl rfl h.inp h.arr h.evs h.ended λ_=>⟨N (by rw[e];rfl),?_⟩;have:=F x.to.toNat (by unfold bN;rw[qzb e];simp) 0;unfold oL bD at this;rw[e]at this;exact this
 ·rw[lK D e,lK D (j.trans e),va (by rw[e];rfl)];split;·refine h.to' rfl rfl rfl rfl rfl rfl h.inp h.arr h.evs h.ended λ_=>⟨N (by rw[e];rfl),?_⟩;have:=F x.to.toNat (by unfold bN;rw[qzc oqo,qzb e];simp) 0;unfold oL bD at this;rw[e]at this;exact this
  ·exact h.to' rfl rfl rfl rfl rfl rfl h.inp h.arr h.evs h.ended λ_=>⟨m,no (by rw[e];rfl) (by rw[e];decide)⟩
def xn(hv:∀g,fT q g=fT p g)(a:∀f,pos f 0=0)(hl:∀f i x vars vars',atM p f i=some x->Alike (L f i) vars vars'->Xn D pos L f i x vars vars'\/((1<=x.op/\x.op<=14)/\∃y,XW q pos L f i x vars vars' y)):∀(n:Nat)(s t:MS),SR pos L s t->∃m,m<=n/\SR pos L (runN D p n s) (runN D q m t)|0,s,t,h=>⟨0,qqf _,h⟩|n+1,s,t,h=>by cases he:s.ended with
  |true=>
   have e:ic D p s=s:=by unfold ic;rw[he];rfl
   obtain⟨m,h1,h2⟩:=xn hv a hl n s t h;exact⟨m,by omega,by simp only[runN];rw[e];exact h2⟩
  |false=>cases j:atM p s.top.f s.top.i with|none=>
    have e:ic D p s=s:=by unfold ic;rw[he,j];rfl
    obtain⟨m,h1,h2⟩:=xn hv a hl n s t h;exact⟨m,by omega,by simp only[runN];rw[e];exact h2⟩|some x=>
    rcases hl _ _ x _ _ j (h.top he).2 with k|⟨ho,y,k⟩;·obtain⟨m,h1,h2⟩:=xn hv a hl n _ t (WE h he j k);exact⟨m,by omega,h2⟩
    ·obtain⟨m,h1,h2⟩:=xn hv a hl n _ _ (VD h he j ho hv a k);exact⟨m+1,by omega,h2⟩
end
def Du{l:List In}{F:Nat->In}{i:Nat}{x:In}(h:l[i]? =some x):((List.range l.length).map F)[i]? =some (F i):=by have:=(qqi.1 h).1;rw[qqp,qqz this];rfl
def qE{l:List In}{i:Nat}{x:In}(h:l[i]? =some x):l.getD i {}=x:=by rw[qqm,h];rfl
def Ga:∀(i:Nat)(l r:List In)(j:Nat)(x:In),r[j]? =some x->(eB i l r)[j]? =some (if j+1<r.length/\x.op=13/\((i+j:Nat):Int)<x.to/\lW l (i+j+1) x.to.toNat=true then{}else x)
 |_,_,[],_,_,h=>by simp at h|i,l,[y],j,x,h=>by cases j with|zero=>simp at h;subst h;simp[eB]|succ j=>simp at h
 |i,l,y::z::r,j,x,h=>by cases j with|zero=>simp at h;subst h;simp[eB]|succ j=>have:=Ga (i+1) l (z::r) j x (by simpa using h);simp only[eB,List.getElem?_cons_succ];rw[this];simp only[qzv];rw[show i+1+j=i+(j+1)by omega];simp only[Nat.add_lt_add_iff_right]
def VO{l:List In}{i j:Nat}(h:lW l i j=true){a:Nat}(h1:i<=a)(h2:a<j):(l.getD a {}).op=0:=by unfold lW at h;rw[qqw]at h;rw[qqm];cases m:l[a]? with|none=>rfl|some x=>have:=h x (by apply qqr (i:=a-i);rw[jzs,qzw,qzb oqo,show i+(a-i)=a by omega,m]);simpa using this
def JK(l:List In)(i:Nat):atW l (i+1)=atW l i+(if(l.getD i {}).op !=0 then 1 else 0):=by cases a:l[i]? with|some x=>rw[qE a];exact Cj a|none=>rw[qqm,a];have h:=List.getElem?_eq_none_iff.1 a;unfold atW;rw[jqc h,jqc oqo];rfl
def JI{l:List In}{i:Nat}:∀(k:Nat),(∀j,i<=j->j<i+k->(l.getD j {}).op=0)->atW l (i+k)=atW l i|0,_=>rfl|k+1,h=>by have h1:=JI k λj h1 h2=>h j h1 oqo;rw[<-jqu,JK,h1,h (i+k) oqo oqo];rfl
def Bi(l:List In)(x:In):In:=if x.op=13\/x.op=14 then{x with to:=(atW l x.to.toNat:Nat)}else x
def O5{l:List In}{i:Nat}{x:In}(h:l[i]? =some x)(a:x.op≠0):(bZ l)[atW l i]? =some (Bi l x):=by
 have hi:=(qqi.1 h).1;have e:l=l.take i++x::l.drop (i+1):=by have h1:=(List.take_append_drop i l).symm;rw[jqq hi]at h1;have h2:l[i]=x:=(qqi.1 h).2;rw[h2]at h1;exact h1
 have h3:l.filter (λx=>x.op !=0)=(l.take i).filter (λx=>x.op !=0)++x::(l.drop (i+1)).filter (λx=>x.op !=0):=by
  conv=>lhs;rw[e]
  rw[List.filter_append,jzz,qzb (by simpa using a)]
 show((l.filter λx=>x.op !=0).map _)[((l.take i).filter λx=>x.op !=0).length]? =_;rw[qqp,h3,qze (qqf _),jzg];rfl
section
variable {D:Nat->Int->Int->Int}{p:PrW}{s:MS}{k:Nat}{f:FnP}
def Iq(hf:p.fns[k]? =some f)(ho:∀f i x,atM p f i=some x->x.op<=14)(h0:s.base=[])(h1:s.top.i=0)(n:Nat):runN D (p.code k f (aZ f.code)) n s=runN D p n s:=by
 have key:∀(n:Nat)(s:MS),uK (λq i _=>q=k->Reach f.code i) s->runN D (p.code k f (aZ f.code)) n s=runN D p n s:=by intro n;induction n with|zero=>intro s _;rfl|succ n ih=>
   intro s hJ;simp only[runN];have v:ic D (p.code k f (aZ f.code)) s=ic D p s:=by unfold ic;cases he:s.ended with|true=>rfl|false=>
    simp only[qzr,jxa];rw[nW hf];by_cases a:s.top.f=k
    ·rw[qzb a];have m:atM p s.top.f s.top.i=f.code[s.top.i]?:=by unfold atM;rw[a,hf];rfl
     rw[m];cases o:f.code[s.top.i]? with|none=>rw[qza (by rw[lS];exact List.getElem?_eq_none_iff.1 o)]|some x=>
      have e:(aZ f.code)[s.top.i]? =some x:=by unfold aZ;rw[Du o,qzc (λc=>c.1 (hJ.top he a)),qE o]
      rw[e];exact sj hf x
    ·rw[qzc a];cases atM p s.top.f s.top.i with|none=>rfl|some x=>exact sj hf x
   rw[v];refine ih _ (Gc (λq vars _=>Reach.first) (λy j=>ho _ _ _ j) (λy i2 w j _ hj u _ e=>?_) hJ);have m:atM p s.top.f s.top.i=f.code[s.top.i]?:=by unfold atM;rw[e,hf];rfl
   rw[m]at j;exact Reach.next (hj e) j u
 exact key n s ⟨λ_ _=>by rw[h1];exact Reach.first,by rw[h0];exact trivial⟩
def Alike.set{L i:Int->Prop}{a b:List Int}(h:Alike L a b){v:Int}(hv:0<=v)(hl:∀u,i u->u≠v->L u)(n:Int):Alike i (a.set v.toNat n) (b.set v.toNat n):=by
 refine⟨by simpa using h.len,λu hu j=>?_⟩;by_cases e:u=v
 ·subst e;by_cases hl:u.toNat<a.length;·rw[Fz hl,Fz (by rw[<-h.len];exact hl)]
  ·rw[List.set_eq_of_length_le oqo,List.set_eq_of_length_le (by rw[<-h.len];omega)];unfold Vl;rw[qqm,qqm,qza oqo,qza (by rw[<-h.len];omega)]
 ·rw[gH hv hu e,gH hv hu e];exact h.at' u hu (hl u j e)
def Alike.weak{L i:Int->Prop}{a b:List Int}(h:Alike L a b)(hl:∀u,i u->L u):Alike i a b:=⟨h.len,λu hu j=>h.at' u hu (hl u j)⟩
structure Lu(x:In):Prop where
 op:x.op<=14
 uses:∀u∈dX x,0<=u
 v:fq x.op=true->0<=x.v
 to:0<=x.to
def Ko{l:List In}{i i2:Nat}{x:In}(m:l[i]? =some x)(h0:Lu x)(hi:i2∈bN x i){a b:List Int}(h:Alike (λv=>Live l i v) a b)(n:Int):Alike (λv=>Live l i2 v) (oL x n a) (oL x n b):=by
 unfold oL bD;by_cases j:fq x.op=true;·rw[qzb j];exact h.set (h0.v j) (λu hu o=>Live.pass m (by unfold bD;rw[qzb j];intro c;exact o (jzt c).symm) hi hu) n
 ·rw[qzc j];exact h.weak λu hu=>Live.pass m (by unfold bD;rw[qzc j];intro c;cases c) hi hu
open Classical in def TS(hf:p.fns[k]? =some f)(ho:∀g i x,atM p g i=some x->Lu x/\(g≠k->1<=x.op))(h0:s.base=[])(h1:s.top.i=0)(n:Nat):∃m,m<=n/\(runN D p n s).evs=(runN D (p.code k f (bZ (mR (bO f.code)))) m s).evs/\(runN D p n s).ended=(runN D (p.code k f (bZ (mR (bO f.code)))) m s).ended:=by
 obtain⟨l,hl⟩:∃l,l=f.code:=⟨_,rfl⟩;obtain⟨h,E⟩:∃h,h=mR (bO l):=⟨_,rfl⟩;rw[<-hl,<-E];have V:∀g,(λg i=>if g=k then atW h i else i) g 0=0:=λg=>by
  by_cases e:g=k;·simp only[e,jzo];simp[atW]
  ·simp only[qzc e]
 refine Exists.elim (xn (D:=D) (p:=p) (q:=p.code k f (bZ h)) (pos:=λg i=>if g=k then atW h i else i) (L:=λg i v=>g=k->Live l i v) (λg=>xw hf g) V (λg i x vars vars' G I=>?_) n s s ⟨rfl,rfl,rfl,rfl,⟨[],by rw[h0];rfl,by rw[h0];rfl,trivial⟩,rfl,rfl,λ_=>⟨by rw[h1];exact(V _).symm,rfl,λ_ _ _=>rfl⟩⟩) λm⟨hm,hs⟩=>⟨m,hm,hs.evs.symm,hs.ended.symm⟩;obtain⟨n0,Y⟩:=ho g i x G;by_cases A:g=k
 ·subst A;have C:l[i]? =some x:=by unfold atM at G;rw[hf]at G;rw[hl];exact G
  have z:Alike (λv=>Live l i v) vars vars':=I.weak λu hu _=>hu;have hd:(bO l)[i]? =some (if gJ x=true/\¬Live l (i+1) x.v then{}else x):=by unfold bO;rw[Du C,qE C]
  have U:∀i2,x.op∈[0,1,2,3]->i2∈bN x i->i2=i+1:=λi2 c hi=>by simp only[qzh,qjh,jzq]at c;unfold bN at hi;rw[qzc oqo,qzc oqo,qzc oqo]at hi;simpa using hi
  have W:(h.getD i {}).op=0->atW h (i+1)=atW h i:=λe=>by rw[JK,e];rfl
  by_cases K:gJ x=true/\¬Live l (i+1) x.v
  ·left;rw[qzb K]at hd;have B:=Ga 0 (bO l) (bO l) i _ hd;have hz:(h.getD i {}).op=0:=by rw[E,show mR (bO l)=eB 0 (bO l) (bO l)from rfl,qE B];split<;>rfl
   have i0:x.op=1\/x.op=2\/x.op=3:=by have:=K.1;unfold gJ at this;simpa [or_assoc]using this
   have o:fq x.op=true:=by rcases i0 with e|e|e<;>rw[e]<;>rfl
   refine⟨by simp only[qzh,qjh,jzq];omega,λi2 X y w=>?_⟩;obtain rfl:=U i2 (by simp only[qzh,qjh,jzq];omega) y;refine⟨by simp only[jzo];exact W hz,?_⟩;unfold jC bD at w;rw[qzb o]at w;obtain⟨m,rfl,_⟩:=w;refine⟨by rw[qjg];exact I.len,λu hu J=>?_⟩;have J:=J rfl;have T:u≠x.v:=λc=>K.2 (c▸J);rw[gH (n0.v o) hu T];exact z.at' u hu (Live.pass C (by unfold bD;rw[qzb o];intro c;exact T (jzt c).symm) y J)
  ·rw[qzc K]at hd;have B:=Ga 0 (bO l) (bO l) i _ hd;by_cases M:x.op=0
   ·left;have hz:(h.getD i {}).op=0:=by rw[E,show mR (bO l)=eB 0 (bO l) (bO l)from rfl,qE B,qzc oqo];exact M
    have o:fq x.op=false:=by rw[M];rfl
    refine⟨by simp only[qzh,qjh,jzq];omega,λi2 X y w=>?_⟩;obtain rfl:=U i2 (by simp only[qzh,qjh,jzq];omega) y;refine⟨by simp only[jzo];exact W hz,?_⟩;unfold jC bD at w;rw[o]at w;simp only[qzr,jxa]at w;subst w;exact z.weak λu hu=>Live.pass C (by unfold bD;rw[o];intro c;cases c) y (hu rfl)
   ·by_cases F:i+1<(bO l).length/\x.op=13/\((0+i:Nat):Int)<x.to/\lW (bO l) (0+i+1) x.to.toNat=true
    ·left;rw[qzb F]at B;have hz:(h.getD i {}).op=0:=by rw[E,show mR (bO l)=eB 0 (bO l) (bO l)from rfl,qE B]
     have N:=F.2.1;refine⟨by rw[N];decide,λi2 X y w=>?_⟩;have O:=y;unfold bN at O;rw[qzb N]at O;have d0:i2=x.to.toNat:=by simpa using O
     have m0:i<x.to.toNat:=by have:=F.2.2.1;omega
     have Z:atW h (i+(x.to.toNat-i))=atW h i:=JI _ λj j0 l0=>by
      by_cases e0:j=i;·rw[e0];exact hz
      ·have h3:=VO F.2.2.2 (a:=j) oqo oqo;have H:=uU 0 (bO l) (bO l) j;rw[E];show((eB 0 (bO l) (bO l)).getD j {}).op=0;rcases H with H|H<;>rw[H];exact h3
     refine⟨by simp only[jzo];rw[d0,<-Z];congr 1;omega,?_⟩;have o:fq x.op=false:=by rw[N];rfl
     unfold jC bD at w;rw[o]at w;simp only[qzr,jxa]at w;subst w;exact z.weak λu hu=>Live.pass C (by unfold bD;rw[o];intro c;cases c) y (hu rfl)
    ·right;rw[qzc F]at B;have S:h[i]? =some x:=by rw[E];exact B
     refine⟨⟨by omega,n0.op⟩,Bi h x,?_,?_,?_,?_,?_,?_⟩;·rw[nW hf,qzb rfl,qzb rfl];exact O5 S M
     ·unfold Bi;split<;>rfl
     ·intro Q;simp only[jzo];unfold Bi;rw[qzb (by unfold jq at Q;simpa using Q)];rfl
     ·simp only[jzo];rw[Cj S,qzb (by simpa using M)]
     ·exact λu hu=>z.at' u (n0.uses u hu) (Live.use C hu)
     ·exact λi2 y n=>(Ko C n0 y z n).weak λu hu=>hu rfl
 ·right;have z:∀u,0<=u->Vl vars u=Vl vars' u:=λu hu=>I.at' u hu λc=>absurd c A;refine⟨⟨Y A,n0.op⟩,x,?_,rfl,?_,?_,?_,?_⟩;·simp only[qzc A];rw[nW hf,qzc A];exact G
  ·intro _;simp only[qzc A]
  ·simp only[qzc A]
  ·exact λu hu=>z u (n0.uses u hu)
  ·intro i2 _ n;have P:Alike (λ_=>True) vars vars':=⟨I.len,λu hu _=>z u hu⟩;unfold oL bD;by_cases o:fq x.op=true;·rw[qzb o];exact P.set (n0.v o) (λ_ _ _=>trivial) n
   ·rw[qzc o];exact P.weak λ_ _=>trivial
end
def xM{p:PrW}{f:FnP}{x:In}(h:okI p f x):Lu x:=by
 rcases h with rfl|h;·exact⟨by decide,λu hu=>(by cases hu),λc=>(by cases c),Int.le_refl _⟩
 ·have o:=tu h;refine⟨o.op.2,λu hu=>?_,λc=>(o.v c).1,(dB.1 h).2.2.2.2.2.2.1.1⟩;unfold dX at hu;split at hu
  ·rename_i i;simp only[qzh,qjh,jzq]at hu;rcases hu with rfl|rfl;·exact(dB.1 h).2.2.1.1
   ·exact(o.b i).1
  ·split at hu;·rename_i a;simp only[qzh,qjh,jzq]at hu;rw[hu];exact(o.a a).1
   ·split at hu;·exact(o.args u hu).1
    ·cases hu
def iH(l:List In):Prop:=∀x∈l,I64 x.n
structure af.jh(b:af):Prop where num:∀v n,b.num v=some n->I64 n
section
variable {D:Nat->Int->Int->Int}{arr:List Int}{b:af}
def af.jh.put(h:b.jh)(v:Int):(b.put v).jh:=⟨λx n e=>by
 simp only[af.put]at e;split at e;·cases e
 ·exact h.num x n e⟩
def af.jh.jP(h:b.jh)(v:Int){n:Int}(hn:I64 n):(b.jP v n).jh:=⟨λx m e=>by
 simp only[af.jP]at e;split at e;·cases e;exact hn
 ·exact h.num x m e⟩
def af.jh.does(h:b.jh){x:In}(hn:I64 x.n):(b.does x).jh:=by
 unfold af.does bD;split;·exact h
 ·have a:=λv=>h.put v;split;·exact(a _).jP _ hn
  ·split
   ·split;·rename_i m hm;exact af.jh.jP (b:=(b.put _).aV _ x.a) ⟨(a _).num⟩ _ (h.num _ _ hm)
    ·exact⟨(a _).num⟩
   ·split
    ·split;·exact⟨(a _).num⟩
     ·exact a _
    ·exact a _
def Dp(h:b.jh){x:In}(hn:I64 x.n):I64 (b.dR x).n:=by
 unfold af.dR;split;·exact eY
 ·split;·rename_i n e;exact h.num _ _ e
  ·exact hn
def sN(i:∀o a b,I64 (D o a b))(h:b.jh){x:In}(hn:I64 x.n):I64 (b.shorter D arr x).n:=by
 have hr:I64 (b.rooted x).n:=by
  unfold af.rooted;split;·exact hn
  ·split;·exact hn
   ·split<;>exact hn
 unfold af.shorter;generalize b.rooted x=y at hr;have hm:∀v a,I64 (aS (bn v a)).n:=λv a=>by unfold aS;split<;>exact eY
 unfold af.bB;split;·exact Dp h hr
 ·split
  ·unfold af.iK;split;·exact i _ _ _
   ·split
    ·split;·exact eY
     ·exact Dp h eY
    ·unfold ak;split;·exact hm _ _
     ·split;·exact hm _ _
      ·split;·exact hm _ _
       ·split;·exact hm _ _
        ·split;·exact eY
         ·exact hr
  ·split
   ·split
    ·split;·exact eY
     ·exact hr
    ·exact hr
   ·split
    ·split
     ·split;·exact eY
      ·exact hr
     ·exact hr
    ·split
     ·split
      ·split;·exact eY
       ·exact eY
      ·exact hr
     ·exact hr
def vo(j:∀o a b,I64 (D o a b)){lead:Nat->Bool}:∀(l:List In)(i:Nat)(b:af),b.jh->iH l->iH (bG D arr lead i b l)
 |[],_,_,_,_=>λ_ h=>by cases h|x::l,i,b,n,hl=>λy h=>by
  simp only[bG,qzh]at h;have m:(if lead i then af.new else b).jh:=by
   split;·exact⟨λ_ _ e=>by cases e⟩
   ·exact n
  have hs:=sN (arr:=arr) j m (hl x (by simp));rcases h with rfl|h;·exact hs
  ·exact vo j l (i+1) _ (m.does hs) (λz hz=>hl z (by simp[hz])) y h
def NB(j:∀o a b,I64 (D o a b)){l:List In}(h:iH l):iH (bC D arr l):=λy i=>by
 unfold bC bZ at i;obtain⟨x,m,rfl⟩:=qjb.1 i;have n:=(jxb.1 m).1;have hk:I64 x.n:=by
  rcases wU x n with e|e;·rw[e];exact eY
  ·exact vo j l 0 _ ⟨λ_ _ e=>by cases e⟩ h x e
 split<;>exact hk
def nN(i:∀o a b,I64 (D o a b)){l:List In}(h:iH l):∀n,iH (eP D arr n l)|0=>h|n+1=>NB i (nN i h n)
end
def kD(D:Nat->Int->Int->Int)(p q:PrW):Prop:=∀(inp:List Int),(∀n∈inp,I64 n)->∀n,∃m,m<=n/\(runM D q m (dQ q inp)).evs=(runM D p n (dQ p inp)).evs/\(runM D q m (dQ q inp)).ended=(runM D p n (dQ p inp)).ended
def ji(p:PrW):Prop:=∀f∈p.fns,iH f.code
section
variable {D:Nat->Int->Int->Int}{p q r:PrW}
def kD.refl(p:PrW):kD D p p:=λ_ _ n=>⟨n,qqf _,rfl,rfl⟩
def kD.trans(h:kD D p q)(k:kD D q r):kD D p r:=λinp hi n=>by obtain⟨m,h1,h2,h3⟩:=h inp hi n;obtain⟨a,k1,k2,k3⟩:=k inp hi m;exact⟨a,by omega,k2.trans h2,k3.trans h3⟩
variable {k:Nat}{f:FnP}{l:List In}
def G9(hf:p.fns[k]? =some f)(inp:List Int):dQ (p.code k f l) inp=dQ p inp:=by unfold dQ;rw[xw hf];rfl
def xA(hf:p.fns[k]? =some f):(p.code k f l).fns[k]? =some {f with code:=l}:=by unfold PrW.code;exact jqb (qqi.1 hf).1
def wS{a:List In}:(p.code k f l).code k {f with code:=l} a=p.code k f a:=by unfold PrW.code;simp[List.set_set]
def Ns(hf:p.fns[k]? =some f):p.code k f f.code=p:=by
 unfold PrW.code;have:p.fns.set k f=p.fns:=by
  apply jqk;intro i;by_cases e:i=k;·subst e;rw[jqb (qqi.1 hf).1,hf]
  ·rw[jqd (λc=>e c.symm)]
 rw[show({f with code:=f.code}:FnP)=f from rfl,this]
def IA(G:qU D)(F:∀o a b,I64 (D o a b))(v:aP p=true)(hc:ji p)(hf:p.fns[k]? =some f):kD D p (p.code k f (bC D p.arrays f.code)):=λinp hi n=>by
 have g:=lC v;have I:=jg v (qqr hf);have H:∀x:In,(∃f∈p.fns,x∈f.code)->I64 x.n:=λx⟨f,h1,h2⟩=>hc f h1 x h2;have w:=MP G F g H hf (qW g hi) rfl rfl n;have B:∀y∈aK D p.arrays f.code,okI p f y:=I.within;have C:=xA (l:=aK D p.arrays f.code) hf;have z:∀g i x,g≠k->atM p g i=some x->Lu x/\1<=x.op:=λg' i x O j=>by obtain⟨fn,M,N⟩:=BJ j;have h1:=nQ v (qqr M);unfold fnW at h1;simp only[qqn,qqw]at h1;have h2:=h1.2 x (qqr N);exact⟨xM (Or.inr h2),(tu h2).op.1⟩
 have K:∀g i x,atM (p.code k f (aK D p.arrays f.code)) g i=some x->x.op<=14:=λg' i x j=>by
  rw[nW hf]at j;by_cases e:g'=k;·rw[qzb e]at j;exact(xM (B x (qqr j))).op
  ·rw[qzc e]at j;exact(z _ _ _ e j).1.op
 have u:=Iq (D:=D) (s:=dQ p inp) C K rfl rfl n;rw[wS]at u;have E:=xA (l:=aZ (aK D p.arrays f.code)) hf;obtain⟨m,hm,h1,h2⟩:=TS (D:=D) (s:=dQ p inp) E (λg' i x j=>by
  rw[nW hf]at j;by_cases e:g'=k
  ·rw[qzb e]at j;refine⟨?_,λc=>absurd e c⟩;rcases yB x (qqr j)with c|c;·exact xM (p:=p) (f:=f) (Or.inl c)
   ·exact xM (B x c)
  ·rw[qzc e]at j;obtain⟨c1,c2⟩:=z _ _ _ e j;exact⟨c1,λ_=>c2⟩) rfl rfl n;rw[wS]at h1 h2;have A:∀g i x,atM (p.code k f (bC D p.arrays f.code)) g i=some x->x.op≠0:=λg' i x j=>by
  rw[nW hf]at j;by_cases e:g'=k
  ·rw[qzb e]at j;have hm:=qqr j;unfold bC bZ at hm;obtain⟨y,J,rfl⟩:=qjb.1 hm;have:=(jxb.1 J).2;have this:y.op≠0:=by simpa using this
   split<;>exact this
  ·rw[qzc e]at j;have:=(z _ _ _ e j).2;omega
 refine⟨m,hm,?_,?_⟩;·rw[G9 hf,<-FP D A,<-w,<-u];exact h1.symm
 ·rw[G9 hf,<-FP D A,<-w,<-u];exact h2.symm
def IL(hf:p.fns[k]? =some f):(p.code k f l).fns.map (·.params)=p.fns.map (·.params):=by
 apply jqk;intro i;rw[qqp,qqp];unfold PrW.code;by_cases e:i=k;·subst e;rw[jqb (qqi.1 hf).1,hf];rfl
 ·rw[jqd (λc=>e c.symm)]
def Jc(a:aP p=true)(ha:q.arrays=p.arrays)(hm:q.main=p.main)(j:q.fns.map (·.params)=p.fns.map (·.params))(y:∀g∈q.fns,∃f∈p.fns,g.params=f.params/\g.vars=f.vars/\g.code.length<=f.code.length/\eG p g g.code):aP q=true:=by
 have o:q.fns.length=p.fns.length:=by have:=jqp List.length j;simpa using this
 have A:=a;unfold aP at a⊢;simp only[qqn,qqw]at a⊢;refine⟨⟨⟨by rw[ha,o];exact a.1.1.1,?_⟩,by rw[ha];exact a.1.2⟩,λg z=>?_⟩
 ·have u:=a.1.1.2;unfold jF at u⊢;have:∀i:Nat,(q.fns[i]?).map (·.params)=(p.fns[i]?).map (·.params):=λi=>by rw[<-qqp,<-qqp,j]
  rw[hm,o,this];exact u
 ·obtain⟨f,hf,v,w,C,hc⟩:=y g z;have n:=nQ A hf;unfold fnW at n⊢;simp only[qqn,qqu,qqw]at n⊢;refine⟨⟨by rw[v,w];omega,?_⟩,λx m=>?_⟩;·obtain⟨x,m,B⟩:=hc.last;unfold lD;rw[m];simpa using B
  ·rw[Im ha j];exact hc.one x m
def AB(a:aP p=true)(hf:p.fns[k]? =some f)(n:Nat):aP (p.code k f (eP D p.arrays n f.code))=true:=by
 refine Jc a rfl rfl (IL hf) λg m=>?_;obtain⟨i,hi⟩:=jqs.1 m;by_cases e:i=k;·subst e;rw[xA hf]at hi;cases hi;exact⟨f,qqr hf,rfl,rfl,qQ _ n,sW (jg a (qqr hf)) n⟩
 ·have o:p.fns[i]? =some g:=by unfold PrW.code at hi;simp only[]at hi;rw[jqd (λc=>e c.symm)]at hi;exact hi
  have j:=qqr o;exact⟨g,j,rfl,rfl,qqf _,jg a j⟩
def C8(hc:ji p)(hl:iH l):ji (p.code k f l):=λg a=>by
 rcases List.mem_or_eq_of_mem_set a with h|rfl;·exact hc g h
 ·exact hl
def Ap(j:qU D)(i:∀o a b,I64 (D o a b))(m:aP p=true)(hc:ji p)(hf:p.fns[k]? =some f):∀n,kD D p (p.code k f (eP D p.arrays n f.code))|0=>by show kD D p (p.code k f f.code);rw[Ns hf];exact kD.refl p|n+1=>by refine(Ap j i m hc hf n).trans ?_;have:=IA j i (AB (D:=D) m hf n) (C8 hc (nN i (hc f (qqr hf)) n)) (xA hf);rw[wS]at this;exact this
def pU(p q:PrW)(j:Nat):PrW:={p with fns:=q.fns.take j++p.fns.drop j}
def D5(x:qU D)(v:∀o a b,I64 (D o a b))(h:iw D p q)(A:aP p=true)(hc:ji p):∀j,j<=p.fns.length->aP (pU p q j)=true/\ji (pU p q j)/\kD D p (pU p q j)
 |0,_=>by
  have:pU p q 0=p:=by simp[pU]
  rw[this];exact⟨A,hc,kD.refl p⟩|j+1,hj=>by
  obtain⟨h1,h2,h3⟩:=D5 x v h A hc j oqo;have y:p.fns[j]? =some p.fns[j]:=qqh oqo;have E:j<q.fns.length:=by rw[h.len];omega
  have z:q.fns[j]? =some q.fns[j]:=qqh E;have w:(pU p q j).fns[j]? =some p.fns[j]:=by show(q.fns.take j++p.fns.drop j)[j]? =_;rw[qze (by rw[jqg];omega),jqg,jzs,jqy oqo,jzg,qzz];exact y
  obtain⟨m,u,a3,⟨n,B⟩,_⟩:=h.fn j _ _ y z;have e:pU p q (j+1)=(pU p q j).code j p.fns[j] (eP D (pU p q j).arrays n p.fns[j].code):=by
   unfold pU PrW.code;simp only[];congr 1;have F:({p.fns[j]with code:=eP D p.arrays n p.fns[j].code}:FnP)=q.fns[j]:=by rw[<-B];cases C:q.fns[j]with|mk a b c d=>rw[C]at m u a3;simp only at m u a3;simp only[m,u,a3]
   rw[F,jzv _ _ (by rw[jqg];omega),jqg,jqy oqo,jzg,jqq (l:=p.fns) (i:=j) oqo,qqj,jqw,z,List.append_assoc];rfl
  rw[e];exact⟨AB h1 w n,C8 h2 (nN v (h2 _ (qqr w)) n),h3.trans (Ap x v h1 h2 w n)⟩
def iw.shows(j:qU D)(i:∀o a b,I64 (D o a b))(h:iw D p q)(m:aP p=true)(hc:ji p):kD D p q:=by
 have h1:=(D5 j i h m hc p.fns.length (qqf _)).2.2;have:pU p q p.fns.length=q:=by unfold pU;rw[jqc (by rw[h.len];omega),jxs (qqf _),jxd];cases q with|mk a b c=>have:=h.arrays;have:=h.main;simp_all
 rw[this]at h1;exact h1
end
variable (D:Nat->Int->Int->Int)
def TT{p:PrW}(x:In)(s:MS):∃l,(bU D p x s).evs=s.evs++l:=by
 have h0:∃l,s.evs=s.evs++l:=⟨[],by simp⟩;have hs:∀k n,∃l,(s.see k n).evs=s.evs++l:=λk n=>⟨_,rfl⟩;have hr:∀n,∃l,(s.ret n).evs=s.evs++l:=λn=>by unfold MS.ret;cases s.base.getLast? with|none=>exact hs _ _|some=>exact h0
 have i:∀(c:Prop) [Decidable c](a b:MS),(∃l,a.evs=s.evs++l)->(∃l,b.evs=s.evs++l)->∃l,(if c then a else b).evs=s.evs++l:=λc _ a b ha j=>by
  by_cases h:c;·rw[qzb h];exact ha
  ·rw[qzc h];exact j
 have i2:∀(o:Option Int)(f:Int->MS)(b:MS),(∀n,∃l,(f n).evs=s.evs++l)->(∃l,b.evs=s.evs++l)->∃l,(match o with|some n=>f n|none=>b).evs=s.evs++l:=λo f b ha j=>by cases o with|none=>exact j|some n=>exact ha n
 unfold bU;exact i _ _ _ h0 (i _ _ _ h0 (i _ _ _ h0 (i _ _ _ (i2 _ _ _ (λ_=>h0) (hs _ _)) (i _ _ _ (i2 _ _ _ (λ_=>h0) (hs _ _)) (i _ _ _ (i2 _ _ _ (λ_=>h0) (hs _ _)) (i _ _ _ (i _ _ _ (hs _ _) h0) (i _ _ _ ⟨_,rfl⟩ (i _ _ _ (hs _ _) (i _ _ _ (hs _ _) (i _ _ _ h0 (i _ _ _ (hr _) (i _ _ _ h0 (i _ _ _ h0 h0)))))))))))))
def Tf{p:PrW}(s:MS):∃l,(gK D p s).evs=s.evs++l:=by
 unfold gK;split;·exact⟨[],by simp⟩
 ·cases atM p s.top.f s.top.i with|none=>exact⟨[],by simp⟩|some x=>exact TT D x s.tick
def Jt{p:PrW}:∀(n:Nat)(s:MS),∃l,(runM D p n s).evs=s.evs++l|0,s=>⟨[],by simp[runM]⟩|n+1,s=>by obtain⟨l,h⟩:=Tf D (p:=p) s;obtain⟨m,k⟩:=Jt n (gK D p s);exact⟨l++m,by rw[runM,k,h,List.append_assoc]⟩
end Go.Proofs.YtgdibfnpkcdiiaaGreatDoor
namespace Go.Proofs.YtgdibfnpkcdiiaaGreatDoor
section
variable {l:List In}
def wo(l:List In):List Nat->Bool|[]=>true|k::R=>(k==0||R.any λi=>match l[i]? with|some x=>(bN x i).contains k|none=>false)&&wo l R
def DF:∀{R:List Nat},wo l R=true->∀k∈R,Reach l k
 |[],_,k,h=>by cases h|k::R,h,j,hj=>by
  unfold wo at h;simp only[qqn,qji,jzb,jze]at h;obtain⟨h1,h2⟩:=h;have ih:=DF h2;rcases qzh.1 hj with rfl|hj
  ·rcases h1 with rfl|⟨i,hi,hk⟩;·exact .first
   ·cases a:l[i]? with|none=>rw[a]at hk;cases hk|some x=>rw[a]at hk;exact .next (ih i hi) a (by simpa using hk)
  ·exact ih j hj
def Bv(l:List In)(R:List Nat):Bool:=R.contains 0&&R.all λi=>match l[i]? with|some x=>(bN x i).all λk=>R.contains k|none=>true
def NK{R:List Nat}(h:Bv l R=true):∀k,Reach l k->k∈R:=λk hk=>by unfold Bv at h;simp only[qqn,qqw]at h;induction hk with|first=>simpa using h.1|next hr a hk ih=>have:=h.2 _ ih;rw[a]at this;simp only[qqw]at this;simpa using this _ hk
def IC{R:List Nat}(h1:wo l R=true)(h2:Bv l R=true):aZ l=(List.range l.length).map λi=>if !R.contains i&&decide (i+1<l.length)then{}else l.getD i {}:=by
 unfold aZ;refine jqj λi _=>?_;have:Reach l i↔i∈R:=⟨NK h2 i,DF h1 i⟩;by_cases hc:¬Reach l i/\i+1<l.length;·rw[qzb hc,qzb (by rw[qqx hc.2,Bool.and_true,qjj,List.contains_eq_mem,jxq];exact λc=>hc.1 (this.2 c))]
 ·rw[qzc hc,qzc (by simp only[qqn,qjj,List.contains_eq_mem,jxq,qqu,not_and];intro c d;exact hc ⟨λr=>c (this.1 r),d⟩)]
def AL(l:List In):List (Nat×Int)->Bool|[]=>true|(i,v)::L=>(match l[i]? with|some x=>(dX x).contains v||(bD x !=some v&&(bN x i).any λk=>L.contains (k,v))|none=>false)&&AL l L
def GN:∀{L:List (Nat×Int)},AL l L=true->∀q∈L,Live l q.1 q.2
 |[],_,k,h=>by cases h|(i,v)::L,h,q,j=>by
  unfold AL at h;simp only[qqn]at h;obtain⟨h1,h2⟩:=h;have ih:=GN h2;rcases qzh.1 j with rfl|j;·cases a:l[i]? with|none=>rw[a]at h1;cases h1|some x=>
    rw[a]at h1;simp only[qji,qqn,jxw,jze]at h1;rcases h1 with h1|⟨h1,k,hk,hm⟩;·exact .use a (by simpa using h1)
    ·exact .pass a h1 hk (ih (k,v) (by simpa using hm))
  ·exact ih q j
def En(l:List In)(L:List (Nat×Int)):Bool:=(List.range l.length).all λi=>match l[i]? with|some x=>((dX x).all λv=>L.contains (i,v))&&L.all λq=>!((bN x i).contains q.1&&(bD x !=some q.2))||L.contains (i,q.2)|none=>true
def Ug{L:List (Nat×Int)}(h:En l L=true):∀i v,Live l i v->(i,v)∈L:=λi v hk=>by unfold En at h;simp only[qqw,qzg]at h;induction hk with| @use i x v a hv=>have:=h i (qqi.1 a).1;rw[a]at this;simp only[qqn,qqw]at this;simpa using this.1 v hv| @pass i k x v a j hk _ ih=>
  have:=h i (qqi.1 a).1;rw[a]at this;simp only[qqn,qqw]at this;have:=this.2 (k,v) ih;simp only[qji,qjj,Bool.and_eq_false_iff]at this;rcases this with(c|c)|c;·simp at c;exact absurd hk c
  ·simp at c;exact absurd c j
  ·simpa using c
def RL{L:List (Nat×Int)}(h1:AL l L=true)(h2:En l L=true):bO l=(List.range l.length).map λi=>if gJ (l.getD i {})&&!L.contains (i+1,(l.getD i {}).v)then{}else l.getD i {}:=by
 unfold bO;refine jqj λi _=>?_;have:Live l (i+1) (l.getD i {}).v↔(i+1,(l.getD i {}).v)∈L:=⟨Ug h2 _ _,GN h1 (i+1,(l.getD i {}).v)⟩;by_cases hc:gJ (l.getD i {})=true/\¬Live l (i+1) (l.getD i {}).v;·rw[qzb hc,qzb (by rw[hc.1,jxj,qjj,List.contains_eq_mem,jxq];exact λc=>hc.2 (this.2 c))]
 ·rw[qzc hc,qzc (by simp only[qqn,qjj,List.contains_eq_mem,jxq,not_and];intro c d;exact hc ⟨c,λr=>d (this.1 r)⟩)]
end
section
variable {D:Nat->Int->Int->Int}{arr:List Int}{c d:List In}
def rW{j a m n:List In}{R:List Nat}{L:List (Nat×Int)}(h1:aK D arr c=j)(u:wo j R=true)(w:Bv j R=true)(h2:((List.range j.length).map λi=>if !R.contains i&&decide (i+1<j.length)then{}else j.getD i {})=a)(x:AL a L=true)(y:En a L=true)(h3:((List.range a.length).map λi=>if gJ (a.getD i {})&&!L.contains (i+1,(a.getD i {}).v)then{}else a.getD i {})=m)(o:bZ (mR m)=n):bC D arr c=n:=by unfold bC eT;rw[h1,IC u w,h2,RL x y,h3,o]
def QG{m:Nat}(h:eP D arr m c=d)(hd:bC D arr d=d){n:Nat}{e:List In}(he:e=eP D arr n c)(hf:bC D arr e=e):e=d:=by
 rcases Nat.le_total m n with k|k
 ·obtain⟨q,rfl⟩:∃q,n=m+q:=⟨n-m,by omega⟩;have:∀q,eP D arr (m+q) c=d:=λq=>by induction q with|zero=>exact h|succ q ih=>show bC D arr (eP D arr (m+q) c)=d;rw[ih,hd]
  rw[he,this q]
 ·obtain⟨q,rfl⟩:∃q,m=n+q:=⟨m-n,by omega⟩;have:∀q,eP D arr (n+q) c=e:=λq=>by induction q with|zero=>exact he.symm|succ q ih=>show bC D arr (eP D arr (n+q) c)=e;rw[ih,hf]
  rw[<-h,this q]
end
