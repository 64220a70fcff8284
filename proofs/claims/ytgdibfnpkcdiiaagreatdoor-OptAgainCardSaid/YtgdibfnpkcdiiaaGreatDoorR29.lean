/- Joint text: OSrcA, OSrcB, OMade, HFew, OFew, OLitW, OSrcC, OWorks. By an AI agent. -/
import Derived.Test.YtgdibfnpkcdiiaaGreatDoorR28
set_option linter.all false
set_option maxRecDepth 100000
set_option maxHeartbeats 64000000
noncomputable section
namespace Go.Proofs.YtgdibfnpkcdiiaaGreatDoor
open Go.RowKit
namespace Ev
def rdS(z w:Nat):Option (Nat×Nat):=if w=6 then some (0,0)else if w=57 then some (0,0)else if w%16=7/\se w=z then some (ps w+so w,sl w)else none
theorem Ky{s z l e o:Nat}(h1:s<16777216)(h2:z<16777216)(h3:l<16777216)(a:e<256):ps (aX s z l e o)=s/\sl (aX s z l e o)=l/\se (aX s z l e o)=e/\so (aX s z l e o)=o:=by
 unfold aX ps sl se so;refine⟨?_,?_,?_,?_⟩;·show(7+16*s+268435456*z+4503599627370496*l+75557863725914323419136*e+19342813113834066795298816*o)/16%16777216=s;omega
 ·show(7+16*s+268435456*z+4503599627370496*l+75557863725914323419136*e+19342813113834066795298816*o)/4503599627370496%16777216=l;omega
 ·show(7+16*s+268435456*z+4503599627370496*l+75557863725914323419136*e+19342813113834066795298816*o)/75557863725914323419136%256=e;omega
 ·show(7+16*s+268435456*z+4503599627370496*l+75557863725914323419136*e+19342813113834066795298816*o)/19342813113834066795298816=o;omega
def Cel(g:Gh)(M:Nat)(W:World)(b o a:Nat):Prop:=∃u,W.cell? ⟨b,o,none⟩=some u/\VR g (gt M a) u
section
variable {g:Gh}{st:St}{W:World}{M:Nat}
theorem Fv(h:HR g st W){z w a n:Nat}{v:Value}(hv:VR g w v)(e:rdS z w=some (a,n)):∃A c,v=.slice A n c/\n<=c/\(n=0\/∃b o,A=some ⟨b,o,none⟩/\∀i,i<n*z->Cel g st.M W b (o+i) (a+i)):=by
 unfold rdS at e;split at e;·rename_i r;subst r;cases e;exact⟨_,_,hv.xN (by decide),qqf _,Or.inl rfl⟩
 split at e;·rename_i q;cases e;obtain⟨a,rfl⟩:=hv.yA q;exact⟨_,_,rfl,qqf _,Or.inl rfl⟩
 split at e
 ·rename_i f;obtain⟨f,hz⟩:=f;obtain⟨s,H,l,E,o,blk,base,room,cap,ad,rfl,rfl,b1,b2,k,m,hr,D,p,d⟩:=hv.wu f;obtain⟨u,x,y,B⟩:=Ky (o:=o) b1 b2 k m;rw[u,x,B]at e;rw[y]at hz;subst hz;cases e;refine⟨_,_,rfl,p,?_⟩;rcases d with d|⟨rfl,d⟩;·exact Or.inl oqo
  ·refine Or.inr ⟨blk,base+o,rfl,λi hi=>?_⟩;obtain⟨c,t,fr,hc⟩:=h.cells _ _ _ _ _ hr;have G:=hc.size;have F:=hc.room;have j:base+o+i<c.size:=oqo;refine⟨c[base+o+i],?_,?_⟩;·unfold World.cell?;simp[hc.heap,j]
   ·have:=hc.vr (o+i) oqo;rw[show base+(o+i)=base+o+i by omega,qqg,jqd j]at this;rw[show s+o+i=s+(o+i)by omega];exact this
 ·cases e
def rdI(k w:Nat):Option Int:=if w%16=2/\w/16%16=k then some ((w/256:Nat)-9223372036854775808)else none
theorem ji{k:IntKind}{w:Nat}{v:Value}{n:Int}(hv:VR g w v)(e:rdI (kc k) w=some n):v=.int k n:=by
 unfold rdI at e;split at e
 ·rename_i h2;obtain⟨j,m,a,d,f,h⟩:=hv.jf h2.1;have hk:=iY j;have b:w/16%16=kc j:=by rw[a];unfold aC;omega
  have c:((w/256:Nat):Int)-9223372036854775808=m:=by rw[a];unfold aC;omega
  have:j=k:=uT (b.symm.trans h2.2);subst this;rw[c]at e;cases e;exact d
 ·cases e
def rdN(k w:Nat):Option Nat:=match rdI k w with|some n=>if 0<=n then some n.toNat else none|none=>none
theorem LK{k:IntKind}{w:Nat}{v:Value}{n:Nat}(hv:VR g w v)(e:rdN (kc k) w=some n):v=.int k n:=by
 unfold rdN at e;split at e
 ·rename_i m hm;split at e;·cases e;rw[ji hv hm];congr 1;omega
  ·cases e
 ·cases e
def rdL{α:Type}(f:Nat->Option α)(z:Nat):Nat->Nat->Option (List α)|_,0=>some []|a,n+1=>match f a,rdL f z (a+z) n with|some x,some l=>some (x::l)|_,_=>none
theorem Ad{α:Type}{f:Nat->Option α}{z:Nat}:∀{n a:Nat}{l:List α},rdL f z a n=some l->l.length=n/\∀i x,l[i]? =some x->f (a+i*z)=some x
 |0,a,l,e=>by cases e;exact⟨rfl,λi x h=>by simp at h⟩|n+1,a,l,e=>by
  unfold rdL at e;split at e;·rename_i x j h1 h2;cases e;obtain⟨c,d⟩:=Ad h2;refine⟨by simp[c],λi y b=>?_⟩;cases i with|zero=>simp at b;subst b;simpa using h1|succ i=>have:=d i y (by simpa using b);rwa[show a+(i+1)*z=a+z+i*z by rw[jxa];omega]
  ·cases e
theorem uK{α β:Type}:∀{l:List α}{P:Nat->α->β->Prop},(∀i x,l[i]? =some x->∃y,P i x y)->∃m:List β,m.length=l.length/\∀i x y,l[i]? =some x->m[i]? =some y->P i x y|[],_,_=>⟨[],rfl,λi x y h=>by simp at h⟩|a::l,P,h=>by obtain⟨y,c⟩:=h 0 a rfl;obtain⟨m,hm,k⟩:=uK (P:=λi=>P (i+1)) (l:=l) λi x b=>h (i+1) x (by simpa using b);refine⟨y::m,by simp[hm],λi x z b hz=>?_⟩;cases i with|zero=>simp at b hz;subst b;subst hz;exact c|succ i=>exact k i x z (by simpa using b) (by simpa using hz)
def Ai(M w:Nat):Option (List Int):=match rdS 1 w with|some (a,n)=>rdL (λa=>rdI 3 (gt M a)) 1 a n|none=>none
theorem BU(h:HR g st W){w:Nat}{v:Value}{l:List Int}(hv:VR g w v)(e:Ai st.M w=some l):ay W v l:=by
 unfold Ai at e;split at e
 ·rename_i a n hs;obtain⟨A,c,rfl,hc,hr⟩:=Fv h hv hs;obtain⟨rfl,k⟩:=Ad e;refine⟨A,c,rfl,hc,?_⟩;rcases hr with hr|⟨b,o,f,hr⟩;·exact Or.inl (jze hr)
  ·refine Or.inr ⟨b,o,f,λi x d=>?_⟩;have hi:=(qqi.1 d).1;obtain⟨u,hu,j⟩:=hr (i*1) oqo;unfold iP;rw[hu,ji (k:=.i64) j (k i x d)]
 ·cases e
def PE(M a:Nat):Option In:=match rdN 4 (gt M a),rdI 3 (gt M (a+1)),rdI 3 (gt M (a+2)),rdI 3 (gt M (a+3)),rdI 3 (gt M (a+4)),rdN 4 (gt M (a+5)),Ai M (gt M (a+6)),rdI 3 (gt M (a+7)),rdI 3 (gt M (a+8)),rdI 3 (gt M (a+9))with|some op,some v,some x,some y,some n,some bin,some args,some f,some arr,some b=>some ⟨op,v,x,y,n,bin,args,f,arr,b⟩|_,_,_,_,_,_,_,_,_,_=>none
theorem RN(h:HR g st W){b o a:Nat}{x:In}(hc:∀q,q<10->Cel g st.M W b (o+q) (a+q))(e:PE st.M a=some x):∃av,fu W b o (x,av):=by
 unfold PE at e;split at e
 ·rename_i op v K L n bin args f arr t c d i j m p r s u y;cases e;obtain⟨u0,c0,z⟩:=hc 0 oqo;obtain⟨u1,c1,A⟩:=hc 1 oqo;obtain⟨u2,c2,B⟩:=hc 2 oqo;obtain⟨u3,c3,D⟩:=hc 3 oqo;obtain⟨u4,c4,E⟩:=hc 4 oqo;obtain⟨u5,c5,F⟩:=hc 5 oqo;obtain⟨u6,c6,G⟩:=hc 6 oqo;obtain⟨u7,c7,H⟩:=hc 7 oqo;obtain⟨u8,c8,I⟩:=hc 8 oqo;obtain⟨u9,c9,J⟩:=hc 9 oqo;refine⟨u6,⟨?_,?_,?_,?_,?_,?_,c6,?_,?_,?_,BU h G r⟩⟩;·exact c0.trans (jqi some (LK (k:=.u8) z c))
  ·exact c1.trans (jqi some (ji (k:=.i64) A d))
  ·exact c2.trans (jqi some (ji (k:=.i64) B i))
  ·exact c3.trans (jqi some (ji (k:=.i64) D j))
  ·exact c4.trans (jqi some (ji (k:=.i64) E m))
  ·exact c5.trans (jqi some (LK (k:=.u8) F p))
  ·exact c7.trans (jqi some (ji (k:=.i64) H s))
  ·exact c8.trans (jqi some (ji (k:=.i64) I u))
  ·exact c9.trans (jqi some (ji (k:=.i64) J y))
 ·cases e
def Ed(M w:Nat):Option (List In):=match rdS 10 w with|some (a,n)=>rdL (PE M) 10 a n|none=>none
theorem Mh(h:HR g st W){w:Nat}{v:Value}{l:List In}(hv:VR g w v)(e:Ed st.M w=some l):∃li:List InV,li.map (·.1)=l/\dW W v li:=by
 unfold Ed at e;split at e
 ·rename_i a n hs;obtain⟨A,c,rfl,hc,hr⟩:=Fv h hv hs;obtain⟨rfl,k⟩:=Ad e;rcases hr with hr|⟨b,o,j,hr⟩;·have:l=[]:=jze hr;subst this;exact⟨[],rfl,A,c,rfl,qqy _,Or.inl rfl⟩
  ·obtain⟨m,hm,p⟩:=uK (l:=l) (P:=λi x av=>fu W b (o+i*10) (x,av)) λi x d=>by have hi:=(qqi.1 d).1;exact RN h (λq r=>by have:=hr (i*10+q) oqo;rwa[<-jqp,<-jqp]at this) (k i x d)
   have f:(l.zip m).length=l.length:=by rw[List.length_zip,hm,Nat.min_self]
   refine⟨l.zip m,?_,A,c,by rw[f],by rw[f];exact hc,Or.inr ⟨b,o,j,λi x d=>?_⟩⟩;·rw[List.map_fst_zip];omega
   ·obtain⟨h1,h2⟩:=List.getElem?_zip_eq_some.1 d;exact p i x.1 x.2 h1 h2
 ·cases e
def rdStr(S w:Nat):Option (List UInt8):=if w%16=3 then some ((List.range (ln w)).map λi=>UInt8.ofNat (aN S (sa w+i)))else none
theorem Qs{w:Nat}{v:Value}{l:List UInt8}(hv:VR g w v)(e:rdStr g.S w=some l):v=.string ⟨l.toArray⟩:=by
 unfold rdStr at e;split at e
 ·rename_i h3;obtain⟨s,n,a,d,f,h,i⟩:=hv.rY h3;have b:sa w=s:=by rw[a];show dC s n/268435456=s;unfold dC;omega
  have c:ln w=n:=by rw[a];show dC s n/16%16777216=n;unfold dC;omega
  cases e;rw[d,b,c];rfl
 ·cases e
def Qo(S M a:Nat):Option FnP:=match rdStr S (gt M a),rdI 3 (gt M (a+1)),rdI 3 (gt M (a+2)),Ed M (gt M (a+3))with|some b,some ps,some vs,some l=>some ⟨b,ps,vs,l⟩|_,_,_,_=>none
theorem TW(h:HR g st W){b o a:Nat}{x:FnP}(hc:∀q,q<4->Cel g st.M W b (o+q) (a+q))(e:Qo st.S st.M a=some x):∃y:Value×List InV,jA W b o ⟨x,y.1,y.2⟩:=by
 unfold Qo at e;split at e;·rename_i r ps vs l c d f i;cases e;obtain⟨u0,c0,j⟩:=hc 0 oqo;obtain⟨u1,c1,m⟩:=hc 1 oqo;obtain⟨u2,c2,n⟩:=hc 2 oqo;obtain⟨u3,c3,p⟩:=hc 3 oqo;obtain⟨li,k1,k2⟩:=Mh h p i;rw[h.S]at c;exact⟨(u3,li),⟨c0.trans (jqi some (Qs j c)),c1.trans (jqi some (ji (k:=.i64) m d)),c2.trans (jqi some (ji (k:=.i64) n f)),c3,k2,k1⟩⟩
 ·cases e
def II(S M w:Nat):Option (List FnP):=match rdS 4 w with|some (a,n)=>rdL (Qo S M) 4 a n|none=>none
theorem PY(h:HR g st W){w:Nat}{v:Value}{l:List FnP}(hv:VR g w v)(e:II st.S st.M w=some l):∃li:List FnG,li.map (·.fn)=l/\pO W v li:=by
 unfold II at e;split at e
 ·rename_i a n hs;obtain⟨A,c,rfl,hc,hr⟩:=Fv h hv hs;obtain⟨rfl,k⟩:=Ad e;rcases hr with hr|⟨b,o,j,hr⟩;·have:l=[]:=jze hr;subst this;exact⟨[],rfl,A,c,rfl,qqy _,Or.inl rfl⟩
  ·obtain⟨m,hm,p⟩:=uK (l:=l) (P:=λi x(y:Value×List InV)=>jA W b (o+i*4) ⟨x,y.1,y.2⟩) λi x d=>by have hi:=(qqi.1 d).1;exact TW h (λq r=>by have:=hr (i*4+q) oqo;rwa[<-jqp,<-jqp]at this) (k i x d)
   have f:(l.zip m).length=l.length:=by rw[List.length_zip,hm,Nat.min_self]
   refine⟨(l.zip m).map λx=>⟨x.1,x.2.1,x.2.2⟩,?_,A,c,by rw[qqv,f],by rw[qqv,f];exact hc,Or.inr ⟨b,o,j,λi x d=>?_⟩⟩;·rw[qzx];show(l.zip m).map Prod.fst=l;rw[List.map_fst_zip];omega
   ·rw[qqp]at d;cases hz:(l.zip m)[i]? with|none=>rw[hz]at d;cases d|some y=>rw[hz]at d;cases d;obtain⟨h1,h2⟩:=List.getElem?_zip_eq_some.1 hz;exact p i y.1 y.2 h1 h2
 ·cases e
def rdP(S M R x:Nat):Option PrW:=if x%16=12/\ln x=3 then(match Ai M (gt R (sa x)),II S M (gt R (sa x+1)),rdI 3 (gt R (sa x+2))with|some a,some fs,some m=>some ⟨a,fs,m⟩|_,_,_=>none)else none
theorem VJ(h:HR g st W){R nR x:Nat}{v:Value}{p:PrW}(hv:TR g R nR x v)(e:rdP st.S st.M R x=some p):∃gp,v=prV gp/\gp.p=p/\PrR W gp:=by
 unfold rdP at e;split at e
 ·rename_i n;split at e
  ·rename_i s fs m d f j;cases e;obtain⟨b,a,vs,b1,b2,A,B,D,o,c⟩:=hv.Bv n.1;have q:ln x=a:=by rw[b1];unfold ln dU;show(12+16*a+268435456*b)/16%16777216=a;omega
   have r:sa x=b:=by rw[b1];unfold sa dU;show(12+16*a+268435456*b)/268435456=b;omega
   rw[r]at d f j;have hn:a=3:=by rw[<-q];exact n.2
   subst hn;have u:=c 0 oqo;have y:=c 1 oqo;have z:=c 2 oqo;obtain⟨li,k1,k2⟩:=PY h y f;have k0:=BU h (v:=vs.getD 0 undef) u d;have k3:=ji (k:=.i64) z j;refine⟨⟨⟨s,fs,m⟩,vs.getD 0 undef,vs.getD 1 undef,li⟩,?_,rfl,⟨k0,k2,k1⟩⟩;rw[b2];show Value.agg vs=.agg #[vs.getD 0 undef,vs.getD 1 undef,.int .i64 m];congr 1;rw[<-k3];apply Array.ext;·simpa using o
   ·intro i h1 h2;have:i<3:=oqo;match i,this with|0,_=>simp[qqg,h1]|1,_=>simp[qqg,h1]|2,_=>simp[qqg,h1]
  ·cases e
 ·cases e
def rdT(r:RS):Option PrW:=RS.rec none (λx s=>if x%16=13/\ln x=3 then(if rdI 3 (gt s.R (sa x+2))=some 0 then(match rdI 3 (gt s.R (sa x+1))with|some _=>rdP s.S s.M s.R (gt s.R (sa x))|none=>none)else none)else none) r
end
end Ev
namespace Ev
theorem Vb(K:Kon)(s:Nat)(i:Info):K.In (K.gh.put s i):=⟨qqf _,λ_ _=>rfl⟩
theorem NY(w:Nat):dV [w]=w:=by show w+340282366920938463463374607431768211456*0=w;rw[Nat.mul_zero,qzz]
theorem LH(w i:Nat)(h:w<2^128):gt w i=[w].getD i 0:=by rw[<-gy [w] i (λq a=>by simp at a;subst a;exact h),NY]
theorem Ie(n:Nat)(h:n<10000):aX 0 n n 1 0<2^128:=by unfold aX;omega
theorem Wn(c:Nat):ad 0 0 c=c:=by
 unfold ad;have a:Nat.shiftLeft c (Nat.mul 128 0)=c:=by show c<<<0=_;exact Nat.shiftLeft_zero
 rw[a];exact Nat.zero_or _
def mG(l:List UInt8):List Nat:=l.map λb=>aC .u8 b.toNat
theorem Tf(l:List UInt8):∀q∈mG l,q<2^128:=λq a=>by obtain⟨b,_,rfl⟩:=qjb.1 a;have:b.toNat<256:=b.toNat_lt;have:kc .u8=4:=rfl;unfold aC;omega
theorem QP(l:List UInt8):(mG l).length=l.length:=by unfold mG;rw[qqv]
def zT(n M:Nat):St:=⟨aX 0 n n 1 0,[(1,[])],0,0,M,n+1,K0.S,K0.n⟩
section
variable {l:List UInt8}{w:World}{C:Array Value}{t:TypeId}{fr:Nat×Nat}
theorem SC{g:Gh}{st:St}(h0:HR g st w)(d:st.M=0)(j:st.nM=0)(c:∀i,i<l.length->C.getD i undef=.int .u8 (l.getD i 0).toNat)(k:∀i,i<C.size->(C.getD i undef).oneCell'=true)(f:l.length<=C.size)(p:pK fr C.size)(T:Nat)(D:List (Nat×List Nat)):HR (g.put 0 (.cells w.heap.size 0 l.length C.size)) ⟨T,D,0,0,dV (mG l),l.length+1,st.S,st.nS⟩ (w.alloc (.cells C t fr)):=by
 have a:=Tf l;have h:=QP l;have o:∀i,i<l.length->gt (dV (mG l)) i=aC .u8 (l.getD i 0).toNat:=λi hi=>by rw[gy _ _ a,qqm,mG,qqp,qqh hi,qqm,qqh hi,jqb,qzm,qzm]
 have q:∀(g:Gh)i,i<l.length->VR g (gt (dV (mG l)) i) (C.getD i undef):=λg i hi=>by rw[o i hi,c i hi];generalize r:l.getD i 0=b;have e:b.toNat<256:=b.toNat_lt;generalize b.toNat=m at e;exact .int .u8 (m:Int) oqo oqo
 obtain⟨ha,_⟩:=HR.alloc h0 C t fr (n:=l.length) (cw:=dV (mG l)) f (by have:=lS _ a;rwa[h]at this) (λi hi=>q _ i hi) k p;have:=ha.frame T D (R:=0) (nR:=0) Nat.one_pos;rw[d,j,qja,Wn]at this;exact this
theorem U2(a:∀i,i<l.length->C.getD i undef=.int .u8 (l.getD i 0).toNat)(c:∀i,i<C.size->(C.getD i undef).oneCell'=true)(b:l.length<=C.size)(d:pK fr C.size):HR (K0.gh.put 0 (.cells w.heap.size 0 l.length C.size)) (zT l.length (dV (mG l))) (w.alloc (.cells C t fr)):=SC (hr0 w) rfl rfl a c b d _ _
theorem VE(a:l.length<=C.size)(b:l.length<10000)(i:Nat):TR (K0.gh.put 0 (.cells w.heap.size 0 l.length C.size)) 0 0 (gt (aX 0 l.length l.length 1 0) i) ((#[.slice (some ⟨w.heap.size,0,none⟩) l.length C.size]:Array Value).getD i undef):=by rw[LH _ i (Ie _ b)];cases i with|zero=>refine .cell _ _ ?_;refine .sli 0 l.length l.length 1 0 w.heap.size 0 C.size C.size _ oqo oqo oqo oqo ?_ oqo a (Or.inr ⟨rfl,by omega⟩);rw[Gh.bK,qzb rfl]|succ i=>exact .unk _
theorem U3(a:l.length<10000)(i:Nat)(hi:1<=i):gt (aX 0 l.length l.length 1 0) i=0:=by rw[LH _ i (Ie _ a)];cases i with|zero=>omega|succ i=>rfl
end
theorem Sy{k w:Nat}{n:Int}(h:rdI k w=some n):w%16=2:=by
 unfold rdI at h;split at h;·rename_i c;exact c.1
 ·cases h
theorem Mg{g:Gh}{R nR w:Nat}{k:IntKind}{v:Value}{n:Int}(hv:TR g R nR w v)(h:rdI (kc k) w=some n):v=.int k n:=by have ht:=Sy h;exact ji (hv.aP oqo oqo oqo (by intro c;rw[c]at ht;cases ht)) h
theorem U5{g:Gh}{x:Nat}{s:St}{W:World}{v:Value}{p:PrW}(hr:HR g s W)(hv:TR g s.R s.nR x v)(h:rdT (.ok x s)=some p):∃gp m,v=.tuple #[prV gp,.int .i64 m,.int .i64 0]/\PrR W gp/\gp.p=p:=by
 have h:(if x%16=13/\ln x=3 then(if rdI 3 (gt s.R (sa x+2))=some 0 then(match rdI 3 (gt s.R (sa x+1))with|some _=>rdP s.S s.M s.R (gt s.R (sa x))|none=>none)else none)else none)=some p:=h;split at h;case isFalse=>cases h
 rename_i d;split at h;case isFalse=>cases h
 rename_i h0;split at h;case h_2=>cases h
 rename_i m e;obtain⟨b,a,vs,b1,b2,u,y,z,f,c⟩:=hv.rV d.1;have j:ln x=a:=by rw[b1];unfold ln eZ;show(13+16*a+268435456*b)/16%16777216=a;omega
 have n:sa x=b:=by rw[b1];unfold sa eZ;show(13+16*a+268435456*b)/268435456=b;omega
 have h3:a=3:=by rw[<-j];exact d.2
 subst h3;rw[n]at h h0 e;obtain⟨gp,k1,k2,k3⟩:=VJ hr (c 0 oqo) h;have r:=Mg (k:=.i64) (c 2 oqo) h0;have q:=Mg (k:=.i64) (c 1 oqo) e;have o:vs=#[prV gp,.int .i64 m,.int .i64 0]:=by
  rw[<-k1,<-q,<-r];apply Array.ext;·simpa using f
  ·intro i h1 h2;have:i<3:=oqo;match i,this with|0,_=>simp[qqg,h1]|1,_=>simp[qqg,h1]|2,_=>simp[qqg,h1]
 exact⟨gp,m,by rw[b2,o],k3,k2⟩
theorem src_ok{f:Nat}{fn:Func}{c:Code}(l:List UInt8){p:PrW}(y:l.length<10000)(hf:Tryz.prog.funcs[f]? =some fn)(hn:(fn.name== "runtime.NumGoroutine")=false)(E:fn.body=some c)(hm:Tryz.prog.follows .mixedOrders=true)(h:rdT (jO Tryz.prog K0 X0 hk dk 1000000 1000 f (zT l.length (dV (mG l))))=some p)(w:World)(C:Array Value)(t:TypeId)(fr:Nat×Nat)(A:∀i,i<l.length->C.getD i undef=.int .u8 (l.getD i 0).toNat)(G:∀i,i<C.size->(C.getD i undef).oneCell'=true)(o:l.length<=C.size)(H:pK fr C.size):Calls Tryz.prog f #[.slice (some ⟨w.heap.size,0,none⟩) l.length C.size] (w.alloc (.cells C t fr)) λe w'=>∃gp m,e=.returned (.tuple #[prV gp,.int .i64 m,.int .i64 0])/\PrR w' gp/\gp.p=p/\Below w.heap.size w w':=by
 have r:=U2 (w:=w) (t:=t) A G o H;have ht:=VE (w:=w) (C:=C) o y;have q:=U3 (l:=l) y;generalize d:zT l.length (dV (mG l))=b at h r;have D:b.T=aX 0 l.length l.length 1 0:=by rw[<-d];rfl
 have B:b.D=[(1,[])]:=by rw[<-d];rfl
 have n:b.R=0/\b.nR=0:=by rw[<-d];exact⟨rfl,rfl⟩
 clear d;rw[<-D]at ht q;cases hr:jO Tryz.prog K0 X0 hk dk 1000000 1000 f b with|no=>rw[hr]at h;cases h|ok x st'=>
  rw[hr]at h;have hv:=yh (fuel:=1000000) Rc hm Ri Ro 1000 f _ _ _ #[.slice (some ⟨w.heap.size,0,none⟩) l.length C.size] x st' (Vb K0 _ _) r B (λi=>by rw[n.1,n.2];exact ht i) (λi hi=>q i hi) hr;rcases hv with⟨_,hv⟩|⟨v,w',hv,_⟩
  ·refine hv.mono λe w'⟨u,j,g',a⟩=>?_;obtain⟨gp,m,k1,k2,k3⟩:=U5 a.hr a.tr h;refine⟨gp,m,by rw[j,k1],k2,k3,?_⟩;have F:∀k,k<w.heap.size->¬Own (K0.gh.put 0 (.cells w.heap.size 0 l.length C.size)) k:=λk hk ho=>by
    rcases ho with⟨s,base,z,room,hs⟩|⟨s,hs⟩
    ·rw[Gh.bK]at hs;split at hs;·injection hs with j;omega
     ·cases hs
    ·rw[Gh.bK]at hs;split at hs;·cases hs
     ·cases hs
   have I:(w.alloc (.cells C t fr)).heap.size=w.heap.size+1:=by simp
   have h1:Below w.heap.size (w.alloc (.cells C t fr)) w':=⟨a.fr.os,a.fr.tape,a.fr.output,a.fr.size,λk hk=>a.fr.keep k oqo (F k hk)⟩;exact((qjk w.heap.size w).alloc (qqf _) _).trans h1
  ·rw[tH hf hn E]at hv;cases hv
end Ev
def Iz(l:List UInt8)(p:PrW):Prop:=∀(w:World)(C:Array Value)(t:TypeId)(fr:Nat×Nat)(cap:Nat),C.size=cap->(∀i,i<l.length->C.getD i undef=.int .u8 (l.getD i 0).toNat)->(∀i,i<C.size->(C.getD i undef).oneCell'=true)->l.length<=C.size->Ev.pK fr C.size->Calls Tryz.prog 41 #[.slice (some ⟨w.heap.size,0,none⟩) l.length cap] (w.alloc (.cells C t fr)) λe w'=>∃gp m,e=.returned (.tuple #[prV gp,.int .i64 m,.int .i64 0])/\PrR w' gp/\gp.p=p/\Below w.heap.size w w'
theorem Vy(l:List UInt8)(cap:Nat)(h:l.length<=cap):(bytesRow ⟨l.toArray⟩ cap).size=cap/\(∀i,i<l.length->(bytesRow ⟨l.toArray⟩ cap).getD i undef=.int .u8 (l.getD i 0).toNat)/\∀i,i<(bytesRow ⟨l.toArray⟩ cap).size->((bytesRow ⟨l.toArray⟩ cap).getD i undef).oneCell'=true:=by
 have hs:(⟨l.toArray⟩:ByteArray).size=l.length:=by simp[ByteArray.size]
 have a:(bytesRow ⟨l.toArray⟩ cap).size=cap:=by unfold bytesRow;rw[jxv,Array.size_map,jxc,hs];simp;omega
 refine⟨a,λi hi=>?_,λi hi=>?_⟩;·unfold bytesRow;rw[qqg,Array.getElem?_append_left (by simpa using hi)];simp[qqm,hi]
 ·rw[qqg,jqd hi];show(((bytesRow ⟨l.toArray⟩ cap)[i])).oneCell'=true;unfold bytesRow at hi⊢;by_cases h2:i<l.length;·rw[Array.getElem_append_left (by simpa using h2)];simp[Value.oneCell']
  ·rw[Array.getElem_append_right (by simp;omega)];simp[Value.oneCell']
theorem N7(l:List UInt8)(W:World):(convert 9 74 (.string ⟨l.toArray⟩)).run Tryz.prog W=.ok (.slice (some ⟨W.heap.size,0,none⟩) l.length (grownCap W l.length 0 5)) (W.drew.alloc (.cells (bytesRow ⟨l.toArray⟩ (grownCap W l.length 0 5)) 5 ((bytesRow ⟨l.toArray⟩ (grownCap W l.length 0 5)).size,(bytesRow ⟨l.toArray⟩ (grownCap W l.length 0 5)).size+1))):=by
 have h:=run_bytes_of_string (P:=Tryz.prog) W 9 74 5 ⟨l.toArray⟩ Tryz.underlying9 Tryz.underlying74 Tryz.underlying5;have hs:(⟨l.toArray⟩:ByteArray).size=l.length:=by simp[ByteArray.size]
 rw[hs]at h;exact h
theorem FK{w:World}{gp:PrG}(h:PrR w gp):∃A a F b,prV gp=.agg #[.slice A gp.p.arrays.length a,.slice F gp.p.fns.length b,.int .i64 gp.p.main]:=by obtain⟨⟨A,a,c,_,_⟩,⟨F,b,d,_,_⟩,he⟩:=h;refine⟨A,a,F,b,?_⟩;unfold prV;rw[c,d,<-he,qqv]
theorem Dy(l:List UInt8)(p:PrW)(j1:Iz l p)(hr:bB p=true)(hn:iC p)(w:World):Calls Tryz.prog 86 #[.string ⟨l.toArray⟩] w λe w'=>∃d,e=.returned (.tuple #[prV d,.bool true])/\PrR w' d/\fD doW p d.p/\Below w.heap.size w w':=by
 have hm:=bY
 have KC:=λW=>N7 l W;have HS:=hqh j1;have HR:=hqh hr;have HN:=hqh hn;clear j1 hr hn;go_enter Tryz.func86,Tryz.ntmps86;go_upto_region 1 with fail;have V:Below w.heap.size w (w.alloc (.cells #[.slice none 0 0,.slice none 0 0,.int .i64 0] 25)):=(qjk _ _).alloc (qqf _) _;have e0:=Blk.new w 25 #[.slice none 0 0,.slice none 0 0,.int .i64 0];generalize d2:w.alloc _=w1 at V e0⊢;clear d2;have m0:=hqh V;have S:=hqh e0;clear V e0;have X:=grownCap_ge w1 l.length 0 5;obtain⟨r1,r2,r3⟩:=Vy l _ X;have SR:=HS.o w1.drew (bytesRow ⟨l.toArray⟩ (grownCap w1 l.length 0 5)) 5 ((bytesRow ⟨l.toArray⟩ (grownCap w1 l.length 0 5)).size,(bytesRow ⟨l.toArray⟩ (grownCap w1 l.length 0 5)).size+1) _ r1 r2 r3 (by rw[r1];exact X) (Or.inr (qqf _));have r0:=hqh SR;clear SR r1 r2 r3 X;go_upto_region 2 with(first| (go_at_call 41;refine r0.o.mono ?_;rintro e f⟨gp,m,rfl,Z,J,s⟩;obtain⟨A,ca,F,cf,hv⟩:=FK Z;have x:=λW(U:Below f.heap.size f W)=>qZ gp W (Z.below U) (by rw[J];exact HR.o) (by rw[J];exact HN.o);rw[hv]at x⊢;obtain⟨na,g1⟩:∃n,n=gp.p.arrays.length:=⟨_,rfl⟩;obtain⟨np,H⟩:∃n,n=gp.p.fns.length:=⟨_,rfl⟩;obtain⟨mm,d1⟩:∃n,n=gp.p.main:=⟨_,rfl⟩;rw[<-g1,<-H,<-d1]at x⊢;rw[J]at H x;have n1:=hqh H;have p0:=hqh x;have B:=hqh (show Below w1.heap.size w1 f from⟨s.os,s.tape,s.output,s.size,s.block⟩);clear Z J s hv x g1 H d1)|fail);have n0:=hqh (aU m0.o B.o);have I:=Blk.new f 25 #[.slice A na ca,.slice F np cf,.int .i64 mm];have z:Below f.heap.size f (f.alloc (.cells #[.slice A na ca,.slice F np cf,.int .i64 mm] 25)):=(qjk _ _).alloc (qqf _) _;obtain⟨px,d0⟩:∃b,b=f.heap.size:=⟨_,rfl⟩;rw[<-d0]at I;generalize e2:f.alloc _=w3 at I z⊢;rw[<-d0];have m2:w.heap.size<px:=by have:=B.o.size;have:=S.o.lt;omega
 clear e2 d0;have o:=hqh I;have o0:=hqh z;have T:=hqh ((S.o.below B.o).below z);have s0:=hqh (aU n0.o z);clear I z S m0 B n0 r0 KC;have c0:=o.o.cell 0;have c1:=o.o.cell 1;have c2:=o.o.cell 2;have lp:=o.o.lt;go_upto_region 3 with(first
  | (go_at_call 37;refine(p0.o w3 o0.o).mono ?_;rintro e r⟨d,rfl,j0,i0,a1⟩;obtain⟨D,Q,E,R,hv⟩:=FK (j0 r (KO.refl _ _));have HV:=hqh hv;rw[hv];obtain⟨P,i1⟩:∃n,n=d.p.arrays.length:=⟨_,rfl⟩;obtain⟨nq,Y⟩:∃n,n=d.p.fns.length:=⟨_,rfl⟩;obtain⟨N,e1⟩:∃n,n=d.p.main:=⟨_,rfl⟩;rw[<-i1,<-Y,<-e1]at HV⊢;have z1:nq=np:=by rw[Y,i0.len,n1.o]
     clear i1 Y e1 hv;subst z1;have q0:=hqh j0;have s1:=hqh i0;have v:=hqh a1;clear j0 i0 a1 c0 c1 c2 lp)|fail);have L:=Blk.new r 25 #[.slice D P Q,.slice E nq R,.int .i64 N];have q:Below r.heap.size r (r.alloc (.cells #[.slice D P Q,.slice E nq R,.int .i64 N] 25)):=(qjk _ _).alloc (qqf _) _;obtain⟨qx,l0⟩:∃b,b=r.heap.size:=⟨_,rfl⟩;rw[<-l0]at L;generalize g2:r.alloc _=w5 at L q⊢;rw[<-l0];have n2:w.heap.size<qx:=by have:=v.o.size;have:=o.o.lt;omega
 clear g2 l0;have v1:=hqh L;have m1:=hqh q;have o1:=hqh ((o.o.below v.o).below q);have q1:=hqh ((T.o.below v.o).below q);have y0:=hqh (aU (aU s0.o v.o) q);have i2:w.heap.size<w3.heap.size:=T.o.lt;have t1:=hqh (show∀l1,KO (λk=>k<w3.heap.size) w5 l1->PrR l1 d from λW U=>q0.o W ((KO.below q).then' U λ_ _ c=>c));clear L q o T s0 o0 v m1 q0 p0;refine wp_region_draw (List.replicate 16 true++[false,false]) (λW=>KO (λk=>k=w.heap.size) w5 W) 2 bY (λ_ a a2 _ hd h=>by cases a;cases a2;cases hd;exact h) kqk (λ_ _ h=>KO.below h) ?_;iterate 16 refine aI (λK j=>?_);rw[qzb kqk];refine⟨_,λj2 hZ=>(by have y:=hZ.blk v1.o oqo;have PP:=hZ.blk o1.o oqo;have x0:=y.cell 0;have x1:=y.cell 1;have x2:=y.cell 2;have p1:=PP.cell 1;have lx:=y.lt;clear y PP;go_simp;try rfl),?_⟩;simp only[qqa];refine j _ ?_;clear j
 refine aV (aV (aW ?_));intro vs Wd hN l2 G;have i:=hqh (q1.o.below G);have k0:=i.o.cell 0;have k1:=i.o.cell 1;have k2:=i.o.cell 2;have f0:=i.o.free 0;have f1:=i.o.free 1;have f2:=i.o.free 2;have lq:=i.o.lt;refine aF 16 rfl kqk (λKK j=>?_);go_simp;refine j.o _ _ (Or.inl ((((KO.below G).trans (KO.set (O:=λk=>k=w.heap.size) (a:=⟨w.heap.size,0,none⟩) rfl _)).trans (KO.set (O:=λk=>k=w.heap.size) (a:=⟨w.heap.size,1,none⟩) rfl _)).trans (KO.set (O:=λk=>k=w.heap.size) (a:=⟨w.heap.size,2,none⟩) rfl _))) ?_;clear j;refine aF 17 rfl kqk (λKK j=>?_);go_simp;refine j.o _ _ (Or.inr ((hN.o 17).trans kqk)) ?_;clear j;refine aH kqk ?_;go_wp2_with fail;refine bodyPost_ret (l7 rfl _ _ w.heap.size 25 #[.slice D P Q,.slice E nq R,.int .i64 N] _ rfl (((i.o.put 0 _).put 1 _).put 2 _) Tryz.underlying25 rfl kqk) rfl ?_;have y1:=(((y0.o.trans (G.mono y0.o.size)).setCell (p:=⟨w.heap.size,0,none⟩) (qqf _) (.slice D P Q)).setCell (p:=⟨w.heap.size,1,none⟩) (qqf _) (.slice E nq R)).setCell (p:=⟨w.heap.size,2,none⟩) (qqf _) (.int .i64 N);refine⟨d,?_,?_,s1.o,y1⟩;·rw[HV.o];rfl
 ·refine t1.o _ ?_;have hs:∀(k:Nat)(W:World)(u:Value),KO (λk=>k<w3.heap.size) W (W.setCell ⟨w.heap.size,k,none⟩ u):=λk W u=>KO.set (O:=λk=>k<w3.heap.size) (a:=⟨w.heap.size,k,none⟩) i2 u;exact(((KO.below G).trans (hs 0 _ _)).trans (hs 1 _ _)).trans (hs 2 _ _)
theorem Gw{l:List In}{i:Nat}(h:i<l.length):kJ (l.drop i)=(decide ((l[i]).args.length<=20)&&kJ (l.drop (i+1))):=by rw[jqo h];rfl
def jH(n:Nat):List FnP->Bool|[]=>true|f::l=>decide (n+f.code.length<=250)&&kJ f.code&&jH (n+f.code.length) l
def A7(p:PrW):Bool:=decide (p.arrays.length<=30)&&decide (p.fns.length<=70)&&jH 0 p.fns
theorem Gm{l:List FnP}{i n:Nat}(h:i<l.length):jH n (l.drop i)=(decide (n+(l[i]).code.length<=250)&&kJ (l[i]).code&&jH (n+(l[i]).code.length) (l.drop (i+1))):=by rw[jqo h];rfl
theorem NU(g:PrG)(w:World)(h:PrR w g):Calls Tryz.prog 34 #[prV g] w λe w'=>e=.returned (.bool (A7 g.p))/\Below w.heap.size w w':=by
 obtain⟨p,av,fv,l⟩:=g;obtain⟨ha,hf,he⟩:=h;obtain⟨A,f,Y,Z,_⟩:=ha;obtain⟨F,j,j0,d0,hf⟩:=hf;dsimp only at Y j0 d0 hf he Z;subst Y;subst j0;obtain⟨c,H⟩:∃n,n=p.arrays.length:=⟨_,rfl⟩;obtain⟨a,J⟩:∃n,n=l.length:=⟨_,rfl⟩;have P:p.fns.length=a:=by rw[<-he,qqv,J]
 have v1:=hqh H;have g1:=hqh J;have HE:=hqh he;have O:Below w.heap.size w (w.alloc (.cells #[.slice A c f,.slice F a j,.int .i64 p.main] 25)):=(qjk _ _).alloc (qqf _) _;have s:=hqh O;have T:=hqh (show l=[]\/∃b o,F=some ⟨b,o,none⟩/\∀i x,l[i]? =some x->jA (w.alloc (.cells #[.slice A c f,.slice F a j,.int .i64 p.main] 25)) b (o+i*4) x from hf.imp id λ⟨b,o,e,k⟩=>⟨b,o,e,λi x r=>(k i x r).below O⟩);unfold prV;dsimp only;rw[<-H,<-J];have e0:A7 p=(decide (c<=30)&&decide (a<=70)&&jH 0 p.fns):=by rw[A7,<-H,P]
 have u:=hqh e0;clear hf H J he O e0 Z d0;go_enter Tryz.func34,Tryz.ntmps34;by_cases h1:c<=30;case neg=>have q1:decide ((30:Int)<(c:Int))=true:=qqx oqo;go_wp2_with fail;go_ret;exact⟨aO (by rw[u.o,qqt h1];rfl),s.o⟩
 case pos=>
  have q1:decide ((30:Int)<(c:Int))=false:=qqt oqo;by_cases h2:a<=70;case neg=>have q2:decide ((70:Int)<(a:Int))=true:=qqx oqo;go_wp2_with fail;go_ret;exact⟨aO (by rw[u.o,qqt h2];simp),s.o⟩
  case pos=>
   have q2:decide ((70:Int)<(a:Int))=false:=qqt oqo;go_wp2_with fail;have k0:(w.alloc (.cells #[.slice A c f,.slice F a j,.int .i64 p.main] 25)).cell? ⟨w.heap.size,0,none⟩=some (.slice A c f):=(Blk.new w 25 #[.slice A c f,.slice F a j,.int .i64 p.main]).cell 0;have k1:(w.alloc (.cells #[.slice A c f,.slice F a j,.int .i64 p.main] 25)).cell? ⟨w.heap.size,1,none⟩=some (.slice F a j):=(Blk.new w 25 #[.slice A c f,.slice F a j,.int .i64 p.main]).cell 1;go_loopg [3,4]a(λgk v3 v4 wr=>∃i m:Nat,i<=a/\a-i<=gk/\v4=.int .i64 i/\m<=250/\v3=.int .i64 m/\wr=w.alloc (.cells #[.slice A c f,.slice F a j,.int .i64 p.main] 25)/\Hid (jH 0 p.fns=jH m (p.fns.drop i)));case atStart=>exact⟨0,0,qqy _,qqf _,rfl,by omega,rfl,rfl,hqh rfl⟩
   case round=>
    obtain⟨i,m,hi,z1,rfl,hm,rfl,rfl,B⟩:=hrel;by_cases m0:i<a;case neg=>
     have q3:decide ((i:Int)<(a:Int))=false:=qqt oqo;have q0:jH 0 p.fns=true:=by rw[B.o,jxe (by rw[P];omega)];rfl
     have HY:=hqh q0;clear q0;go_wp2_with fail;go_ret;exact⟨aO (by rw[u.o,qqx h1,qqx h2,HY.o];rfl),s.o⟩
    case pos=>
     have q3:decide ((i:Int)<(a:Int))=true:=qqx oqo;have o1:i<l.length:=by rw[<-g1.o];exact m0
     obtain⟨x,r⟩:∃x,l[i]? =some x:=⟨_,qqh o1⟩;have i0:i<p.fns.length:=by rw[P];exact m0
     have o0:p.fns[i]=x.fn:=by
      have:(l.map (·.fn))[i]? =some x.fn:=by rw[qqp,r];rfl
      rw[HE.o,qqh i0]at this;injection this
     have G:=Gm (n:=m) i0;rw[o0]at G;obtain⟨b,o,rfl,N⟩:∃b o,F=some ⟨b,o,none⟩/\jA (w.alloc (.cells #[.slice A c f,.slice F a j,.int .i64 p.main] 25)) b (o+i*4) x:=by
      rcases T.o with rfl|⟨b,o,e,k⟩;·simp at r
      ·exact⟨b,o,e,k i x r⟩
     obtain⟨x0,x1,x2,x3,xc,R⟩:=N;obtain⟨C,cc,p0,l1,xr⟩:=xc;rw[p0]at x3;have lb:=aK x0;obtain⟨d,I⟩:∃n,n=x.l.length:=⟨_,rfl⟩;have n1:x.fn.code.length=d:=by rw[<-R,qqv,I]
     rw[n1]at G;rw[<-I]at x3;have K:=hqh G;have i1:=hqh R;have e1:=hqh I;have j1:=hqh xr;have t1:=hqh r;clear G R I xr r p0 l1 o0 T;by_cases U:m+d<=250;case neg=>have q4:decide ((250:Int)-(m:Int)<(d:Int))=true:=qqx oqo;go_wp2_with fail;go_ret;exact⟨aO (by rw[u.o,B.o,K.o,qqt U];simp),s.o⟩
     case pos=>
      have q4:decide ((250:Int)-(m:Int)<(d:Int))=false:=qqt oqo;go_wp2_with fail;obtain⟨ko,r1⟩:∃ko,gk=ko+1:=⟨gk-1,by omega⟩;subst r1;go_loopg [5]d(λgk v5 wr=>∃k:Nat,k<=d/\d-k<=gk/\v5=.int .i64 k/\wr=(w.alloc (.cells #[.slice A c f,.slice (some ⟨b,o,none⟩) a j,.int .i64 p.main] 25))/\Hid (kJ x.fn.code=kJ (x.fn.code.drop k)));case atStart=>exact⟨0,qqy _,qqf _,rfl,rfl,hqh rfl⟩
      case round=>
       obtain⟨k,hk,a2,rfl,rfl,L⟩:=hrel;by_cases s1:k<d;case neg=>
        have q6:decide ((k:Int)<(d:Int))=false:=qqt oqo;have X:kJ x.fn.code=true:=by rw[L.o,jxe oqo];rfl
        have a1:=hqh (show jH 0 p.fns=jH (m+d) (p.fns.drop (i+1))by rw[B.o,K.o,X,qqx U];simp);clear X;go_wp2_with fail;go_roundg ko;case measure=>omega
        case rel=>exact⟨i+1,m+d,by omega,by omega,by simp,by omega,by simp,rfl,a1⟩
       case pos=>
        have q6:decide ((k:Int)<(d:Int))=true:=qqx oqo;have p1:k<x.l.length:=by rw[<-e1.o];exact s1
        obtain⟨y,v⟩:∃y,x.l[k]? =some y:=⟨_,qqh p1⟩;have l0:k<x.fn.code.length:=oqo;have r0:x.fn.code[k]=y.1:=by
         have:(x.l.map (·.1))[k]? =some y.1:=by rw[qqp,v];rfl
         rw[i1.o,qqh l0]at this;injection this
        have E:=Gw l0;rw[r0]at E;obtain⟨b2,z,rfl,N⟩:∃b2 z,C=some ⟨b2,z,none⟩/\fu (w.alloc (.cells #[.slice A c f,.slice (some ⟨b,o,none⟩) a j,.int .i64 p.main] 25)) b2 (z+k*10) y:=by
         rcases j1.o with e|⟨b2,z,e,q⟩;·rw[e]at v;simp at v
         ·exact⟨b2,z,e,q k y v⟩
        obtain⟨y0,y1,y2,y3,y4,y5,y6,y7,y8,y9,ya⟩:=N;obtain⟨D,cd,s0,m1,yr⟩:=ya;rw[s0]at y6;have d2:=aK y0;obtain⟨Q,n0⟩:∃n,n=y.1.args.length:=⟨_,rfl⟩;rw[<-n0]at y6 E;have S:=hqh E;clear E s0 m1 yr v r0 n0;by_cases V:Q<=20;case neg=>have q7:decide ((20:Int)<(Q:Int))=true:=qqx oqo;go_wp2_with fail;go_ret;exact⟨aO (by rw[u.o,B.o,K.o,L.o,S.o,qqt V];simp),s.o⟩
        case pos=>have q7:decide ((20:Int)<(Q:Int))=false:=qqt oqo;have d1:=hqh (show kJ x.fn.code=kJ (x.fn.code.drop (k+1))by rw[L.o,S.o,qqx V];rfl);go_wp2_with fail;cases gk with|zero=>omega|succ gk=>
          go_roundg gk;case measure=>omega
          case rel=>exact⟨k+1,by omega,by omega,by simp,rfl,d1⟩
theorem En:∀(l:List FnP)(n:Nat),jH n l=true->∀f∈l,kJ f.code=true/\f.code.length<=250
 |[],_,_,_,h=>by simp at h|f::l,n,h,g,a=>by
  simp only[jH,qqn,qqu]at h;obtain⟨⟨h1,h3⟩,b⟩:=h;rcases qzh.1 a with rfl|a;·exact⟨h3,by omega⟩
  ·exact En l _ b g a
theorem O4{p:PrW}(ok:AL p)(hf:A7 p=true):PrS p:=by simp only[A7,qqn,qqu]at hf;obtain⟨⟨h1,h2⟩,h3⟩:=hf;have hc:=En p.fns 0 h3;exact⟨by omega,by omega,λf hf=>by have:=(hc f hf).2;omega,λf hf x a=>by have:=qqw.1 (hc f hf).1 x a;simp at this;omega,λf hf x a=>((ok.fns f hf).code x a).op⟩
def Bn:List UInt8:=[102,117,110,99,32,109,97,105,110,40,41,32,123,32,112,114,105,110,116,32,50,32,43,32,51,32,42,32,52,59,32,101,120,105,116,32,48,59,32,125]
def AV:List UInt8:=[102,117,110,99,32,109,97,105,110,40,41,32,123,32,118,97,114,32,120,32,61,32,49,59,32,112,114,105,110,116,32,120,59,32,112,114,105,110,116,32,120,32,43,32,48,32,42,32,120,59,32,125]
def De:List In:=[⟨1,0,0,0,2,0,[],0,0,0⟩,⟨1,1,0,0,3,0,[],0,0,0⟩,⟨1,2,0,0,4,0,[],0,0,0⟩,⟨3,3,1,2,0,3,[],0,0,0⟩,⟨3,4,0,3,0,1,[],0,0,0⟩,⟨9,0,4,0,0,0,[],0,0,0⟩,⟨1,0,0,0,0,0,[],0,0,0⟩,⟨10,0,0,0,0,0,[],0,0,0⟩,⟨1,0,0,0,0,0,[],0,0,0⟩,⟨12,0,0,0,0,0,[],0,0,0⟩]
def Da:List In:=[⟨1,1,0,0,1,0,[],0,0,0⟩,⟨2,0,1,0,0,0,[],0,0,0⟩,⟨9,0,0,0,0,0,[],0,0,0⟩,⟨1,1,0,0,0,0,[],0,0,0⟩,⟨3,2,1,0,0,3,[],0,0,0⟩,⟨3,3,0,2,0,1,[],0,0,0⟩,⟨9,0,3,0,0,0,[],0,0,0⟩,⟨1,1,0,0,0,0,[],0,0,0⟩,⟨12,0,1,0,0,0,[],0,0,0⟩]
def wJ:PrW:=⟨[],[⟨[109,97,105,110],0,5,De⟩],0⟩
def vV:PrW:=⟨[],[⟨[109,97,105,110],0,4,Da⟩],0⟩
def Db:List In:=[⟨1,4,0,0,14,0,[],0,0,0⟩,⟨9,0,4,0,0,0,[],0,0,0⟩,⟨1,0,0,0,0,0,[],0,0,0⟩,⟨10,0,0,0,0,0,[],0,0,0⟩,⟨12,0,0,0,0,0,[],0,0,0⟩]
def nJ:List In:=[⟨1,0,0,0,1,0,[],0,0,0⟩,⟨9,0,0,0,0,0,[],0,0,0⟩,⟨1,3,0,0,1,0,[],0,0,0⟩,⟨9,0,3,0,0,0,[],0,0,0⟩,⟨1,1,0,0,0,0,[],0,0,0⟩,⟨12,0,1,0,0,0,[],0,0,0⟩]
theorem UM:bz doW [] De=Db:=ql (R:=[7,6,5,4,3,2,1,0]) (L:=[(8,0),(5,4),(7,0),(9,0)]) rfl kqk kqk rfl kqk kqk rfl kqk
theorem S9:bz doW [] Db=Db:=ql (R:=[3,2,1,0]) (L:=[(1,4),(3,0),(4,0)]) rfl kqk kqk rfl kqk kqk rfl kqk
theorem UY:bz doW [] Da=nJ:=ql (R:=[8,7,6,5,4,3,2,1,0]) (L:=[(2,0),(6,3),(8,1)]) rfl kqk kqk rfl kqk kqk rfl kqk
theorem SN:bz doW [] nJ=nJ:=ql (R:=[5,4,3,2,1,0]) (L:=[(1,0),(3,3),(5,1)]) rfl kqk kqk rfl kqk kqk rfl kqk
theorem U0:bB wJ=true:=kqk
theorem Vs:bB vV=true:=kqk
theorem WI:iC wJ:=λf hf x a=>by
 simp only[wJ,List.mem_singleton]at hf;subst hf;have:∀x∈De,I64 x.n:=by unfold I64 De;decide
 exact this x a
theorem Wy:iC vV:=λf hf x a=>by
 simp only[vV,List.mem_singleton]at hf;subst hf;have:∀x∈Da,I64 x.n:=by unfold I64 Da;decide
 exact this x a
theorem GU{c d:List In}{a:List UInt8}{ps vs m:Int}{q:PrW}(h:fD doW ⟨[],[⟨a,ps,vs,c⟩],m⟩ q)(h1:bz doW [] c=d)(h2:bz doW [] d=d):∃f,q.fns=[f]/\f.code=d:=by have hl:=h.len;obtain⟨e,b,i⟩:=q;dsimp only at hl;match b,hl with|[f],_=>refine⟨f,rfl,?_⟩;obtain⟨_,_,_,⟨n,hn⟩,hr⟩:=h.fn 0 _ f rfl rfl;exact O3 (D:=doW) (arr:=[]) (m:=1) (c:=c) (show bz doW [] c=d from h1) h2 hn hr
namespace Ev
theorem P9:rdT (jO Tryz.prog K0 X0 hk dk 1000000 1000 41 (zT Bn.length (dV (mG Bn))))=some wJ:=kqk
theorem Pq:rdT (jO Tryz.prog K0 X0 hk dk 1000000 1000 41 (zT AV.length (dV (mG AV))))=some vV:=kqk
end Ev
theorem Ut:Tryz.prog.follows .mixedOrders=true:=kqk
theorem Sl:Iz Bn wJ:=λw C t fr cap b a d c e=>by have:=Ev.src_ok Bn (by decide) Tryz.func41 rfl rfl Ut Ev.P9 w C t fr a d c e;rwa[b]at this
theorem Tg:Iz AV vV:=λw C t fr cap b a d c e=>by have:=Ev.src_ok AV (by decide) Tryz.func41 rfl rfl Ut Ev.Pq w C t fr a d c e;rwa[b]at this
theorem EO{w:World}{j:PrG}(h:PrR w j){f:FnP}(hf:j.p.fns=[f]){code:List In}(hc:f.code=code)(E:0<code.length): ∃A D k d e o m a co n,prV j=.agg #[.slice A D k,.slice (some ⟨d,e,none⟩) 1 o,.int .i64 m]/\w.cell? ⟨d,e+3,none⟩=some (.slice (some ⟨a,co,none⟩) code.length n)/\ ∀(i:Nat)(x:In),code[i]? =some x->w.cell? ⟨a,co+i*10,none⟩=some (.int .u8 x.op)/\w.cell? ⟨a,co+i*10+4,none⟩=some (.int .i64 x.n):=by obtain⟨p,av,fv,l⟩:=j;obtain⟨⟨A,k,r,_,_⟩,⟨F,o,s,_,hr⟩,he⟩:=h;dsimp only at r s hr he hf;rw[hf]at he;match l,he with
 |[y],he=>
  have u:y.fn=f:=by simpa using he
  rcases hr with hr|⟨d,e,rfl,hr⟩;·cases hr
  have b:=hr 0 y rfl;rw[jzh,qzz]at b;obtain⟨C,n,v,_,c⟩:=b.code;have q:y.l.length=code.length:=by have:=jqi List.length b.eq;rw[qqv,u,hc]at this;exact this
  rcases c with c|⟨a,co,rfl,c⟩;·rw[c]at q;simp at q;omega
  refine⟨A,p.arrays.length,k,d,e,o,p.main,a,co,n,?_,?_,λi x B=>?_⟩;·unfold prV;rw[r,s];rfl
  ·rw[b.c3,v,q]
  ·have hm:(y.l.map (·.1))[i]? =some x:=by rw[b.eq,u,hc];exact B
   rw[qqp]at hm;cases hz:y.l[i]? with|none=>rw[hz]at hm;cases hm|some z=>rw[hz]at hm;cases hm;have:=c i z hz;exact⟨this.c0,this.c4⟩
theorem OU:∀(i:Nat)(x:In),nJ[i]? =some x->x.op≠3:=λi x a=>by
 have h:∀y∈nJ,y.op≠3:=by unfold nJ;decide
 exact h x (qqr a)
theorem qW(w:World):Calls Tryz.prog 35 #[] w λe w'=>e=.returned (.bool true)/\Below w.heap.size w w':=by
 have D:=hqh (Dy Bn wJ Sl U0 WI);have E:=hqh (Dy AV vV Tg Vs Wy);unfold Bn at D;unfold AV at E;go_enter Tryz.func35,Tryz.ntmps35;go_upto_region 2 with(first| (go_at_call 86;refine(D.o w).mono ?_;rintro e w1⟨gq,rfl,o,ho,d⟩;obtain⟨f,hf,n⟩:=GU ho UM S9;obtain⟨A,na,Y,fb,fo,cf,m,cb,co,cc,hv,a,p⟩:=EO o hf n (by decide);rw[hv];have Q:=hqh a;have U:=hqh ((p 0 _ rfl).2);have N:=hqh d;clear hv a p d ho o hf n)|fail);have j:Below w1.heap.size w1 (w1.alloc (.cells #[.slice A na Y,.slice (some ⟨fb,fo,none⟩) 1 cf,.int .i64 m] 25)):=(qjk _ _).alloc (qqf _) _;have s:=Blk.new w1 25 #[.slice A na Y,.slice (some ⟨fb,fo,none⟩) 1 cf,.int .i64 m];obtain⟨px,G⟩:∃b,b=w1.heap.size:=⟨_,rfl⟩;rw[<-G]at s;generalize m0:w1.alloc _=J at j s⊢;rw[<-G];clear m0 G;have B:=hqh s;have O:=hqh (aU N.o j);have R:=hqh (aa j Q.o);have V:=hqh (aa j U.o);clear j s N Q U D;go_upto_region 3 with(first| (go_at_call 86;refine(E.o J).mono ?_;rintro e w3⟨gq,rfl,o,ho,d⟩;obtain⟨f,hf,n⟩:=GU ho UY SN;obtain⟨L,e0,Z,gb,go,cg,m2,db,d0,dc,hv,a,p⟩:=EO o hf n (by decide);rw[hv];have S:=hqh a;have X:=hqh p;have z:=hqh d;clear hv a p d ho o hf n)|fail);have c:Below w3.heap.size w3 (w3.alloc (.cells #[.slice L e0 Z,.slice (some ⟨gb,go,none⟩) 1 cg,.int .i64 m2] 25)):=(qjk _ _).alloc (qqf _) _;have u:=Blk.new w3 25 #[.slice L e0 Z,.slice (some ⟨gb,go,none⟩) 1 cg,.int .i64 m2];obtain⟨qx,H⟩:∃b,b=w3.heap.size:=⟨_,rfl⟩;rw[<-H]at u;generalize n0:w3.alloc _=w4 at c u⊢;rw[<-H];clear n0 H;have P:=hqh u;have HW:=hqh (aU (aU O.o z.o) c);have k:Below J.heap.size J w4:=aU z.o c;have K:=aa k R.o;have y:=aa k V.o;rw[show Db.length=5 from rfl]at K;rw[show(14:Int)=14 from rfl]at y;simp only[jzh,qzz]at y;have p1:=(B.o.below k).cell 1;have lp:=(B.o.below k).lt;have T:=hqh (aa c S.o);have l0:=hqh (λ(i:Nat)(x:In)(h:nJ[i]? =some x)=>aa c (X.o i x h).1);have I:=P.o.cell 1;have lq:=P.o.lt;have lf:=aK K;have lc:=aK y;clear c u k R V S X O z B E;go_upto_region 5 with fail;clear K y p1 lp lf lc;have r:=T.o;rw[show nJ.length=6 from rfl]at r;have lg:=aK r;have i0:=hqh I;have j0:=hqh r;clear T I r;go_wp2_with fail;go_loopg [5]6(λgk v wr=>∃i:Nat,i<=6/\6-i<=gk/\v=.int .i64 i/\wr=w4);case atStart=>exact⟨0,by omega,by omega,rfl,rfl⟩
 case round=>
  obtain⟨i,hi,p0,rfl,rfl⟩:=hrel;have I:=i0.o;have r:=j0.o;by_cases F:i<6;case neg=>have q:decide ((i:Int)<6)=false:=qqt oqo;have q':¬i<6:=F;go_wp2_with fail;go_ret;exact⟨rfl,HW.o⟩
  case pos=>
   have q:decide ((i:Int)<6)=true:=qqx oqo;have q0:(i:Int)<6:=oqo;obtain⟨x,a⟩:∃x,nJ[i]? =some x:=⟨_,qqh (show i<nJ.length from F)⟩;have k0:=l0.o i x a;have lk:=aK k0;have q3:((x.op:Int)==3)=false:=by have:=OU i x a;simp;omega
   have o0:=hqh F;clear a;go_wp2_with fail;cases gk with|zero=>omega|succ gk=>
    go_roundg gk;case measure=>omega
    case rel=>exact⟨i+1,by omega,by omega,by simp,rfl⟩
