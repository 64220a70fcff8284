/- Joint text: HRightA, HNums, HPlnA, MMem, MUpd, MUpe, MTop, DoA, MDo, MIns, MClone, MCloA, OOwn, OLead, OLeadW, ONext. By an AI agent. -/
import Derived.Test.YtgdibfnpkcdiiaaGreatDoorRzy
import Derived.Test.YtgdibfnpkcdiiaaGreatDoorR16
import Derived.Deep.AppendLies
import Derived.OwnWalk
import Derived.Laws.Bits128
set_option linter.all false
set_option maxRecDepth 100000
set_option maxHeartbeats 64000000
namespace Go.Proofs.YtgdibfnpkcdiiaaGreatDoor
open Go.RowKit
structure PrS(p:PrW):Prop where
 arrays:p.arrays.length<=1000000
 fns:p.fns.length<=1000000
 code:∀f∈p.fns,f.code.length<=1000000
 args:∀f∈p.fns,∀x∈f.code,x.args.length<=1000000
 op:∀f∈p.fns,∀x∈f.code,x.op<256
theorem Sq(n:Int)(w:World):Calls Tryz.prog 43 #[.int .i64 n] w λe w'=>e=.returned (.bool (!decide (1<=n/\n<=4096)))/\Below w.heap.size w w':=by
 obtain⟨r,hr⟩:∃r,r=!decide (1<=n/\n<=4096):=⟨_,rfl⟩;rw[<-hr];have HR:=hqh hr;clear hr;by_cases h1:n<1;·have a:decide (n<1)=true:=qqx h1;go_enter Tryz.func43,Tryz.ntmps43;go_wp2_with fail;go_ret;exact⟨aO (by rw[HR.o,qqt (show¬(1<=n/\n<=4096)by omega)];rfl),qjk _ _⟩
 ·have a:decide (n<1)=false:=qqt h1;by_cases h2:4096<n;·have b:decide (4096<n)=true:=qqx h2;go_enter Tryz.func43,Tryz.ntmps43;go_wp2_with fail;go_ret;exact⟨aO (by rw[HR.o,qqt (show¬(1<=n/\n<=4096)by omega)];rfl),qjk _ _⟩
  ·have b:decide (4096<n)=false:=qqt h2;go_enter Tryz.func43,Tryz.ntmps43;go_wp2_with fail;go_ret;exact⟨aO (by rw[HR.o,qqx (show 1<=n/\n<=4096 by omega)];rfl),qjk _ _⟩
theorem TY(a:Value)(W:World):(callFunc 43 #[a]).run Tryz.prog W=.ok (.enter 43 #[a]) W:=kqk
theorem Sd(a p:Value)(W:World):(callFunc 45 #[a,p]).run Tryz.prog W=.ok (.enter 45 #[a,p]) W:=kqk
theorem Sc(a p q:Value)(W:World):(callFunc 47 #[a,p,q]).run Tryz.prog W=.ok (.enter 47 #[a,p,q]) W:=kqk
structure PrB(w:World)(b:Nat)(g:PrG):Prop where
 c0:w.cell? ⟨b,0,none⟩=some g.av
 c1:w.cell? ⟨b,1,none⟩=some g.fv
 c2:w.cell? ⟨b,2,none⟩=some (.int .i64 g.p.main)
structure FnB(w:World)(b:Nat)(g:FnG):Prop where c0:w.cell? ⟨b,0,none⟩=some (.string ⟨g.fn.name.toArray⟩)c1:w.cell? ⟨b,1,none⟩=some (.int .i64 g.fn.params)c2:w.cell? ⟨b,2,none⟩=some (.int .i64 g.fn.vars)c3:w.cell? ⟨b,3,none⟩=some g.cv
theorem PrB.below{w w':World}{b:Nat}{g:PrG}(h:PrB w b g)(a:Below w.heap.size w w'):PrB w' b g:=⟨aa a h.c0,aa a h.c1,aa a h.c2⟩
theorem FnB.below{w w':World}{b:Nat}{g:FnG}(h:FnB w b g)(a:Below w.heap.size w w'):FnB w' b g:=⟨aa a h.c0,aa a h.c1,aa a h.c2,aa a h.c3⟩
theorem SI(g:PrG)(f:FnG)(x:InV)(p o:Nat)(w:World)(u:PrR w g)(hf:dW w f.cv f.l)(t:f.l.map (·.1)=f.fn.code)(C:ay w x.2 x.1.args)(ho:x.1.op<256)(B:x.1.args.length<=1000000)(k:PrB w p g)(j:FnB w o f):Calls Tryz.prog 47 #[ax x,.pointer (some ⟨p,0,none⟩),.pointer (some ⟨o,0,none⟩)] w λe w'=>e=.returned (.bool (!dJ g.p f.fn x.1))/\Below w.heap.size w w':=by obtain⟨D,q,i,s,y⟩:=C;have d:Below w.heap.size w (w.alloc (.cells #[.int .u8 x.1.op,.int .i64 x.1.v,.int .i64 x.1.a,.int .i64 x.1.b,.int .i64 x.1.n,.int .u8 x.1.bin,.slice D x.1.args.length q,.int .i64 x.1.f,.int .i64 x.1.arr,.int .i64 x.1.to] 71)):=(qjk _ _).alloc (qqf _) _;have h:=Ui g f x _ (u.below d) (hf.below d) t (ay.below ⟨D,q,i,s,y⟩ d) ho B;have F:=k.below d;have E:=j.below d;obtain⟨G,H,I⟩:=F;obtain⟨f0,f1,f2,f3⟩:=E;unfold prV fnV ax at h;unfold ax;rw[i]at h⊢;have m:=hqh h;have z:=hqh d;have K:=aK k.c0;have J:=aK j.c0;clear h d u hf t k j y i s;generalize dJ g.p f.fn x.1=res at m⊢;generalize g.av=av at*;generalize g.fv=fv at*;generalize f.cv=cv at*;go_enter Tryz.func47,Tryz.ntmps47;go_wp2_with fail;refine m.o.mono ?_;rintro e w1⟨rfl,r⟩;have A:=hqh (z.o.trans (r.mono (by simp)));clear r G H I f0 f1 f2 f3;go_wp2_with fail;go_ret;exact⟨rfl,A.o⟩
theorem dN{w:World}{base e size n:Nat}{v:Value}{xs:List Value}(h:w.ownsRow base e size v n xs):∃A c,v=.slice A n c:=by
 rcases h.2 with⟨rfl,rfl⟩|⟨g,cap,a,rfl,_⟩;·exact⟨_,_,rfl⟩
 ·exact⟨_,_,rfl⟩
theorem Hf(w:World)(t:TypeId)(cs:Array Value)(k n base:Nat)(hk:cs.size=n*k)(a:base<=w.heap.size)(hn:n<=maxLen):(w.alloc (.cells cs t)).ownsRow base t k (.slice (some ⟨w.heap.size,0,none⟩) n n) n cs.toList:=by refine⟨by simp[hk],Or.inr ⟨w.heap.size,n,cs,rfl,a,jxk w _,qqf _,hn,hk,?_⟩⟩;exact jqc (by simp[hk])
theorem own_below{w w':World}{base e size n:Nat}{v:Value}{xs:List Value}(h:w.ownsRow base e size v n xs)(a:Below w.heap.size w w'):w'.ownsRow base e size v n xs:=h.kept (row:=none) ⟨a.os,a.tape,a.output,a.size,λj hj _=>a.block j hj⟩ (by cases hv:v.ownBlock<;>simp)
def qN(l:List Int):List Value:=l.map λk=>.int .i64 k
theorem NW{w:World}{base e n:Nat}{v:Value}{a:List Int}(h:w.ownsRow base e 1 v n (qN a)):a.length=n/\ay w v a:=by
 have hl:a.length=n:=by have:=h.1;simpa [qN]using this
 refine⟨hl,?_⟩;rcases h.2 with⟨rfl,h0⟩|⟨g,cap,k,rfl,_,f,d,_,m,j⟩;·have:a=[]:=jxq.1 oqo;subst this;exact⟨none,0,rfl,qqf _,Or.inl rfl⟩
 ·subst hl;refine⟨_,cap,rfl,d,Or.inr ⟨g,0,rfl,λi x b=>?_⟩⟩;have h1:(qN a)[i]? =some (.int .i64 x):=by simp[qN,b]
  have hi:=(qqi.1 b).1;rw[<-j,qzw,qzb oqo]at h1;show World.cell? _ _=_;unfold World.cell?;simp only[f];simpa using h1
theorem Wv:(Tryz.prog.info? 2).map (λi=>(i.zero,i.size,i.bytes))=some (some (.int .i64 0),1,8):=kqk
theorem Qk(x:InV)(w:World)(hx:ay w x.2 x.1.args)(E:x.1.args.length<=1000000)(ho:x.1.op<256)(Y:x.1.bin<256):Calls Tryz.prog 54 #[ax x] w λe w'=>∃v,e=.returned v/\w'.ownsRow (w.heap.size+1) 2 1 v (dz x.1).length (qN (dz x.1))/\Below w.heap.size w w':=by
 obtain⟨x,xv⟩:=x;obtain⟨X,C,Q,M,H⟩:=hx;dsimp only at Q M H E ho Y;subst Q;obtain⟨a,G⟩:∃n,n=x.args.length:=⟨_,rfl⟩;unfold ax;dsimp only;rw[<-G];have m:=hqh G;have W:=hqh H;have R:=hqh E;have w1:IntKind.i64.wrap (x.op:Int)=x.op:=jqs _ oqo;have w2:IntKind.i64.wrap (x.bin:Int)=x.bin:=jqs _ oqo;obtain⟨i0,d0,m0,n0,o0⟩:=jxw Wv;clear G H M E;go_enter Tryz.func54,Tryz.ntmps54;go_wp2_with fail;have F:Below w.heap.size w (w.alloc (.cells #[.int .u8 x.op,.int .i64 x.v,.int .i64 x.a,.int .i64 x.b,.int .i64 x.n,.int .u8 x.bin,.slice X a C,.int .i64 x.f,.int .i64 x.arr,.int .i64 x.to] 71)):=(qjk _ _).alloc (qqf _) _;have c6:=(Blk.new w 71 #[.int .u8 x.op,.int .i64 x.v,.int .i64 x.a,.int .i64 x.b,.int .i64 x.n,.int .u8 x.bin,.slice X a C,.int .i64 x.f,.int .i64 x.arr,.int .i64 x.to]).cell 6;obtain⟨d,D⟩:∃d,d=w.alloc (.cells #[.int .u8 x.op,.int .i64 x.v,.int .i64 x.a,.int .i64 x.b,.int .i64 x.n,.int .u8 x.bin,.slice X a C,.int .i64 x.f,.int .i64 x.arr,.int .i64 x.to] 71):=⟨_,rfl⟩;have P:d.heap.size=w.heap.size+1:=by rw[D];simp
 rw[<-D]at F⊢;clear D c6;have z:=Hf d 2 #[.int .i64 x.op,.int .i64 x.v,.int .i64 x.a,.int .i64 x.b,.int .i64 x.n,.int .i64 x.bin,.int .i64 x.f,.int .i64 x.arr,.int .i64 x.to] 1 9 (w.heap.size+1) rfl oqo (by unfold maxLen;omega);have s:Below d.heap.size d (d.alloc (.cells #[.int .i64 x.op,.int .i64 x.v,.int .i64 x.a,.int .i64 x.b,.int .i64 x.n,.int .i64 x.bin,.int .i64 x.f,.int .i64 x.arr,.int .i64 x.to] 2)):=(qjk _ _).alloc (qqf _) _;obtain⟨h,J⟩:∃h,h=d.alloc (.cells #[.int .i64 x.op,.int .i64 x.v,.int .i64 x.a,.int .i64 x.b,.int .i64 x.n,.int .i64 x.bin,.int .i64 x.f,.int .i64 x.arr,.int .i64 x.to] 2):=⟨_,rfl⟩;rw[<-J]at z s⊢;rw[P]at z;clear J;have I:=hqh (F.trans (s.mono oqo));have U:=hqh (show w.heap.size+1<=h.heap.size by have:=s.size;omega);have T:=hqh (show h.ownsRow (w.heap.size+1) 2 1 (.slice (some ⟨w.heap.size+1,0,none⟩) 9 9) 9 (qN (dz {x with args:=[]}))from z);clear F s z P;go_loopg [3,30]a(λgk v i wr=>∃k:Nat,k<=a/\a-k<=gk/\i=.int .i64 k/\Hid (Below (w.heap.size+1) h wr)/\Hid (wr.ownsRow (w.heap.size+1) 2 1 v (9+k) (qN (dz {x with args:=x.args.take k}))));case atStart=>exact⟨0,qqy _,qqf _,rfl,hqh (qjk _ _),T⟩
 case round=>
  obtain⟨k,hk,p0,rfl,j,r⟩:=hrel;by_cases e0:k<a;case neg=>
   have q:decide ((k:Int)<(a:Int))=false:=qqt oqo;obtain⟨A,c,l0⟩:=dN r.o;have K:x.args.take k=x.args:=jqc (by rw[<-m.o];omega);have u:=r.o;rw[K]at u;have N:9+k=(dz x).length:=by simp[dz];have:=m.o;omega
   rw[N]at u;have S:=hqh u;subst l0;clear u K N;go_wp2_with fail;go_ret;exact⟨_,rfl,S.o,I.o.trans (j.o.mono oqo)⟩
  case pos=>
   have q:decide ((k:Int)<(a:Int))=true:=qqx oqo;obtain⟨y,f⟩:∃y,x.args[k]? =some y:=⟨_,qqh (by rw[<-m.o];exact e0)⟩;obtain⟨xb,xo,rfl,L⟩:∃b o,X=some ⟨b,o,none⟩/\wr.cell? ⟨b,o+k*1,none⟩=some (.int .i64 y):=by
    rcases W.o with e|⟨b,o,e,q⟩;·rw[e]at f;simp at f
    ·exact⟨b,o,e,(j.o.cell (p:=⟨b,o+k*1,none⟩) (Nat.lt_succ_of_lt (aK (q k y f)))).trans (aa I.o (q k y f))⟩
   rw[jzb]at L;have q0:(k:Int)<(a:Int):=oqo;have lb:=aK L;have r0:a<=1000000:=by rw[m.o];exact R.o
   have V:=hqh (show qN (dz {x with args:=x.args.take (k+1)})=qN (dz {x with args:=x.args.take k})++[.int .i64 y]by rw[jqu,f];simp[qN,dz]);have B:=hqh (qzi U.o j.o.size);clear f;go_wp2_with(at_builtin;refine jxn _ rfl _ _ 40 rfl (w.heap.size+1) 2 i0 (.int .i64 0) 1 8 Tryz.underlying40 d0 m0 n0 o0 rfl (by decide) _ _ _ rfl (r.o.alloc _) ⟨wr.heap.size,0,none⟩ 1 1 [.int .i64 y] rfl rfl (World.news_of_block (cs:=#[.int .i64 y]) (t:=2) (fr:=(0,0)) (jxk wr _)) (by simp[Value.oneCell']) (by unfold maxLen;omega) oqo ?_ ?_);·have:=B.o;simp;omega
   intro v' w6 j0 Z _;go_wp2_with fail;cases gk with|zero=>omega|succ gk=>
    go_roundg gk;case measure=>omega
    case rel=>refine⟨k+1,by omega,by omega,by simp,hqh ((j.o.alloc B.o _).grown Z (by have:=B.o;simp;omega) (λq e=>(r.o.lt q e).1)),hqh ?_⟩;rw[V.o];exact j0
theorem DK(x:InV)(w:World)(d:ay w x.2 x.1.args)(a:x.1.args.length<=1000000)(ho:x.1.op<256)(b:x.1.bin<256):Calls Tryz.prog 54 #[ax x] w λe w'=>∃v,e=.returned v/\ay w' v (dz x.1)/\Below w.heap.size w w':=(Qk x w d a ho b).mono λ_ _⟨v,h1,h2,h3⟩=>⟨v,h1,(NW h2).2,h3⟩
theorem Ik{α:Type}(C:α->List Value)(z:Nat)(hz:∀x,(C x).length=z):∀(l:List α)(i k:Nat)(x:α),l[i]? =some x->k<z->(l.flatMap C)[i*z+k]? =(C x)[k]? |[],i,k,x,h,_=>by simp at h|m::r,0,k,x,h,hk=>by simp at h;subst h;rw[jqj,jzh,qja,qzf (by rw[hz];exact hk)]|m::r,i+1,k,x,h,hk=>by have ih:=Ik C z hz r i k x (by simpa using h) hk;rw[jqj,qze (by rw[hz,jxa];omega),hz,show(i+1)*z+k-z=i*z+k by rw[jxa];omega];exact ih
theorem sP{α:Type}(C:α->List Value)(z:Nat)(hz:∀x,(C x).length=z){R:World->Nat->Nat->α->Prop}{w:World}{base e:Nat}{v:Value}{l:List α}(h:w.ownsRow base e z v l.length (l.flatMap C))(k:∀b o x,x∈l->(∀q,q<z->w.cell? ⟨b,o+q,none⟩=(C x)[q]?)->R w b o x):iW z R w v l:=by
 by_cases h0:l=[];·subst h0;obtain⟨A,c,rfl⟩:=dN h;exact⟨A,c,rfl,by simp,Or.inl rfl⟩
 ·have f:0<l.length:=List.length_pos_iff.2 h0;obtain⟨g,cap,hv,hc,s⟩:=h.form f;refine⟨_,cap,hv,?_,Or.inr ⟨g,0,rfl,λi x hi=>k _ _ _ (qqr hi) λq j=>?_⟩⟩
  ·rcases h.2 with⟨_,hn⟩|⟨g',m,p,a,_,_,r,_⟩;·omega
   ·rw[hv]at a;injection a with _ _ e;omega
  ·subst hv;have d:=(qqi.1 hi).1;have:=h.cellAt (i*z+q) (by have h1:(i+1)*z<=l.length*z:=jqk _ d;rw[jxa]at h1;omega);rw[qja,this];exact Ik C z hz l i q x hi j
theorem uz{w:World}{base base' e size n:Nat}{v:Value}{xs:List Value}(h:w.ownsRow base e size v n xs)(b:base'<=base):w.ownsRow base' e size v n xs:=by
 refine⟨h.1,?_⟩;rcases h.2 with hn|⟨g,cap,a,hv,d,r⟩;·exact Or.inl hn
 ·exact Or.inr ⟨g,cap,a,hv,qzi b d,r⟩
theorem j4{w w':World}{base e size n:Nat}{v:Value}{xs:List Value}(h:w.ownsRow base e size v n xs)(k:∀b,v.ownBlock=some b->w'.heap[b]? =w.heap[b]?):w'.ownsRow base e size v n xs:=by
 refine⟨h.1,?_⟩;rcases h.2 with hn|⟨g,cap,a,rfl,d,f,r⟩;·exact Or.inl hn
 ·exact Or.inr ⟨g,cap,a,rfl,d,(k g rfl).trans f,r⟩
theorem yD{α:Type}(C:α->List Value)(z:Nat)(hz:∀x,(C x).length=z)(q:Nat)(u:Value)(d:q<z):∀(l:List α)(i:Nat)(a b:α),l[i]? =some a->C b=(C a).set q u->(l.set i b).flatMap C=(l.flatMap C).set (i*z+q) u|[],_,_,_,h,_=>by simp at h|x::l,0,a,b,h,e=>by simp at h;subst h;simp only[qqj,jqj,jzh,qja];rw[e,List.set_append_left _ _ (by rw[hz];exact d)]|x::l,i+1,a,b,h,e=>by simp only[qqk,jqj];rw[yD C z hz q u d l i a b (by simpa using h) e,jzx _ _ (by rw[hz,jxa];omega),hz];congr 2;rw[jxa];omega
theorem kC{w:World}{base e size n g cap j:Nat}{xs:List Value}(h:w.ownsRow base e size (.slice (some ⟨g,0,none⟩) n cap) n xs)(u:Value):(w.setCell ⟨g,j,none⟩ u).ownsRow base e size (.slice (some ⟨g,0,none⟩) n cap) n (xs.set j u):=by
 refine⟨by simpa using h.1,?_⟩;rcases h.2 with⟨a,_⟩|⟨g',k,b,hv,f,i,hn,hm,hs,ht⟩;·cases a
 ·injection hv with a _ d;injection a with a;injection a with a;subst a;subst d;refine Or.inr ⟨g,cap,b.setIfInBounds j u,rfl,f,?_,hn,hm,by simpa using hs,?_⟩;·have:Blk (w.setCell ⟨g,j,none⟩ u) g e (b.setIfInBounds j u):=Blk.put (show Blk w g e b from i) j u;exact this
  ·rw[Array.toList_setIfInBounds,List.take_set,ht]
section
variable {w w1:World}
theorem RP{base e size m g cap:Nat}{xs i:List Value}(h:w.ownsRow base e size (.slice (some ⟨g,0,none⟩) (m+1) cap) (m+1) (xs++i))(f:xs.length=m*size):w.ownsRow base e size (.slice (some ⟨g,0,none⟩) m cap) m xs:=by
 refine⟨f,?_⟩;rcases h.2 with⟨c,_⟩|⟨g',p,d,hv,k,o,hn,hm,hs,ht⟩;·cases c
 ·injection hv with a _ b;injection a with a;injection a with a;subst a;subst b;refine Or.inr ⟨g,cap,d,rfl,k,o,by omega,hm,hs,?_⟩;have j:m*size<=(m+1)*size:=jqk _ oqo;have b:(d.toList.take ((m+1)*size)).take (m*size)=(xs++i).take (m*size):=by rw[ht]
  rw[List.take_take,jzd j]at b;rw[b,<-f,List.take_left]
end
theorem BK{w:World}{base e size n:Nat}{v:Value}{xs:List Value}(h:w.ownsRow base e size v n xs):∃A c,v=.slice A n c:=by
 rcases h.2 with⟨rfl,rfl⟩|⟨g,cap,a,rfl,_⟩;·exact⟨_,_,rfl⟩
 ·exact⟨_,_,rfl⟩
theorem eY{k:IntKind}{a b:Int}(h:a=b):Ending.returned (.int k a)=.returned (.int k b):=by rw[h]
theorem vX(x:Bool)(w:World):Calls Tryz.prog 65 #[.bool x] w λe w'=>e=.returned (.int .i64 (if x then 1 else 0))/\w=w':=by cases x<;>(go_enter Tryz.func65,Tryz.ntmps65;go_wp2_with fail;go_ret;exact⟨rfl,rfl⟩)
theorem BL(n:Int):bits .and .i64 n 63=n%64:=by
 have a:(BitVec.ofInt 64 63).toNat=2^6-1:=by decide
 have key:(BitVec.ofInt 64 n&&&BitVec.ofInt 64 63).toNat=(n%((2^64:Nat):Int)).toNat%2^6:=by rw[BitVec.toNat_and,BitVec.toNat_ofInt,a,Nat.and_two_pow_sub_one_eq_mod]
 show IntKind.i64.wrap ((BitVec.ofInt 64 n&&&BitVec.ofInt 64 63).toNat:Nat)=n%64;rw[key,IntKind.wrap_i64];omega
theorem Cs(n:Int):(IntKind.u64.wrap n).tmod 64=n%64:=by have h0:=wrap_u64_nonneg n;rw[Int.tmod_eq_emod_of_nonneg h0];simp only[IntKind.wrap,IntKind.bits,IntKind.signed];simp
def doW(op:Nat)(a b:Int):Int:=if op=1 then wrap64 (a+b)else if op=2 then wrap64 (a-b)else if op=3 then wrap64 (a*b)else if op=8 then bits .and .i64 a b else if op=9 then bits .or .i64 a b else if op=10 then bits .xor .i64 a b else if op=11 then wrap64 (a*2^(b%64).toNat)else if op=13 then wrap64 (a/2^(b%64).toNat)else if op=14 then(if a<b then 1 else 0)else if op=16 then(if a=b then 1 else 0)else if op=4 then(if b=0 then-1 else if b= -1 then wrap64 (-a)else wrap64 (a.tdiv b))else if op=5 then(if b=0 then wrap64 a else if b= -1 then 0 else wrap64 (a.tmod b))else 0
theorem wrap64_in(n:Int):I64 (wrap64 n):=by unfold wrap64 I64;omega
theorem vv{n:Int}(h:I64 n):wrap64 n=n:=by unfold wrap64;unfold I64 at h;omega
theorem xK(o:BinOp)(a b:Int):I64 (bits o .i64 a b):=by
 have:∀n,I64 (IntKind.i64.wrap n):=λn=>by rw[IntKind.wrap_i64];unfold I64;omega
 exact this _
theorem mO(op:Nat)(a b:Int):I64 (doW op a b):=by
 have d:I64 0:=⟨by omega,by omega⟩;have f:I64 1:=⟨by omega,by omega⟩;have k:I64 (-1):=⟨by omega,by omega⟩;have c:∀(p:Prop) [Decidable p](x y:Int),I64 x->I64 y->I64 (if p then x else y):=λp _ x y i j=>by by_cases h:p<;>simp[h,i,j]
 unfold doW;exact c _ _ _ (wrap64_in _) (c _ _ _ (wrap64_in _) (c _ _ _ (wrap64_in _) (c _ _ _ (xK _ _ _) (c _ _ _ (xK _ _ _) (c _ _ _ (xK _ _ _) (c _ _ _ (wrap64_in _) (c _ _ _ (wrap64_in _) (c _ _ _ (c _ _ _ f d) (c _ _ _ (c _ _ _ f d) (c _ _ _ (c _ _ _ k (c _ _ _ (wrap64_in _) (wrap64_in _))) (c _ _ _ (c _ _ _ (wrap64_in _) (c _ _ _ d (wrap64_in _))) d)))))))))))
theorem VL(a b:Int)(w:World):Calls Tryz.prog 20 #[.int .u8 1,.int .i64 a,.int .i64 b] w λe w'=>e=.returned (.int .i64 (doW 1 a b))/\w=w':=by
 obtain⟨d,hd⟩:∃d,d=doW 1 a b:=⟨_,rfl⟩;rw[<-hd];have f:=hqh hd;clear hd;go_enter Tryz.func20,Tryz.ntmps20;go_wp2_with fail;all_goals go_ret
 all_goals exact⟨eY (by rw[f.o];rfl),rfl⟩
theorem Wl(a b:Int)(w:World):Calls Tryz.prog 20 #[.int .u8 2,.int .i64 a,.int .i64 b] w λe w'=>e=.returned (.int .i64 (doW 2 a b))/\w=w':=by
 obtain⟨d,hd⟩:∃d,d=doW 2 a b:=⟨_,rfl⟩;rw[<-hd];have f:=hqh hd;clear hd;go_enter Tryz.func20,Tryz.ntmps20;go_wp2_with fail;all_goals go_ret
 all_goals exact⟨eY (by rw[f.o];rfl),rfl⟩
theorem Wh(a b:Int)(w:World):Calls Tryz.prog 20 #[.int .u8 3,.int .i64 a,.int .i64 b] w λe w'=>e=.returned (.int .i64 (doW 3 a b))/\w=w':=by
 obtain⟨d,hd⟩:∃d,d=doW 3 a b:=⟨_,rfl⟩;rw[<-hd];have f:=hqh hd;clear hd;go_enter Tryz.func20,Tryz.ntmps20;go_wp2_with fail;all_goals go_ret
 all_goals exact⟨eY (by rw[f.o];rfl),rfl⟩
theorem WG(a b:Int)(w:World):Calls Tryz.prog 20 #[.int .u8 8,.int .i64 a,.int .i64 b] w λe w'=>e=.returned (.int .i64 (doW 8 a b))/\w=w':=by
 obtain⟨d,hd⟩:∃d,d=doW 8 a b:=⟨_,rfl⟩;rw[<-hd];have f:=hqh hd;clear hd;go_enter Tryz.func20,Tryz.ntmps20;go_wp2_with fail;all_goals go_ret
 all_goals exact⟨eY (by rw[f.o];rfl),rfl⟩
theorem Wt(a b:Int)(w:World):Calls Tryz.prog 20 #[.int .u8 9,.int .i64 a,.int .i64 b] w λe w'=>e=.returned (.int .i64 (doW 9 a b))/\w=w':=by
 obtain⟨d,hd⟩:∃d,d=doW 9 a b:=⟨_,rfl⟩;rw[<-hd];have f:=hqh hd;clear hd;go_enter Tryz.func20,Tryz.ntmps20;go_wp2_with fail;all_goals go_ret
 all_goals exact⟨eY (by rw[f.o];rfl),rfl⟩
theorem Vg(a b:Int)(w:World):Calls Tryz.prog 20 #[.int .u8 10,.int .i64 a,.int .i64 b] w λe w'=>e=.returned (.int .i64 (doW 10 a b))/\w=w':=by
 obtain⟨d,hd⟩:∃d,d=doW 10 a b:=⟨_,rfl⟩;rw[<-hd];have f:=hqh hd;clear hd;go_enter Tryz.func20,Tryz.ntmps20;go_wp2_with fail;all_goals go_ret
 all_goals exact⟨eY (by rw[f.o];rfl),rfl⟩
theorem Uw(a b:Int)(w:World):Calls Tryz.prog 20 #[.int .u8 11,.int .i64 a,.int .i64 b] w λe w'=>e=.returned (.int .i64 (doW 11 a b))/\w=w':=by
 obtain⟨d,hd⟩:∃d,d=doW 11 a b:=⟨_,rfl⟩;rw[<-hd];have h:=hqh hd;clear hd;have j:=BL b;have k:=Cs b;have hc:0<=b%64:=oqo;have m:b%64<64:=oqo;obtain⟨c,f⟩:∃c,c=b%64:=⟨_,rfl⟩;have i:=hqh (show min c.toNat 64=(b%64).toNat by rw[f];omega);rw[<-f]at j k hc;clear f m;go_enter Tryz.func20,Tryz.ntmps20;go_wp2_with fail;all_goals go_ret
 all_goals exact⟨eY (by rw[h.o,i.o];rfl),rfl⟩
theorem UZ{a:Int}(h:I64 a)(k:Nat):I64 (a/2^k):=by
 obtain⟨h1,h2⟩:=h;have b:(0:Int)<2^k:=Int.pow_pos (by decide);generalize(2:Int)^k=m at b;have d:=Int.mul_ediv_add_emod a m;have f:=Int.emod_nonneg a (show m≠0 by omega);have i:=Int.emod_lt_of_pos a b;constructor;·apply Int.le_ediv_of_mul_le b;have: -9223372036854775808*m<=-9223372036854775808*1:=Int.mul_le_mul_of_nonpos_left oqo oqo;omega
 ·by_cases h0:0<=a;·exact Int.le_trans (Int.ediv_le_self _ h0) h2
  ·have:a/m<0:=Int.ediv_neg_of_neg_of_pos oqo b;omega
theorem Ue{a b:Int}(h:I64 a):I64 (a.tmod b):=by
 obtain⟨h1,h2⟩:=h;have h3:(a.tmod b).natAbs=a.natAbs%b.natAbs:=Int.natAbs_tmod a b;have d:=Nat.mod_le a.natAbs b.natAbs;rcases Int.le_total 0 a with h|h;·have:=Int.tmod_nonneg b h;constructor<;>omega
 ·have:(a.tmod b)<=0:=by have e:=Int.tmod_nonneg b (show 0<=-a by omega);rw[Int.neg_tmod]at e;omega
  constructor<;>omega
theorem Vk(a b:Int)(ha:Hid (I64 a))(w:World):Calls Tryz.prog 20 #[.int .u8 13,.int .i64 a,.int .i64 b] w λe w'=>e=.returned (.int .i64 (doW 13 a b))/\w=w':=by
 obtain⟨d,hd⟩:∃d,d=doW 13 a b:=⟨_,rfl⟩;rw[<-hd];have h:=hqh hd;clear hd;have j:=BL b;have k:=Cs b;have hc:0<=b%64:=oqo;have m:b%64<64:=oqo;obtain⟨c,f⟩:∃c,c=b%64:=⟨_,rfl⟩;have i:=hqh (show min c.toNat 64=(b%64).toNat by rw[f];omega);rw[<-f]at j k hc;clear f m;go_enter Tryz.func20,Tryz.ntmps20;go_wp2_with fail;all_goals go_ret
 all_goals exact⟨eY (by rw[h.o,i.o];exact(vv (UZ ha.o _)).symm),rfl⟩
theorem VZ(a b:Int)(f:b≠0)(h:b≠-1)(w:World):Calls Tryz.prog 20 #[.int .u8 4,.int .i64 a,.int .i64 b] w λe w'=>e=.returned (.int .i64 (doW 4 a b))/\w=w':=by
 obtain⟨d,hd⟩:∃d,d=doW 4 a b:=⟨_,rfl⟩;rw[<-hd];have i:=hqh hd;clear hd;have h0:(b==0)=false:=by simpa using f
 have h1:(b== -1)=false:=by simpa using h
 have h2:b≠0:=f;go_enter Tryz.func20,Tryz.ntmps20;go_wp2_with fail;all_goals go_ret
 all_goals exact⟨eY (by rw[i.o];show _=(if b=0 then-1 else if b= -1 then wrap64 (-a)else wrap64 (a.tdiv b));rw[qzc f,qzc h]),rfl⟩
theorem Wu(a b:Int)(ha:Hid (I64 a))(f:b≠0)(h:b≠-1)(w:World):Calls Tryz.prog 20 #[.int .u8 5,.int .i64 a,.int .i64 b] w λe w'=>e=.returned (.int .i64 (doW 5 a b))/\w=w':=by
 obtain⟨d,hd⟩:∃d,d=doW 5 a b:=⟨_,rfl⟩;rw[<-hd];have i:=hqh hd;clear hd;have h0:(b==0)=false:=by simpa using f
 have h1:(b== -1)=false:=by simpa using h
 have h2:b≠0:=f;go_enter Tryz.func20,Tryz.ntmps20;go_wp2_with fail;all_goals go_ret
 all_goals exact⟨eY (by rw[i.o];show _=(if b=0 then wrap64 a else if b= -1 then 0 else wrap64 (a.tmod b));rw[qzc f,qzc h,vv (Ue ha.o)]),rfl⟩
theorem UD(a:Int)(w:World):Calls Tryz.prog 20 #[.int .u8 4,.int .i64 a,.int .i64 (0)] w λe w'=>e=.returned (.int .i64 (doW 4 a (0)))/\w=w':=by
 obtain⟨d,hd⟩:∃d,d=doW 4 a (0):=⟨_,rfl⟩;rw[<-hd];have b:=hqh hd;clear hd;go_enter Tryz.func20,Tryz.ntmps20;go_wp2_with fail;all_goals go_ret
 all_goals exact⟨eY (by rw[b.o];rfl),rfl⟩
theorem UQ(a:Int)(w:World):Calls Tryz.prog 20 #[.int .u8 4,.int .i64 a,.int .i64 (-1)] w λe w'=>e=.returned (.int .i64 (doW 4 a (-1)))/\w=w':=by
 obtain⟨d,hd⟩:∃d,d=doW 4 a (-1):=⟨_,rfl⟩;rw[<-hd];have b:=hqh hd;clear hd;go_enter Tryz.func20,Tryz.ntmps20;go_wp2_with fail;all_goals go_ret
 all_goals exact⟨eY (by rw[b.o];rfl),rfl⟩
theorem U4(a:Int)(ha:Hid (I64 a))(w:World):Calls Tryz.prog 20 #[.int .u8 5,.int .i64 a,.int .i64 (0)] w λe w'=>e=.returned (.int .i64 (doW 5 a (0)))/\w=w':=by
 obtain⟨d,hd⟩:∃d,d=doW 5 a (0):=⟨_,rfl⟩;rw[<-hd];have b:=hqh hd;clear hd;go_enter Tryz.func20,Tryz.ntmps20;go_wp2_with fail;all_goals go_ret
 all_goals exact⟨eY (by rw[b.o];exact(vv ha.o).symm),rfl⟩
theorem UK(a:Int)(w:World):Calls Tryz.prog 20 #[.int .u8 5,.int .i64 a,.int .i64 (-1)] w λe w'=>e=.returned (.int .i64 (doW 5 a (-1)))/\w=w':=by
 obtain⟨d,hd⟩:∃d,d=doW 5 a (-1):=⟨_,rfl⟩;rw[<-hd];have b:=hqh hd;clear hd;go_enter Tryz.func20,Tryz.ntmps20;go_wp2_with fail;all_goals go_ret
 all_goals exact⟨eY (by rw[b.o];rfl),rfl⟩
theorem Tn(a b:Int)(hl:a<b)(w:World):Calls Tryz.prog 20 #[.int .u8 14,.int .i64 a,.int .i64 b] w λe w'=>e=.returned (.int .i64 (doW 14 a b))/\w=w':=by
 obtain⟨d,hd⟩:∃d,d=doW 14 a b:=⟨_,rfl⟩;rw[<-hd];have f:=hqh hd;clear hd;have h:decide (a<b)=true:=qqx hl;go_enter Tryz.func20,Tryz.ntmps20;go_wp2_with fail;refine(vX _ _).mono ?_;rintro e w1⟨rfl,rfl⟩;go_wp2_with fail;all_goals go_ret
 all_goals exact⟨eY (by rw[f.o];show _=(if a<b then(1:Int)else 0);rw[qzb hl]),rfl⟩
theorem Ub(a b:Int)(hl:¬a<b)(w:World):Calls Tryz.prog 20 #[.int .u8 14,.int .i64 a,.int .i64 b] w λe w'=>e=.returned (.int .i64 (doW 14 a b))/\w=w':=by
 obtain⟨d,hd⟩:∃d,d=doW 14 a b:=⟨_,rfl⟩;rw[<-hd];have f:=hqh hd;clear hd;have h:decide (a<b)=false:=qqt hl;go_enter Tryz.func20,Tryz.ntmps20;go_wp2_with fail;refine(vX _ _).mono ?_;rintro e w1⟨rfl,rfl⟩;go_wp2_with fail;all_goals go_ret
 all_goals exact⟨eY (by rw[f.o];show _=(if a<b then(1:Int)else 0);rw[qzc oqo]),rfl⟩
theorem SQ(a b:Int)(hl:a=b)(w:World):Calls Tryz.prog 20 #[.int .u8 16,.int .i64 a,.int .i64 b] w λe w'=>e=.returned (.int .i64 (doW 16 a b))/\w=w':=by
 obtain⟨d,hd⟩:∃d,d=doW 16 a b:=⟨_,rfl⟩;rw[<-hd];have f:=hqh hd;clear hd;have h:(a==b)=true:=by simpa using hl
 go_enter Tryz.func20,Tryz.ntmps20;go_wp2_with fail;refine(vX _ _).mono ?_;rintro e w1⟨rfl,rfl⟩;go_wp2_with fail;all_goals go_ret
 all_goals exact⟨eY (by rw[f.o];show _=(if a=b then(1:Int)else 0);rw[qzb hl]),rfl⟩
theorem Sj(a b:Int)(hl:¬a=b)(w:World):Calls Tryz.prog 20 #[.int .u8 16,.int .i64 a,.int .i64 b] w λe w'=>e=.returned (.int .i64 (doW 16 a b))/\w=w':=by
 obtain⟨d,hd⟩:∃d,d=doW 16 a b:=⟨_,rfl⟩;rw[<-hd];have f:=hqh hd;clear hd;have h:(a==b)=false:=by simpa using hl
 go_enter Tryz.func20,Tryz.ntmps20;go_wp2_with fail;refine(vX _ _).mono ?_;rintro e w1⟨rfl,rfl⟩;go_wp2_with fail;all_goals go_ret
 all_goals exact⟨eY (by rw[f.o];show _=(if a=b then(1:Int)else 0);rw[qzc oqo]),rfl⟩
theorem UA(op:Nat)(d:op∈jE)(a b:Int)(ha:I64 a)(w:World):Calls Tryz.prog 20 #[.int .u8 op,.int .i64 a,.int .i64 b] w λe w'=>e=.returned (.int .i64 (doW op a b))/\w=w':=by
 simp only[jE,qzh,qjh,jxo]at d;rcases d with rfl|rfl|rfl|rfl|rfl|rfl|rfl|rfl|rfl|rfl|rfl|rfl;·exact VL a b w
 ·exact Wl a b w
 ·exact Wh a b w
 ·by_cases h0:b=0;·subst h0;exact UD a w
  ·by_cases h1:b= -1;·subst h1;exact UQ a w
   ·exact VZ a b h0 h1 w
 ·by_cases h0:b=0;·subst h0;exact U4 a (hqh ha) w
  ·by_cases h1:b= -1;·subst h1;exact UK a w
   ·exact Wu a b (hqh ha) h0 h1 w
 ·exact WG a b w
 ·exact Wt a b w
 ·exact Vg a b w
 ·exact Uw a b w
 ·exact Vk a b (hqh ha) w
 ·by_cases h:a<b;·exact Tn a b h w
  ·exact Ub a b h w
 ·by_cases h:a=b;·exact SQ a b h w
  ·exact Sj a b h w
theorem jC{α:Type}(C:α->List Value)(z:Nat)(hz:∀x,(C x).length=z):∀(l:List α)(i k:Nat)(x:α),l[i]? =some x->k<z->(l.flatMap C)[i*z+k]? =(C x)[k]? |[],i,k,x,h,_=>by simp at h|m::r,0,k,x,h,hk=>by simp at h;subst h;rw[jqj,jzh,qja,qzf (by rw[hz];exact hk)]|m::r,i+1,k,x,h,hk=>by have ih:=jC C z hz r i k x (by simpa using h) hk;rw[jqj,qze (by rw[hz,jxa];omega),hz,show(i+1)*z+k-z=i*z+k by rw[jxa];omega];exact ih
structure nU(w:World)(A:Option Addr)(n z:Nat)(xs:List Value):Prop where
 len:xs.length=n*z
 nil:A=none->n=0
 at_:∀ad:Addr,A=some ad->∀j u,xs[j]? =some u->w.cell? (ad.add j)=some u
 one:∀u∈xs,u.oneCell'=true
theorem VI:(Tryz.prog.info? 3).map (λi=>(i.zero,i.size,i.bytes))=some (some (.int .i64 0),1,8):=kqk
theorem Hu(A:Option Addr)(n c:Nat)(xs:List Value)(w:World)(h:nU w A n 1 xs)(hn:n<=1000000):Calls Tryz.prog 87 #[.slice A n c] w λe w'=>∃a,e=.returned a/\w'.ownsRow w.heap.size 3 1 a n xs/\Below w.heap.size w w':=by
 obtain⟨x,p,r,s,t⟩:=jxw VI;have H:=hqh h;rcases A with _|ad
 ·have h0:=h.nil rfl;subst h0;have f:xs=[]:=jze (by rw[h.len,jzh]);have m:=hqh f;clear h f;have o:∀W,(binOp .eql 22 (.slice none 0 c) (.slice none 0 0)).run Tryz.prog W=.ok (.bool true) W:=λ_=>by kernel_rfl
  go_enter Tryz.func87,Tryz.ntmps87;go_wp2_with fail;go_ret;exact⟨_,rfl,by rw[m.o];exact⟨rfl,Or.inl ⟨rfl,rfl⟩⟩,qjk _ _⟩
 ·clear h;have o:∀W,(binOp .eql 22 (.slice (some ad) n c) (.slice none 0 0)).run Tryz.prog W=.ok (.bool false) W:=λ_=>by kernel_rfl
  go_enter Tryz.func87,Tryz.ntmps87;go_wp2_with(at_builtin;refine jxn _ rfl _ _ 22 rfl w.heap.size 3 x (.int .i64 0) 1 8 Tryz.underlying22 p r s t rfl (by decide) _ 0 [] rfl (World.ownsRow_made w #[] 0 (qqf _) (by decide) rfl) ad n c xs rfl H.o.len (λj u hu=>?_) H.o.one (by unfold maxLen;omega) oqo (by simp) ?_);·have:=H.o.at_ ad rfl j u hu;rw[World.cell?_alloc_lt _ _ _ (World.block_lt_of_cell? w _ this)];exact this
  intro a w1 d b _;have k:=hqh d;have i:=hqh b;clear d b;go_wp2_with fail;go_ret;have ho:w1.ownsRow w.heap.size 3 1 a n xs:=by simpa using k.o
  refine⟨a,rfl,ho,((qjk w.heap.size w).alloc (qqf _) _).grown i.o (by simp) (λq e=>?_)⟩;have:w.heap.size=q:=by simpa [Value.ownBlock]using e
  omega
theorem GN:(Tryz.prog.info? 71).map (λi=>(i.zero,i.size,i.bytes))=some (some (.agg #[.int .u8 0,.int .i64 0,.int .i64 0,.int .i64 0,.int .i64 0,.int .u8 0,.slice none 0 0,.int .i64 0,.int .i64 0,.int .i64 0]),10,96):=kqk
theorem QE(A:Option Addr)(n c:Nat)(xs:List Value)(w:World)(h:nU w A n 10 xs)(hn:n<=1000000):Calls Tryz.prog 121 #[.slice A n c] w λe w'=>∃a,e=.returned a/\w'.ownsRow w.heap.size 71 10 a n xs/\Below w.heap.size w w':=by
 obtain⟨x,p,r,s,t⟩:=jxw GN;have H:=hqh h;rcases A with _|ad
 ·have h0:=h.nil rfl;subst h0;have f:xs=[]:=jze (by rw[h.len,jzh]);have m:=hqh f;clear h f;have o:∀W,(binOp .eql 65 (.slice none 0 c) (.slice none 0 0)).run Tryz.prog W=.ok (.bool true) W:=λ_=>by kernel_rfl
  go_enter Tryz.func121,Tryz.ntmps121;go_wp2_with fail;go_ret;exact⟨_,rfl,by rw[m.o];exact⟨rfl,Or.inl ⟨rfl,rfl⟩⟩,qjk _ _⟩
 ·clear h;have o:∀W,(binOp .eql 65 (.slice (some ad) n c) (.slice none 0 0)).run Tryz.prog W=.ok (.bool false) W:=λ_=>by kernel_rfl
  go_enter Tryz.func121,Tryz.ntmps121;go_wp2_with(at_builtin;refine jxn _ rfl _ _ 65 rfl w.heap.size 71 x (.agg #[.int .u8 0,.int .i64 0,.int .i64 0,.int .i64 0,.int .i64 0,.int .u8 0,.slice none 0 0,.int .i64 0,.int .i64 0,.int .i64 0]) 10 96 Tryz.underlying65 p r s t rfl (by decide) _ 0 [] rfl (World.ownsRow_made w #[] 0 (qqf _) (by decide) rfl) ad n c xs rfl H.o.len (λj u hu=>?_) H.o.one (by unfold maxLen;omega) oqo (by simp) ?_);·have:=H.o.at_ ad rfl j u hu;rw[World.cell?_alloc_lt _ _ _ (World.block_lt_of_cell? w _ this)];exact this
  intro a w1 d b _;have k:=hqh d;have i:=hqh b;clear d b;go_wp2_with fail;go_ret;have ho:w1.ownsRow w.heap.size 71 10 a n xs:=by simpa using k.o
  refine⟨a,rfl,ho,((qjk w.heap.size w).alloc (qqf _) _).grown i.o (by simp) (λq e=>?_)⟩;have:w.heap.size=q:=by simpa [Value.ownBlock]using e
  omega
theorem qB{α:Type}(C:α->List Value)(z:Nat)(hz:∀x,(C x).length=z)(l:List α):(l.flatMap C).length=l.length*z:=by induction l with|nil=>simp|cons a l ih=>rw[jqj,qzl,ih,hz,qzv,jxa];omega
theorem zt{α:Type}(C:α->List Value)(z:Nat)(y:0<z)(hz:∀x,(C x).length=z){R:World->Nat->Nat->α->Prop}{w:World}{A:Option Addr}{n c:Nat}{l:List α}(h:iW z R w (.slice A n c) l)(hn:n=l.length)(k:∀b o x,R w b o x->∀q,q<z->w.cell? ⟨b,o+q,none⟩=(C x)[q]?)(one:∀x∈l,∀u∈C x,u.oneCell'=true):nU w A n z (l.flatMap C):=by
 obtain⟨B,c2,r,_,h2⟩:=h;injection r with s _ _;subst s;refine⟨by rw[qB C z hz,hn],λe=>?_,λad e j u hu=>?_,λu hu=>?_⟩
 ·rcases h2 with h2|⟨b2,m,d,_⟩;·rw[hn,h2];rfl
  ·rw[e]at d;cases d
 ·have hj:=(qqi.1 hu).1;rw[qB C z hz]at hj;rcases h2 with h2|⟨b2,m,d,h2⟩;·rw[h2]at hj;simp at hj
  ·rw[e]at d;injection d with d;subst d;obtain⟨i,q,p,rfl⟩:∃i q,q<z/\j=i*z+q:=⟨j/z,j%z,Nat.mod_lt _ y,by rw[Nat.mul_comm];exact(Nat.div_add_mod _ _).symm⟩;have hi:i<l.length:=by apply Nat.lt_of_mul_lt_mul_right (a:=z);omega
   have f:=qqh hi;rw[jC C z hz l i q _ f p]at hu;have t:(⟨b2,m,none⟩:Addr).add (i*z+q)=⟨b2,m+(i*z+q),none⟩:=by unfold Addr.add;split<;>simp_all
   rw[t,<-jqp,k b2 _ _ (h2 i _ f) q p,hu]
 ·obtain⟨x,f,hu⟩:=List.mem_flatMap.1 hu;exact one x f u hu
theorem Li{α:Type}(C:α->List Value)(z:Nat)(hz:∀x,(C x).length=z){R:World->Nat->Nat->α->Prop}{w:World}{base e n:Nat}{v:Value}{l:List α}(h:w.ownsRow base e z v n (l.flatMap C))(hn:n=l.length)(k:∀b o x,x∈l->(∀q,q<z->w.cell? ⟨b,o+q,none⟩=(C x)[q]?)->R w b o x):iW z R w v l:=by
 subst hn;rcases h.2 with⟨rfl,h0⟩|⟨g,cap,j,rfl,_,m,d,_,hs,ht⟩;·exact⟨none,0,by rw[h0],by omega,Or.inl (jze h0)⟩
 ·refine⟨_,cap,rfl,d,Or.inr ⟨g,0,rfl,λi x hi=>k _ _ _ (qqr hi) λq f=>?_⟩⟩;have a:=(qqi.1 hi).1;have:=h.cellAt (i*z+q) (by have h1:(i+1)*z<=l.length*z:=jqk _ a;rw[jxa]at h1;omega);rw[qja,this];exact jC C z hz l i q x hi f
def bI(y:InV):List Value:=[.int .u8 y.1.op,.int .i64 y.1.v,.int .i64 y.1.a,.int .i64 y.1.b,.int .i64 y.1.n,.int .u8 y.1.bin,y.2,.int .i64 y.1.f,.int .i64 y.1.arr,.int .i64 y.1.to]
def IB(x:FnG):List Value:=[.string ⟨x.fn.name.toArray⟩,.int .i64 x.fn.params,.int .i64 x.fn.vars,x.cv]
def dx(k:Int):List Value:=[.int .i64 k]
theorem sI{w:World}{base base' e size n:Nat}{v:Value}{xs:List Value}(h:w.ownsRow base e size v n xs)(b:base'<=base):w.ownsRow base' e size v n xs:=by
 refine⟨h.1,?_⟩;rcases h.2 with hn|⟨g,cap,a,hv,d,r⟩;·exact Or.inl hn
 ·exact Or.inr ⟨g,cap,a,hv,qzi b d,r⟩
theorem Cw{w:World}{B n:Nat}{v:Value}{l:List Int}(h:w.ownsRow B 3 1 v n (l.flatMap dx))(hn:n=l.length):ay w v l:=Li dx 1 (λ_=>rfl) h hn λb o x _ a=>a 0 oqo
theorem zL{w:World}{A:Option Addr}{n c:Nat}{l:List Int}(h:ay w (.slice A n c) l)(hn:n=l.length):nU w A n 1 (l.flatMap dx):=zt dx 1 (by decide) (λ_=>rfl) h hn (λb o x d q a=>match q,a with|0,_=>d) (λx _ u hu=>by simp[dx]at hu;subst hu;rfl)
theorem NB{w:World}{A:Option Addr}{n c:Nat}{l:List InV}(h:dW w (.slice A n c) l)(hn:n=l.length):nU w A n 10 (l.flatMap bI):=zt bI 10 (by decide) (λ_=>rfl) h hn (λb o x a q j=>by match q,j with|0,_=>exact a.c0|1,_=>exact a.c1|2,_=>exact a.c2|3,_=>exact a.c3|4,_=>exact a.c4|5,_=>exact a.c5|6,_=>exact a.c6|7,_=>exact a.c7|8,_=>exact a.c8|9,_=>exact a.c9) (λx a u hu=>by
  have ha:∃A c,x.2=.slice A x.1.args.length c:=by
   obtain⟨k,c2,_,_,h2⟩:=h;obtain⟨i,hi⟩:=jqr.1 a;rcases h2 with h2|⟨b,o,_,h2⟩;·rw[h2]at hi;simp at hi
   ·obtain⟨f,c3,d,_⟩:=(h2 i x hi).args;exact⟨f,c3,d⟩
  obtain⟨f,c3,d⟩:=ha;simp only[bI,d,qzh,qjh,jxo]at hu;rcases hu with rfl|rfl|rfl|rfl|rfl|rfl|rfl|rfl|rfl|rfl<;>rfl)
section
variable {w w':World}{base e size n:Nat}{v:Value}{xs:List Value}{O:Nat->Prop}
theorem dm(h:w.ownsRow base e size v n xs)(k:KO O w w')(hn:∀b,v.ownBlock=some b->¬O b):w'.ownsRow base e size v n xs:=j4 h λb a=>k.block b (h.lt b a).2 (hn b a)
theorem aT{b:Nat}(h:w.ownsRow base e size v n xs)(d:v.ownBlock=some b):∃a,w.heap[b]? =some (.cells a e (0,0)):=by
 rcases h.2 with⟨rfl,_⟩|⟨g,cap,a,rfl,_,f,_⟩;·cases d
 ·simp only[Value.ownBlock,qzk]at d;subst d;exact⟨a,f⟩
end
theorem bQ.apart{w:World}{g b0 b1 b2 n:Nat}{B:ae}(h:bQ w g b0 b1 b2 n B){b e:Nat}{cur:Array Value}(a:w.heap[b]? =some (.cells cur e (0,0)))(he:e≠194):b≠g/\b≠b0/\b≠b1/\b≠b2:=by
 have i:=h.blk;unfold Blk at i;have key:∀{κ:Type}{k t:TypeId}{good:κ->Prop}{kl:κ->Lit}{d m:Nat}{f:κ->Option Int},dK k good kl t w d m f->b≠d:=λhm c=>by obtain⟨D,⟨es,ck,h1,_⟩,_⟩:=hm;rw[<-c,a]at h1;cases h1
 refine⟨λc=>?_,key h.num,key h.cp,key h.cB⟩;rw[c,i]at a;injection a with a;injection a with _ j;exact he j.symm
def jK(i:Nat)(x:In)(j:Nat):Bool:=((x.op==13||x.op==14)&&x.to.toNat==j)||((x.op==13||x.op==14||x.op==12||x.op==10)&&i+1==j)
def fq(n:Nat)(l:List In)(i:Nat):List Bool:=(List.range n).map λj=>j==0||(l.take i).zipIdx.any λp=>jK p.2 p.1 j
theorem Nl{n:Nat}(l:List In)(hn:0<n):fq n l 0=(List.replicate n false).set 0 true:=by
 apply jqq;intro j;unfold fq;by_cases h:j<n
 ·rw[qqp,qqz h];by_cases h0:j=0;·subst h0;rw[jqn (by simpa using hn)];rfl
  ·rw[jqt oqo,qzt,qzb h];simp[h0]
 ·rw[qza (by simp;omega),qza (by simp;omega)]
theorem H8{n:Nat}(l:List In)(i j:Nat)(h:j<n):(fq n l i)[j]? =some (j==0||(l.take i).zipIdx.any λp=>jK p.2 p.1 j):=by unfold fq;rw[qqp,qqz h];rfl
theorem jZ(n:Nat)(l:List In)(i:Nat):(fq n l i).length=n:=by simp[fq]
theorem MX{n:Nat}{l:List In}{i:Nat}{x:In}(f:l[i]? =some x):fq n l (i+1)=if x.op=13\/x.op=14 then((fq n l i).set x.to.toNat true).set (i+1) true else if x.op=12\/x.op=10 then(fq n l i).set (i+1) true else fq n l i:=by
 have u:=(qqi.1 f).1;have key:∀j,((l.take (i+1)).zipIdx.any λp=>jK p.2 p.1 j)=(((l.take i).zipIdx.any λp=>jK p.2 p.1 j)||jK i x j):=λj=>by rw[jqu,f,Option.toList_some,List.zipIdx_append,List.any_append,jqm,jzd oqo];simp
 apply jqq;intro j;by_cases h:j<n
 ·rw[H8 l (i+1) j h,key];have h0:=H8 l i j h;have d:∀(L:List Bool)(k:Nat)(b:Bool),L.length=n->L[j]? =some b->(L.set k true)[j]? =some (b||k==j):=λL k b t s=>by
   by_cases e:k=j;·subst e;rw[jqn oqo];simp
   ·rw[jqt e,s];simp[e]
  clear key;generalize((l.take i).zipIdx.any λp=>jK p.2 p.1 j)=q at h0⊢;unfold jK;by_cases c1:x.op=13\/x.op=14;·rw[qzb c1,d _ _ _ (by simp[jZ]) (d _ _ _ (jZ n l i) h0)];rcases c1 with c1|c1<;>simp[c1,Bool.or_assoc]
  ·rw[qzc c1];by_cases c2:x.op=12\/x.op=10;·rw[qzb c2,d _ _ _ (jZ n l i) h0];rcases c2 with c2|c2<;>simp[c2,Bool.or_assoc]
   ·rw[qzc c2,h0];have m:(x.op==13)=false:=by simp;omega
    have o:(x.op==14)=false:=by simp;omega
    have a3:(x.op==12)=false:=by simp;omega
    have a4:(x.op==10)=false:=by simp;omega
    simp[m,o,a3,a4]
 ·have r:(fq n l (i+1)).length<=j:=by rw[jZ];omega
  have a:(fq n l i).length<=j:=by rw[jZ];omega
  rw[qza r];split;·rw[qza (by simpa using a)]
  ·split;·rw[qza (by simpa using a)]
   ·rw[qza a]
theorem Po(l:List In):fq (l.length+1) l l.length=(List.range (l.length+1)).map (dh l):=by
 unfold fq;apply jqg;intro j hj;rw[List.take_length];unfold dh;rw[qzd];simp only[qji,jqv,qqn,jqz];have hz:∀(x:In)(k:Nat),(x,k)∈l.zipIdx↔l[k]? =some x:=λx k=>by rw[List.mem_zipIdx_iff_getElem?]
 constructor
 ·rintro(h|⟨⟨x,k⟩,hm,h⟩);·exact Or.inl (Or.inl h)
  ·rw[hz]at hm;unfold jK at h;simp only[qji,qqn,jqz]at h;rcases h with⟨h1,h2⟩|⟨h1,h2⟩;·exact Or.inl (Or.inr ⟨x,qqr hm,h1,h2⟩)
   ·right;rw[<-h2];simp only[hm,qji,jqz];exact h1
 ·rintro((h|⟨x,hm,h1,h2⟩)|h);·exact Or.inl h
  ·obtain⟨k,hk⟩:=jqr.1 hm;refine Or.inr ⟨(x,k),(hz x k).2 hk,?_⟩;unfold jK;simp only[qji,qqn,jqz];exact Or.inl ⟨h1,h2⟩
  ·right;cases j with|zero=>cases h|succ k=>simp only at h;cases hk:l[k]? with|none=>rw[hk]at h;cases h|some x=>rw[hk]at h;refine⟨(x,k),(hz x k).2 hk,?_⟩;unfold jK;simp only[qji,qqn,jqz]at h⊢;exact Or.inr ⟨h,trivial⟩
def qA(b:Bool):List Value:=[.bool b]
def bJ(w:World)(base:Nat)(v:Value)(l:List Bool):Prop:=w.ownsRow base 4 1 v l.length (l.flatMap qA)
theorem QT(l:List Bool)(i:Nat):(l.flatMap qA)[i]? =(l[i]?).map λk=>Value.bool k:=by
 have e:∀l:List Bool,l.flatMap qA=l.map λk=>Value.bool k:=λl=>by induction l with|nil=>rfl|cons a l ih=>rw[jqj,ih];rfl
 rw[e,qqp]
theorem KS(l:List Bool)(i:Nat)(x:Bool):(l.flatMap qA).set i (.bool x)=(l.set i x).flatMap qA:=by
 have e:∀l:List Bool,l.flatMap qA=l.map λk=>Value.bool k:=λl=>by induction l with|nil=>rfl|cons a l ih=>rw[jqj,ih];rfl
 rw[e,e,List.map_set]
section
variable {w w':World}{base:Nat}{g c:Nat}{l:List Bool}
theorem bJ.cell{n:Nat}(h:bJ w base (.slice (some ⟨g,0,none⟩) n c) l){i:Nat}{b:Bool}(hi:l[i]? =some b):w.cell? ⟨g,i,none⟩=some (.bool b)/\w.frozen? ⟨g,i,none⟩=false:=by have f:=(qqi.1 hi).1;unfold bJ at h;obtain⟨A,c2,hv⟩:=dN h;injection hv with _ a _;subst a;refine⟨by rw[h.cellAt i oqo,QT,hi];rfl,?_⟩;obtain⟨cur,d⟩:=aT h (b:=g) rfl;exact Blk.free (t:=4) (cs:=cur) d i
theorem bJ.set{n:Nat}(h:bJ w base (.slice (some ⟨g,0,none⟩) n c) l)(i:Nat)(b:Bool):bJ (w.setCell ⟨g,i,none⟩ (.bool b)) base (.slice (some ⟨g,0,none⟩) n c) (l.set i b):=by unfold bJ at h⊢;have h2:=dN h;obtain⟨A,c2,hv⟩:=h2;injection hv with _ a _;have:=kC (j:=i) (by rw[<-a]at h;exact h) (.bool b);rw[KS]at this;rw[qjg,<-a];exact this
end
theorem KY:(Tryz.prog.info? 4).map (λi=>(i.zero,i.size,i.bytes))=some (some (.bool false),1,1):=kqk
theorem Ah(n:Nat):(madeCells #[Value.bool false] n).toList=(List.replicate n false).flatMap qA:=by
 have:∀n:Nat,(List.replicate n false).flatMap qA=List.replicate n (Value.bool false):=λn=>by induction n with|zero=>rfl|succ n ih=>rw[List.replicate_succ,jqj,ih];rfl
 rw[this];exact toList_madeCells_one _ n
theorem xA(lv:Value)(l:List InV)(w:World)(hl:dW w lv l)(hn:l.length<=100000)(e0:∀x∈l,x.1.op=13\/x.1.op=14->0<=x.1.to/\x.1.to<l.length):Calls Tryz.prog 92 #[lv] w λe w'=>(∃v,e=.returned v/\bJ w' w.heap.size v ((List.range (l.length+1)).map (dh (l.map (·.1)))))/\Below w.heap.size w w':=by
 obtain⟨A,c,rfl,hc,hr⟩:=hl;obtain⟨n,F⟩:∃n,n=l.length:=⟨_,rfl⟩;rw[<-F];rw[<-F]at hc hn;have HL:=hqh hr;have J:=hqh F;have HT:=hqh e0;clear hr F e0;obtain⟨i0,p0,d1,e1,g1⟩:=jxw KY;go_enter Tryz.func92,Tryz.ntmps92;go_wp2_with(at_make;refine wpList_make_full _ rfl _ _ 129 rfl w.heap.size 4 i0 (.bool false) 1 Tryz.underlying129 p0 d1 e1 .i64 .i64 (n+1) (n+1) (n+1) rfl rfl oqo oqo (by rw[g1];omega) (by unfold maxLen;omega) (qqf _) ?_);intro w1 Q X;have H:=hqh (show bJ w1 w.heap.size (.slice (some ⟨w.heap.size,0,none⟩) (n+1:Nat) (n+1)) (List.replicate (n+1) false)by unfold bJ;rw[List.length_replicate,<-Ah];exact Q);have T:=hqh ((qjk w.heap.size w).grown X (qqf _) (λk e=>by cases e));have Y:w.heap.size<w1.heap.size:=(Q.lt _ rfl).2;clear Q X;go_upto_region 2 with fail;obtain⟨c0,f0⟩:=H.o.cell (i:=0) (b:=false) (by simp);go_upto_region 3 with fail;have S:=hqh (show bJ (w1.setCell ⟨w.heap.size,0,none⟩ (.bool true)) w.heap.size (.slice (some ⟨w.heap.size,0,none⟩) (n+1:Nat) (n+1)) (fq (n+1) (l.map (·.1)) 0)by rw[Nl _ oqo];exact H.o.set 0 true);have U:=hqh (T.o.setCell (p:=⟨w.heap.size,0,none⟩) (qqf _) (.bool true));have Z:w.heap.size<(w1.setCell ⟨w.heap.size,0,none⟩ (.bool true)).heap.size:=by simpa [World.setCell]using Y
 generalize r0:w1.setCell _ _=w2 at S U Z⊢;clear r0 c0 f0 H T Y;go_wp2_with fail;go_loopg [14]n(λgk v wr=>∃i:Nat,i<=n/\n-i<=gk/\v=.int .i64 i/\Hid (bJ wr w.heap.size (.slice (some ⟨w.heap.size,0,none⟩) (n+1:Nat) (n+1)) (fq (n+1) (l.map (·.1)) i))/\Hid (Below w.heap.size w wr)/\w.heap.size<wr.heap.size);case atStart=>exact⟨0,qqy _,qqf _,rfl,S,U,Z⟩
 case round=>
  obtain⟨i,hi,i1,rfl,s,u,m1⟩:=hrel;by_cases l1:i<n;case neg=>have q:decide ((i:Int)<(n:Int))=false:=qqt oqo;have q0:i=n:=oqo;go_wp2_with fail;go_ret;refine⟨⟨_,rfl,?_⟩,u.o⟩;have:=s.o;have e:=Po (l.map (·.1));rw[qqv,<-J.o]at e;rw[q0,e]at this;exact this
  case pos=>
   have q:decide ((i:Int)<(n:Int))=true:=qqx oqo;have j1:(i:Int)<(n:Int):=oqo;obtain⟨y,j⟩:∃y,l[i]? =some y:=⟨_,qqh (by have:=J.o;omega)⟩;obtain⟨b,o,hA,n0⟩:∃b o,A=some ⟨b,o,none⟩/\fu wr b (o+i*10) y:=by
    rcases HL.o with e|⟨b,o,e,k⟩;·rw[e]at j;simp at j
    ·exact⟨b,o,e,(k i y j).below u.o⟩
   subst hA;have m0:=hqh (HT.o y (qqr j));have l0:=hqh (show(l.map (·.1))[i]? =some y.1 by rw[qqp,j];rfl);obtain⟨R,y1,y2,y3,y4,y5,y6,y7,y8,y9,B,ac,M,_,_⟩:=n0;have lb:=aK R;clear j;obtain⟨⟨op,v,a,D,m,bin,args,f,arr,t⟩,av⟩:=y;dsimp only at M;obtain⟨C,W⟩:∃k,k=args.length:=⟨_,rfl⟩;rw[<-W]at M;clear W;subst M;simp only[]at R y1 y2 y3 y4 y5 y6 y7 y8 y9;have j0:=hqh (s.o);go_upto_region 6 with fail;clear R y1 y2 y3 y4 y5 y6 y7 y8 y9;have E:=Blk.new wr 71 #[.int .u8 op,.int .i64 v,.int .i64 a,.int .i64 D,.int .i64 m,.int .u8 bin,.slice B C ac,.int .i64 f,.int .i64 arr,.int .i64 t];have ha:=(qjk wr.heap.size wr).alloc (qqf _) (.cells #[.int .u8 op,.int .i64 v,.int .i64 a,.int .i64 D,.int .i64 m,.int .u8 bin,.slice B C ac,.int .i64 f,.int .i64 arr,.int .i64 t] 71);have h:=hqh (show bJ (wr.alloc (.cells #[.int .u8 op,.int .i64 v,.int .i64 a,.int .i64 D,.int .i64 m,.int .u8 bin,.slice B C ac,.int .i64 f,.int .i64 arr,.int .i64 t] 71)) w.heap.size _ _ from own_below s.o ha);have z:=hqh (u.o.trans (ha.mono oqo));have G:w.heap.size<(wr.alloc (.cells #[.int .u8 op,.int .i64 v,.int .i64 a,.int .i64 D,.int .i64 m,.int .u8 bin,.slice B C ac,.int .i64 f,.int .i64 arr,.int .i64 t] 71)).heap.size:=by rw[jqe];omega
   generalize a1:wr.alloc _=wa at E h z G⊢;clear a1 ha s u j0;have HX:=hqh E;have x0:=E.cell 0;clear E;have P:=MX (n:=n+1) l0.o;simp only[]at P;have K:=hqh P;clear P;obtain⟨L,rfl⟩:∃k,gk=k+1:=⟨gk-1,by omega⟩;by_cases c1:op=13\/op=14
   ·obtain⟨t0,t1⟩:=m0.o c1;obtain⟨d,rfl⟩:∃k:Nat,t=(k:Int):=⟨t.toNat,by have t0:0<=t:=t0;omega⟩;have n1:d<n:=by have t1:((d:Nat):Int)<l.length:=t1;have:=J.o;omega
    have o1:(d:Int)<(n:Int)+1:=oqo;have x9:=HX.o.cell 9;obtain⟨cc,o0⟩:∃b,(fq (n+1) (l.map (·.1)) i)[d]? =some b:=⟨_,qqh (by rw[jZ];omega)⟩;obtain⟨k1,k2⟩:=h.o.cell o0;have r:=hqh (show fq (n+1) (l.map (·.1)) (i+1)=((fq (n+1) (l.map (·.1)) i).set d true).set (i+1) true by rw[K.o,qzb c1];rfl);rcases c1 with rfl|rfl<;>
    (go_upto_region 12 with fail;have I:=hqh (h.o.set d true);have V:=hqh (z.o.setCell (p:=⟨w.heap.size,d,none⟩) (qqf _) (.bool true));have d0:w.heap.size<(wa.setCell ⟨w.heap.size,d,none⟩ (.bool true)).heap.size:=by simpa [World.setCell]using G
     generalize s0:wa.setCell _ _=w3 at I V d0⊢;clear s0 k1 k2 x0 x9;obtain⟨cd,N⟩:∃b,((fq (n+1) (l.map (·.1)) i).set d true)[i+1]? =some b:=⟨_,qqh (by rw[qjg,jZ];omega)⟩;obtain⟨k1,k2⟩:=I.o.cell N;go_wp2_with fail;go_roundg L;case measure=>omega
     case rel=>exact⟨i+1,by omega,by omega,by simp,hqh (by rw[r.o];exact I.o.set (i+1) true),hqh (V.o.setCell (p:=⟨w.heap.size,i+1,none⟩) (qqf _) _),by simpa [World.setCell]using d0⟩)
   by_cases c2:op=12\/op=10;·have r:=hqh (show fq (n+1) (l.map (·.1)) (i+1)=(fq (n+1) (l.map (·.1)) i).set (i+1) true by rw[K.o,qzc c1,qzb c2]);obtain⟨cd,N⟩:∃b,(fq (n+1) (l.map (·.1)) i)[i+1]? =some b:=⟨_,qqh (by rw[jZ];omega)⟩;obtain⟨k1,k2⟩:=h.o.cell N;clear c1;rcases c2 with rfl|rfl<;>
    (go_wp2_with fail;go_roundg L;case measure=>omega
     case rel=>exact⟨i+1,by omega,by omega,by simp,hqh (by rw[r.o];exact h.o.set (i+1) true),hqh (z.o.setCell (p:=⟨w.heap.size,i+1,none⟩) (qqf _) _),by simpa [World.setCell]using G⟩)
   have r:=hqh (show fq (n+1) (l.map (·.1)) (i+1)=fq (n+1) (l.map (·.1)) i by rw[K.o,qzc c1,qzc c2]);have q1:((op:Int)==13)=false:=qqe.2 oqo;have q2:((op:Int)==14)=false:=qqe.2 oqo;have q3:((op:Int)==12)=false:=qqe.2 oqo;have q4:((op:Int)==10)=false:=qqe.2 oqo;have p1:¬(op:Int)=13:=oqo;have p2:¬(op:Int)=14:=oqo;have p3:¬(op:Int)=12:=oqo;have p4:¬(op:Int)=10:=oqo;clear c1 c2;go_wp2_with fail;go_roundg L;case measure=>omega
   case rel=>exact⟨i+1,by omega,by omega,by simp,hqh (by rw[r.o];exact h.o),z,G⟩
theorem Fe(lv:Value)(l:List InV)(i:Nat)(x:InV)(w:World)(hl:dW w lv l)(hi:l[i]? =some x)(ht:0<=x.1.to)(hn:l.length<=1000000):Calls Tryz.prog 130 #[lv,.int .i64 (i:Int)] w λe w'=>(∃sl,e=.returned sl/\ay w' sl ((bN x.1 i).map λk:Nat=>(k:Int))/\(bN x.1 i=[]->sl=.slice none 0 0))/\Below w.heap.size w w':=by
 obtain⟨A,c,rfl,hc,hr⟩:=hl;have z:=(qqi.1 hi).1;obtain⟨b,o,rfl,s⟩:∃b o,A=some ⟨b,o,none⟩/\fu w b (o+i*10) x:=by
  rcases hr with rfl|⟨b,o,e,k⟩;·simp at hi
  ·exact⟨b,o,e,k i x hi⟩
 have k0:=s.c0;have k9:=s.c9;have lb:=aK k0;obtain⟨n,u⟩:∃n,n=l.length:=⟨_,rfl⟩;rw[<-u]at z hn hc⊢;obtain⟨⟨op,v,a,D,F,bin,args,f,arr,t⟩,av⟩:=x;simp only at k0 k9 ht⊢;have E:(i:Int)<(n:Int):=oqo;clear hr hi s u;obtain⟨h,rfl⟩:∃h:Nat,t=(h:Int):=⟨t.toNat,by omega⟩;have fin:∀(W:World)(T:TypeId)(d:List Int)(cs:Array Value),cs=(d.map λk=>Value.int .i64 k).toArray->ay (W.alloc (.cells cs T)) (.slice (some ⟨W.heap.size,0,none⟩) d.length d.length) d:=λW T d cs e=>⟨_,_,rfl,qqf _,Or.inr ⟨_,_,rfl,λj y C=>by have B:=Blk.new W T cs;show(W.alloc (.cells cs T)).cell? ⟨W.heap.size,0+j*1,none⟩=_;rw[B.cell,e];simp[C]⟩⟩;by_cases q:op=13;·subst q;go_enter Tryz.func130,Tryz.ntmps130;go_wp2_with fail;go_ret;exact⟨⟨_,rfl,by simpa [bN]using fin w _ [(h:Int)] _ rfl,λc=>by simp[bN]at c⟩,(qjk _ _).alloc (qqf _) _⟩
 by_cases r:op=14;·subst r;go_enter Tryz.func130,Tryz.ntmps130;go_wp2_with fail;go_ret;exact⟨⟨_,rfl,by simpa [bN]using fin w _ [(h:Int),(i:Int)+1] _ rfl,λc=>by simp[bN]at c⟩,(qjk _ _).alloc (qqf _) _⟩
 by_cases p:op=12;·subst p;go_enter Tryz.func130,Tryz.ntmps130;go_wp2_with fail;go_ret;exact⟨⟨_,rfl,⟨_,_,rfl,qqf _,Or.inl rfl⟩,λ_=>rfl⟩,qjk _ _⟩
 by_cases m:op=10;·subst m;go_enter Tryz.func130,Tryz.ntmps130;go_wp2_with fail;go_ret;exact⟨⟨_,rfl,⟨_,_,rfl,qqf _,Or.inl rfl⟩,λ_=>rfl⟩,qjk _ _⟩
 have K:((op:Int)==13)=false:=qqe.2 oqo;have L:((op:Int)==14)=false:=qqe.2 oqo;have M:((op:Int)==12)=false:=qqe.2 oqo;have N:((op:Int)==10)=false:=qqe.2 oqo;have G:¬(op:Int)=13:=oqo;have H:¬(op:Int)=14:=oqo;have I:¬(op:Int)=12:=oqo;have J:¬(op:Int)=10:=oqo;go_enter Tryz.func130,Tryz.ntmps130;go_wp2_with fail;go_ret;exact⟨⟨_,rfl,by simpa [bN,q,r,p,m]using fin w _ [(i:Int)+1] _ rfl,λc=>by simp[bN,q,r,p,m]at c⟩,(qjk _ _).alloc (qqf _) _⟩
