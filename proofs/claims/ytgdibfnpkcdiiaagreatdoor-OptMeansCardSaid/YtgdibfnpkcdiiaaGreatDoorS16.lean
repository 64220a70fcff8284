/- Joint text: HNums, HPlnA, MMem, MUpd, MUpe, HAlf, MTop, DoA. By an AI agent. -/
import Derived.Test.YtgdibfnpkcdiiaaGreatDoorSzy
import Derived.Test.YtgdibfnpkcdiiaaGreatDoorS15
import Derived.Deep.AppendLies
import Derived.OwnWalk
import Derived.Laws.Bits128
set_option linter.all false
set_option maxRecDepth 100000
set_option maxHeartbeats 64000000
namespace Go.Proofs.YtgdibfnpkcdiiaaGreatDoor
open Go.RowKit
def dM{w:World}{base e size n:Nat}{v:Value}{xs:List Value}(h:w.ownsRow base e size v n xs):∃A c,v=.slice A n c:=by
 rcases h.2 with⟨rfl,rfl⟩|⟨g,cap,a,rfl,_⟩;·exact⟨_,_,rfl⟩
 ·exact⟨_,_,rfl⟩
def Jw(w:World)(t:TypeId)(cs:Array Value)(k n base:Nat)(hk:cs.size=n*k)(a:base<=w.heap.size)(hn:n<=maxLen):(w.alloc (.cells cs t)).ownsRow base t k (.slice (some ⟨w.heap.size,0,none⟩) n n) n cs.toList:=by refine⟨by simp[hk],Or.inr ⟨w.heap.size,n,cs,rfl,a,jxg w _,qqf _,hn,hk,?_⟩⟩;exact jqc (by simp[hk])
def own_below{w w':World}{base e size n:Nat}{v:Value}{xs:List Value}(h:w.ownsRow base e size v n xs)(a:Below w.heap.size w w'):w'.ownsRow base e size v n xs:=h.kept (row:=none) ⟨a.os,a.tape,a.output,a.size,λj hj _=>a.block j hj⟩ (by cases hv:v.ownBlock<;>simp)
def sO(l:List Int):List Value:=l.map λk=>.int .i64 k
def Q5{w:World}{base e n:Nat}{v:Value}{a:List Int}(h:w.ownsRow base e 1 v n (sO a)):a.length=n/\aD w v a:=by
 have hl:a.length=n:=by have:=h.1;simpa [sO]using this
 refine⟨hl,?_⟩;rcases h.2 with⟨rfl,h0⟩|⟨g,cap,j,rfl,_,d,c,_,l,f⟩;·have:a=[]:=jja.1 oqo;subst this;exact⟨none,0,rfl,qqf _,Or.inl rfl⟩
 ·subst hl;refine⟨_,cap,rfl,c,Or.inr ⟨g,0,rfl,λi x b=>?_⟩⟩;have h1:(sO a)[i]? =some (.int .i64 x):=by simp[sO,b]
  have hi:=(qqi.1 b).1;rw[<-f,qzw,qzb oqo]at h1;show World.cell? _ _=_;unfold World.cell?;simp only[d];simpa using h1
def Zw:(Tryz.prog.info? 2).map (λi=>(i.zero,i.size,i.bytes))=some (some (.int .i64 0),1,8):=kqk
def Ro(x:InV)(w:World)(hx:aD w x.2 x.1.args)(H:x.1.args.length<=1000000)(ho:x.1.op<256)(j0:x.1.bin<256):Calls Tryz.prog 54 #[aJ x] w λe w'=>∃v,e=.returned v/\w'.ownsRow (w.heap.size+1) 2 1 v (dO x.1).length (sO (dO x.1))/\Below w.heap.size w w':=by
 obtain⟨x,xv⟩:=x;obtain⟨X,D,T,Q,K⟩:=hx;dsimp only at T Q K H ho j0;subst T;obtain⟨a,J⟩:∃n,n=x.args.length:=⟨_,rfl⟩;unfold aJ;dsimp only;rw[<-J];have m:=hqh J;have e0:=hqh K;have U:=hqh H;have w1:IntKind.i64.wrap (x.op:Int)=x.op:=jqv _ oqo;have w2:IntKind.i64.wrap (x.bin:Int)=x.bin:=jqv _ oqo;obtain⟨i0,m0,r0,s0,x0⟩:=jxo Zw;clear J K Q H;go_enter Tryz.func54,Tryz.ntmps54;go_wp2_with fail;have I:Below w.heap.size w (w.alloc (.cells #[.int .u8 x.op,.int .i64 x.v,.int .i64 x.a,.int .i64 x.b,.int .i64 x.n,.int .u8 x.bin,.slice X a D,.int .i64 x.f,.int .i64 x.arr,.int .i64 x.to] 71)):=(qjk _ _).alloc (qqf _) _;have c6:=(Blk.new w 71 #[.int .u8 x.op,.int .i64 x.v,.int .i64 x.a,.int .i64 x.b,.int .i64 x.n,.int .u8 x.bin,.slice X a D,.int .i64 x.f,.int .i64 x.arr,.int .i64 x.to]).cell 6;obtain⟨d,E⟩:∃d,d=w.alloc (.cells #[.int .u8 x.op,.int .i64 x.v,.int .i64 x.a,.int .i64 x.b,.int .i64 x.n,.int .u8 x.bin,.slice X a D,.int .i64 x.f,.int .i64 x.arr,.int .i64 x.to] 71):=⟨_,rfl⟩;have S:d.heap.size=w.heap.size+1:=by rw[E];simp
 rw[<-E]at I⊢;clear E c6;have B:=Jw d 2 #[.int .i64 x.op,.int .i64 x.v,.int .i64 x.a,.int .i64 x.b,.int .i64 x.n,.int .i64 x.bin,.int .i64 x.f,.int .i64 x.arr,.int .i64 x.to] 1 9 (w.heap.size+1) rfl oqo (by unfold maxLen;omega);have u:Below d.heap.size d (d.alloc (.cells #[.int .i64 x.op,.int .i64 x.v,.int .i64 x.a,.int .i64 x.b,.int .i64 x.n,.int .i64 x.bin,.int .i64 x.f,.int .i64 x.arr,.int .i64 x.to] 2)):=(qjk _ _).alloc (qqf _) _;obtain⟨j,M⟩:∃j,j=d.alloc (.cells #[.int .i64 x.op,.int .i64 x.v,.int .i64 x.a,.int .i64 x.b,.int .i64 x.n,.int .i64 x.bin,.int .i64 x.f,.int .i64 x.arr,.int .i64 x.to] 2):=⟨_,rfl⟩;rw[<-M]at B u⊢;rw[S]at B;clear M;have L:=hqh (I.trans (u.mono oqo));have Z:=hqh (show w.heap.size+1<=j.heap.size by have:=u.size;omega);have Y:=hqh (show j.ownsRow (w.heap.size+1) 2 1 (.slice (some ⟨w.heap.size+1,0,none⟩) 9 9) 9 (sO (dO {x with args:=[]}))from B);clear I u B S;go_loopg [3,30]a(λgk v i wr=>∃k:Nat,k<=a/\a-k<=gk/\i=.int .i64 k/\Hid (Below (w.heap.size+1) j wr)/\Hid (wr.ownsRow (w.heap.size+1) 2 1 v (9+k) (sO (dO {x with args:=x.args.take k}))));case atStart=>exact⟨0,qqy _,qqf _,rfl,hqh (qjk _ _),Y⟩
 case round=>
  obtain⟨k,hk,y0,rfl,l,r⟩:=hrel;by_cases o0:k<a;case neg=>
   have q:decide ((k:Int)<(a:Int))=false:=qqt oqo;obtain⟨A,c,q0⟩:=dM r.o;have N:x.args.take k=x.args:=jqc (by rw[<-m.o];omega);have z:=r.o;rw[N]at z;have R:9+k=(dO x).length:=by simp[dO];have:=m.o;omega
   rw[R]at z;have V:=hqh z;subst q0;clear z N R;go_wp2_with fail;go_ret;exact⟨_,rfl,V.o,L.o.trans (l.o.mono oqo)⟩
  case pos=>
   have q:decide ((k:Int)<(a:Int))=true:=qqx oqo;obtain⟨y,f⟩:∃y,x.args[k]? =some y:=⟨_,qqh (by rw[<-m.o];exact o0)⟩;obtain⟨xb,xo,rfl,O⟩:∃b o,X=some ⟨b,o,none⟩/\wr.cell? ⟨b,o+k*1,none⟩=some (.int .i64 y):=by
    rcases e0.o with e|⟨b,o,e,q⟩;·rw[e]at f;simp at f
    ·exact⟨b,o,e,(l.o.cell (p:=⟨b,o+k*1,none⟩) (Nat.lt_succ_of_lt (aB (q k y f)))).trans (aa L.o (q k y f))⟩
   rw[jzc]at O;have a1:(k:Int)<(a:Int):=oqo;have lb:=aB O;have d1:a<=1000000:=by rw[m.o];exact U.o
   have d0:=hqh (show sO (dO {x with args:=x.args.take (k+1)})=sO (dO {x with args:=x.args.take k})++[.int .i64 y]by rw[jqw,f];simp[sO,dO]);have C:=hqh (qzi Z.o l.o.size);clear f;go_wp2_with(at_builtin;refine jxx _ rfl _ _ 40 rfl (w.heap.size+1) 2 i0 (.int .i64 0) 1 8 Tryz.underlying40 m0 r0 s0 x0 rfl (by decide) _ _ _ rfl (r.o.alloc _) ⟨wr.heap.size,0,none⟩ 1 1 [.int .i64 y] rfl rfl (jji (cs:=#[.int .i64 y]) (t:=2) (fr:=(0,0)) (jxg wr _)) (by simp[Value.oneCell']) (by unfold maxLen;omega) oqo ?_ ?_);·have:=C.o;simp;omega
   intro v' w6 p0 l0 _;go_wp2_with fail;cases gk with|zero=>omega|succ gk=>
    go_roundg gk;case measure=>omega
    case rel=>refine⟨k+1,by omega,by omega,by simp,hqh ((l.o.alloc C.o _).grown l0 (by have:=C.o;simp;omega) (λq e=>(r.o.lt q e).1)),hqh ?_⟩;rw[d0.o];exact p0
def FU(x:InV)(w:World)(c:aD w x.2 x.1.args)(a:x.1.args.length<=1000000)(ho:x.1.op<256)(b:x.1.bin<256):Calls Tryz.prog 54 #[aJ x] w λe w'=>∃v,e=.returned v/\aD w' v (dO x.1)/\Below w.heap.size w w':=(Ro x w c a ho b).mono λ_ _⟨v,h1,h2,h3⟩=>⟨v,h1,(Q5 h2).2,h3⟩
def Jv{α:Type}(C:α->List Value)(z:Nat)(hz:∀x,(C x).length=z):∀(l:List α)(i k:Nat)(x:α),l[i]? =some x->k<z->(l.flatMap C)[i*z+k]? =(C x)[k]? |[],i,k,x,h,_=>by simp at h|m::r,0,k,x,h,hk=>by simp at h;subst h;rw[jqe,jzr,qja,qzf (by rw[hz];exact hk)]|m::r,i+1,k,x,h,hk=>by have ih:=Jv C z hz r i k x (by simpa using h) hk;rw[jqe,qze (by rw[hz,jxe];omega),hz,show(i+1)*z+k-z=i*z+k by rw[jxe];omega];exact ih
def Ez{α:Type}(C:α->List Value)(z:Nat)(hz:∀x,(C x).length=z){R:World->Nat->Nat->α->Prop}{w:World}{base e:Nat}{v:Value}{l:List α}(h:w.ownsRow base e z v l.length (l.flatMap C))(k:∀b o x,x∈l->(∀q,q<z->w.cell? ⟨b,o+q,none⟩=(C x)[q]?)->R w b o x):iX z R w v l:=by
 by_cases h0:l=[];·subst h0;obtain⟨A,c,rfl⟩:=dM h;exact⟨A,c,rfl,by simp,Or.inl rfl⟩
 ·have f:0<l.length:=List.length_pos_iff.2 h0;obtain⟨g,cap,hv,hc,r⟩:=h.form f;refine⟨_,cap,hv,?_,Or.inr ⟨g,0,rfl,λi x hi=>k _ _ _ (qqr hi) λq j=>?_⟩⟩
  ·rcases h.2 with⟨_,hn⟩|⟨g',m,n,a,_,_,p,_⟩;·omega
   ·rw[hv]at a;injection a with _ _ e;omega
  ·subst hv;have d:=(qqi.1 hi).1;have:=h.cellAt (i*z+q) (by have h1:(i+1)*z<=l.length*z:=jqo _ d;rw[jxe]at h1;omega);rw[qja,this];exact Jv C z hz l i q x hi j
def wV{w:World}{base base' e size n:Nat}{v:Value}{xs:List Value}(h:w.ownsRow base e size v n xs)(b:base'<=base):w.ownsRow base' e size v n xs:=by
 refine⟨h.1,?_⟩;rcases h.2 with hn|⟨g,cap,a,hv,c,r⟩;·exact Or.inl hn
 ·exact Or.inr ⟨g,cap,a,hv,qzi b c,r⟩
inductive aG where|ro|run|jl|jc|kU|arr(j:Nat)|var(i:Nat)deriving DecidableEq
def dx(l:List Int):Array Value:=(l.map λn=>Value.int .i64 n).toArray
structure FrG where
 x:FnG
 r:FrM
 b:Nat
def frC(g:FrG):List Value:=[.string ⟨g.x.fn.name.toArray⟩,.int .i64 g.x.fn.params,.int .i64 g.x.fn.vars,g.x.cv,.int .i64 g.r.f,.int .i64 g.r.i,.slice (some ⟨g.b,0,none⟩) g.r.vars.length g.r.vars.length,.int .i64 g.r.into]
def evC(e:Nat×Int):List Value:=[.int .u8 e.1,.int .i64 e.2]
def arC(a:Nat×List Int):List Value:=[.slice (some ⟨a.1,0,none⟩) a.2.length a.2.length]
structure RG where
 r:Nat
 n0:Nat
 gp:PrG
 iv:Value
 arv:Value
 frv:Value
 evv:Value
 ars:List Nat
 bs:List FrG
 t:FrG
def RG.fs(G:RG):List FrG:=G.bs++[G.t]
def RG.cells(G:RG)(s:MS):Array Value:=#[G.gp.av,G.gp.fv,.int .i64 G.gp.p.main,G.iv,G.arv,G.frv,G.evv,.bool s.ended,.int .i64 s.steps]
structure az(w:World)(ρ:Nat->Option aG)(G:RG)(s:MS):Prop where
 run:Blk w G.r 113 (G.cells s)bT:ρ G.r=some .run
 dom:∀k q,ρ k=some q->G.n0<=k/\k<w.heap.size
 ro:∀w',(∀k,ρ k=some .ro->w'.heap[k]? =w.heap[k]?)->PrR w' G.gp/\aD w' G.iv s.inp
 jl:w.ownsRow G.n0 40 1 G.arv s.arr.length ((G.ars.zip s.arr).flatMap arC)fD:∀k,G.arv.ownBlock=some k->ρ k=some .jl
 al:G.ars.length=s.arr.length
 arr:∀(j b:Nat)(l:List Int),G.ars[j]? =some b->s.arr[j]? =some l->Blk w b 2 (dx l)/\ρ b=some (.arr j)jc:w.ownsRow G.n0 119 8 G.frv G.fs.length (G.fs.flatMap frC)gG:∀k,G.frv.ownBlock=some k->ρ k=some .jc
 fb:G.bs.map (·.r)=s.base
 ft:G.t.r=s.top
 fr:∀(i:Nat)(g:FrG),G.fs[i]? =some g->G.gp.l[g.r.f]? =some g.x/\Blk w g.b 2 (dx g.r.vars)/\ρ g.b=some (.var i)kU:w.ownsRow G.n0 52 2 G.evv s.evs.length (s.evs.flatMap evC)iy:∀k,G.evv.ownBlock=some k->ρ k=some .kU
 n0:G.n0<=w.heap.size
def bW{w w':World}{base e size n:Nat}{v:Value}{xs:List Value}(h:w.ownsRow base e size v n xs)(k:∀b,v.ownBlock=some b->w'.heap[b]? =w.heap[b]?):w'.ownsRow base e size v n xs:=by
 refine⟨h.1,?_⟩;rcases h.2 with hn|⟨g,cap,a,rfl,c,d,r⟩;·exact Or.inl hn
 ·exact Or.inr ⟨g,cap,a,rfl,c,(k g rfl).trans d,r⟩
section
variable {w w':World}{ρ:Nat->Option aG}{G:RG}{s:MS}
def az.keep(h:az w ρ G s)(hz:w.heap.size<=w'.heap.size)(k:∀b q,ρ b=some q->w'.heap[b]? =w.heap[b]?):az w' ρ G s where run:=(k _ _ h.bT).trans h.run;bT:=h.bT;dom:=λb q e=>⟨(h.dom b q e).1,qzj (h.dom b q e).2 hz⟩;ro:=λv e=>h.ro v λb d=>(e b d).trans (k b _ d);jl:=bW h.jl λb e=>k b _ (h.fD b e);fD:=h.fD;al:=h.al;arr:=λj b l a c=>⟨(k b _ (h.arr j b l a c).2).trans (h.arr j b l a c).1,(h.arr j b l a c).2⟩;jc:=bW h.jc λb e=>k b _ (h.gG b e);gG:=h.gG;fb:=h.fb;ft:=h.ft;fr:=λi g e=>⟨(h.fr i g e).1,(k g.b _ (h.fr i g e).2.2).trans (h.fr i g e).2.1,(h.fr i g e).2.2⟩;kU:=bW h.kU λb e=>k b _ (h.iy b e);iy:=h.iy;n0:=qzi h.n0 hz
def az.pr(h:az w ρ G s):PrR w G.gp:=(h.ro w λ_ _=>rfl).1
def az.inp(h:az w ρ G s):aD w G.iv s.inp:=(h.ro w λ_ _=>rfl).2
def az.below(h:az w ρ G s)(a:Below w.heap.size w w'):az w' ρ G s:=h.keep a.size λb q e=>a.block b (h.dom b q e).2
end
structure Kp(ρ ρ':Nat->Option aG)(w w':World):Prop where
 os:w'.os=w.os
 tape:w'.tape=w.tape
 output:w'.output=w.output
 size:w.heap.size<=w'.heap.size
 block:∀k,k<w.heap.size->ρ k=none->w'.heap[k]? =w.heap[k]?
 own:∀k,k<w.heap.size->ρ k=none->ρ' k=none
section
variable {w w' w'':World}{ρ ρ' ρ'' σ:Nat->Option aG}{G:RG}{s:MS}
def Kp.refl(ρ:Nat->Option aG)(w:World):Kp ρ ρ w w:=⟨rfl,rfl,rfl,qqf _,λ_ _ _=>rfl,λ_ _ h=>h⟩
def Kp.trans(h:Kp ρ ρ' w w')(k:Kp ρ' ρ'' w' w''):Kp ρ ρ'' w w'':=⟨k.os.trans h.os,k.tape.trans h.tape,k.output.trans h.output,qzi h.size k.size,λb a hr=>(k.block b (qzj a h.size) (h.own b a hr)).trans (h.block b a hr),λb a hr=>k.own b (qzj a h.size) (h.own b a hr)⟩
def Kp.of_below(a:Below w.heap.size w w'):Kp ρ ρ w w':=⟨a.os,a.tape,a.output,a.size,λk hk _=>a.block k hk,λ_ _ h=>h⟩
def Kp.set{a:Addr}{q:aG}(h:ρ a.block=some q)(u:Value):Kp ρ ρ w (w.setCell a u):=⟨rfl,rfl,rfl,by simp[World.setCell],λk _ hk=>jqr _ _ _ _ (λe=>by rw[e,h]at hk;cases hk),λ_ _ h=>h⟩
def Kp.alloc(o:Obj):Kp ρ ρ w (w.alloc o):=Kp.of_below ((qjk _ _).alloc (qqf _) _)
def Kp.aO(h:Kp ρ ρ' w w'){n:Nat}(hn:n<=w.heap.size)(hr:∀k q,ρ k=some q->n<=k):Below n w w':=⟨h.os,h.tape,h.output,h.size,λk hk=>h.block k oqo (by cases e:ρ k with|none=>rfl|some q=>have:=hr k q e;omega)⟩
def az.other(h:az w σ G s)(k:Kp ρ ρ' w w')(hd:∀b,σ b=none\/ρ b=none):az w' σ G s:=h.keep k.size λb q e=>k.block b (h.dom b q e).2 ((hd b).resolve_left λh1=>by rw[e]at h1;cases h1)
def Nv(h:az w σ G s)(k:Kp ρ ρ' w w')(hd:∀b,σ b=none\/ρ b=none):∀b,σ b=none\/ρ' b=none:=λb=>by cases e:σ b with|none=>exact Or.inl rfl|some q=>
  refine Or.inr (k.own b (h.dom b q e).2 ?_);rcases hd b with h1|h1;·rw[e]at h1;cases h1
  ·exact h1
end
def bH(w:World)(ρ:Nat->Option aG)(r n0:Nat)(gp:PrG)(s:MS):Prop:=∃G:RG,G.r=r/\G.n0=n0/\G.gp=gp/\az w ρ G s
def vF{α:Type}(C:α->List Value):∀(l:List α)(i:Nat)(a b:α),l[i]? =some a->C b=C a->(l.set i b).flatMap C=l.flatMap C|[],_,_,_,h,_=>by simp at h|x::l,0,a,b,h,e=>by simp at h;subst h;simp[e]|x::l,i+1,a,b,h,e=>by simp only[qqk,jqe];rw[vF C l i a b (by simpa using h) e]
def qH{α:Type}(C:α->List Value)(z:Nat)(hz:∀x,(C x).length=z)(q:Nat)(u:Value)(c:q<z):∀(l:List α)(i:Nat)(a b:α),l[i]? =some a->C b=(C a).set q u->(l.set i b).flatMap C=(l.flatMap C).set (i*z+q) u|[],_,_,_,h,_=>by simp at h|x::l,0,a,b,h,e=>by simp at h;subst h;simp only[qqj,jqe,jzr,qja];rw[e,List.set_append_left _ _ (by rw[hz];exact c)]|x::l,i+1,a,b,h,e=>by simp only[qqk,jqe];rw[qH C z hz q u c l i a b (by simpa using h) e,jzv _ _ (by rw[hz,jxe];omega),hz];congr 2;rw[jxe];omega
def je{w:World}{base e size n g cap j:Nat}{xs:List Value}(h:w.ownsRow base e size (.slice (some ⟨g,0,none⟩) n cap) n xs)(u:Value):(w.setCell ⟨g,j,none⟩ u).ownsRow base e size (.slice (some ⟨g,0,none⟩) n cap) n (xs.set j u):=by
 refine⟨by simpa using h.1,?_⟩;rcases h.2 with⟨a,_⟩|⟨g',i,b,hv,d,f,hn,hm,hs,ht⟩;·cases a
 ·injection hv with a _ c;injection a with a;injection a with a;subst a;subst c;refine Or.inr ⟨g,cap,b.setIfInBounds j u,rfl,d,?_,hn,hm,by simpa using hs,?_⟩;·have:Blk (w.setCell ⟨g,j,none⟩ u) g e (b.setIfInBounds j u):=Blk.put (show Blk w g e b from f) j u;exact this
  ·rw[Array.toList_setIfInBounds,List.take_set,ht]
def JZ{α β:Type}:∀(a:List α)(l:List β)(j:Nat)(b:α)(v:β),a[j]? =some b->a.zip (l.set j v)=(a.zip l).set j (b,v)|[],_,_,_,_,h=>by simp at h|_::_,[],_,_,_,_=>by simp|x::a,y::l,0,b,v,h=>by simp at h;subst h;simp|x::a,y::l,j+1,b,v,h=>by simp only[qqk,List.zip_cons_cons];rw[JZ a l j b v (by simpa using h)]
def CU(l:List Int)(k:Nat)(n:Int):(dx l).setIfInBounds k (.int .i64 n)=dx (l.set k n):=by simp[dx,List.map_set]
def RI{w:World}{ρ:Nat->Option aG}{a:Addr}{q:aG}(ha:ρ a.block=some q)(u:Value):∀b q',ρ b=some q'->q'≠q->(w.setCell a u).heap[b]? =w.heap[b]?:= λb q' c d=>jqr _ _ _ _ (λe=>by rw[e,ha]at c;injection c with c;exact d c.symm)
section
variable {w w':World}{ρ:Nat->Option aG}{G:RG}{s:MS}
structure But(ρ:Nat->Option aG)(q:aG)(w w':World):Prop where
 same:∀b q',ρ b=some q'->q'≠q->w'.heap[b]? =w.heap[b]?
 size:w.heap.size<=w'.heap.size
def But.set{a:Addr}{q:aG}(ha:ρ a.block=some q)(u:Value):But ρ q w (w.setCell a u):=⟨RI ha u,by simp[World.setCell]⟩
section
variable {q:aG}(h:az w ρ G s)(k:But ρ q w w')
include h k
def az.yM:∀b q,ρ b=some q->G.n0<=b/\b<w'.heap.size:=λb q e=>⟨(h.dom b q e).1,qzj (h.dom b q e).2 k.size⟩
def az.run'(a:aG.run≠q):Blk w' G.r 113 (G.cells s):=(k.same _ _ h.bT a).trans h.run
def az.ro'(c:aG.ro≠q):∀v:World,(∀b,ρ b=some .ro->v.heap[b]? =w'.heap[b]?)->PrR v G.gp/\aD v G.iv s.inp:=λv e=>h.ro v λb a=>(e b a).trans (k.same b _ a c)
def az.uz(a:aG.jl≠q):w'.ownsRow G.n0 40 1 G.arv s.arr.length ((G.ars.zip s.arr).flatMap arC):=bW h.jl λb e=>k.same b _ (h.fD b e) a
def az.xX(a:aG.jc≠q):w'.ownsRow G.n0 119 8 G.frv G.fs.length (G.fs.flatMap frC):=bW h.jc λb e=>k.same b _ (h.gG b e) a
def az.uA(a:aG.kU≠q):w'.ownsRow G.n0 52 2 G.evv s.evs.length (s.evs.flatMap evC):=bW h.kU λb e=>k.same b _ (h.iy b e) a
def az.Bz(d:∀j,aG.arr j≠q):∀(j b:Nat)(l:List Int),G.ars[j]? =some b->s.arr[j]? =some l->Blk w' b 2 (dx l)/\ρ b=some (.arr j):=λj b l a c=>⟨(k.same b _ (h.arr j b l a c).2 (d j)).trans (h.arr j b l a c).1,(h.arr j b l a c).2⟩
def az.fr'(a:∀j,aG.var j≠q):∀(i:Nat)(g:FrG),G.fs[i]? =some g->G.gp.l[g.r.f]? =some g.x/\Blk w' g.b 2 (dx g.r.vars)/\ρ g.b=some (.var i):=λi g e=>⟨(h.fr i g e).1,(k.same g.b _ (h.fr i g e).2.2 (a i)).trans (h.fr i g e).2.1,(h.fr i g e).2.2⟩
def az.n0':G.n0<=w'.heap.size:=qzi h.n0 k.size
end
def az.TF(h:az w ρ G s)(n:Nat):az (w.setCell ⟨G.r,8,none⟩ (.int .i64 n)) ρ G {s with steps:=n}:=have k:But ρ .run w (w.setCell ⟨G.r,8,none⟩ (.int .i64 n)):=But.set h.bT _;⟨h.run.put 8 _,h.bT,h.yM k,h.ro' k (by simp),h.uz k (by simp),h.fD,h.al,h.Bz k (by simp),h.xX k (by simp),h.gG,h.fb,h.ft,h.fr' k (by simp),h.uA k (by simp),h.iy,h.n0' k⟩
def az.Ub(h:az w ρ G s)(b:Bool):az (w.setCell ⟨G.r,7,none⟩ (.bool b)) ρ G {s with ended:=b}:=have k:But ρ .run w (w.setCell ⟨G.r,7,none⟩ (.bool b)):=But.set h.bT _;⟨h.run.put 7 _,h.bT,h.yM k,h.ro' k (by simp),h.uz k (by simp),h.fD,h.al,h.Bz k (by simp),h.xX k (by simp),h.gG,h.fb,h.ft,h.fr' k (by simp),h.uA k (by simp),h.iy,h.n0' k⟩
def az.UA(h:az w ρ G s){v:Value}{l:List Int}(hv:∀u:World,aD u G.iv s.inp->aD u v l):az (w.setCell ⟨G.r,3,none⟩ v) ρ {G with iv:=v} {s with inp:=l}:=have k:But ρ .run w (w.setCell ⟨G.r,3,none⟩ v):=But.set h.bT _;⟨h.run.put 3 _,h.bT,h.yM k,λu e=>⟨(h.ro' k (by simp) u e).1,hv u (h.ro' k (by simp) u e).2⟩,h.uz k (by simp),h.fD,h.al,h.Bz k (by simp),h.xX k (by simp),h.gG,h.fb,h.ft,h.fr' k (by simp),h.uA k (by simp),h.iy,h.n0' k⟩
def RG.jO(G:RG):G.fs[G.bs.length]? =some G.t:=by simp[RG.fs]
def uZ{bs:List FrG}{t g:FrG}{i:Nat}(e:(bs++[t])[i]? =some g):(i<bs.length/\bs[i]? =some g)\/(i=bs.length/\g=t):=by
 rcases Nat.lt_trichotomy i bs.length with h|h|h;·rw[qzf h]at e;exact Or.inl ⟨h,e⟩
 ·subst h;simp at e;exact Or.inr ⟨rfl,e.symm⟩
 ·rw[qza (by simp;omega)]at e;cases e
def az.pg(h:az w ρ G s)(j:Nat)(n:Int):az (w.setCell ⟨G.t.b,j,none⟩ (.int .i64 n)) ρ {G with t:={G.t with r:={G.t.r with vars:=G.t.r.vars.set j n}}} {s with top:={s.top with vars:=s.top.vars.set j n}}:=by
 obtain⟨t1,t2,t3⟩:=h.fr _ _ G.jO;have k:But ρ (.var G.bs.length) w (w.setCell ⟨G.t.b,j,none⟩ (.int .i64 n)):=But.set t3 _;have b:frC {G.t with r:={G.t.r with vars:=G.t.r.vars.set j n}}=frC G.t:=by simp[frC]
 refine⟨h.run' k (by simp),h.bT,h.yM k,h.ro' k (by simp),h.uz k (by simp),h.fD,h.al,h.Bz k (by simp),?_,h.gG,h.fb,by rw[<-h.ft],?_,h.uA k (by simp),h.iy,h.n0' k⟩;·have:=h.xX k (by simp);simp only[RG.fs,qzl,qzv,jqz,jza,jqe,List.flatMap_nil]at this⊢;rw[b];exact this
 ·intro i g e;rcases uZ (bs:=G.bs) e with⟨hi,e⟩|⟨rfl,rfl⟩
  ·have a:G.fs[i]? =some g:=by rw[RG.fs,qzf hi];exact e
   refine⟨(h.fr i g a).1,(k.same g.b _ (h.fr i g a).2.2 (by intro c;injection c with c;have:i<G.bs.length:=hi;omega)).trans (h.fr i g a).2.1,(h.fr i g a).2.2⟩
  ·exact⟨t1,by have:=Blk.put t2 j (.int .i64 n);rw[CU]at this;exact this,t3⟩
def az.setAt(h:az w ρ G s){g m cap:Nat}(hv:G.frv=.slice (some ⟨g,0,none⟩) m cap)(i:Nat):az (w.setCell ⟨g,G.bs.length*8+5,none⟩ (.int .i64 i)) ρ {G with t:={G.t with r:={G.t.r with i:=i}}} {s with top:={s.top with i:=i}}:=by
 have d:ρ g=some .jc:=h.gG g (by rw[hv];rfl);have k:But ρ .jc w (w.setCell ⟨g,G.bs.length*8+5,none⟩ (.int .i64 i)):=But.set d _;have b:(G.bs.flatMap frC).length=G.bs.length*8:=by
  have:∀l:List FrG,(l.flatMap frC).length=l.length*8:=λl=>by induction l with|nil=>rfl|cons a l ih=>rw[jqe,qzl,ih,qzv];simp only[frC,qzv,jqz];omega
  exact this _
 refine⟨h.run' k (by simp),h.bT,h.yM k,h.ro' k (by simp),h.uz k (by simp),h.fD,h.al,h.Bz k (by simp),?_,h.gG,h.fb,by rw[<-h.ft],?_,h.uA k (by simp),h.iy,h.n0' k⟩
 ·have hr:=h.jc;have hm:m=G.fs.length:=by
   rcases hr.2 with⟨e,_⟩|⟨_,_,_,e,_⟩;·rw[hv]at e;cases e
   ·rw[hv]at e;injection e
  rw[hv,<-hm]at hr;have:=je (j:=G.bs.length*8+5) hr (.int .i64 i);show(w.setCell _ _).ownsRow G.n0 119 8 G.frv _ _;rw[hv];simp only[RG.fs,qzl,qzv,jqz,jza,jqe,List.flatMap_nil,jxd]at this hm⊢;rw[jzv _ _ (by rw[b];omega),b,show G.bs.length*8+5-G.bs.length*8=5 by omega]at this;rw[<-hm];exact this
 ·intro j x e;rcases uZ e with⟨hi,e⟩|⟨rfl,rfl⟩
  ·have c:G.fs[j]? =some x:=by rw[RG.fs,qzf hi];exact e
   exact h.fr' k (by simp) j x c
  ·obtain⟨t1,t2,t3⟩:=h.fr' k (by simp) _ _ G.jO;exact⟨t1,t2,t3⟩
def az.X8(h:az w ρ G s){j b:Nat}{l:List Int}(f:G.ars[j]? =some b)(hl:s.arr[j]? =some l)(i:Nat)(n:Int):az (w.setCell ⟨b,i,none⟩ (.int .i64 n)) ρ G {s with arr:=s.arr.set j (l.set i n)}:=by
 obtain⟨t1,t2⟩:=h.arr j b l f hl;have k:But ρ (.arr j) w (w.setCell ⟨b,i,none⟩ (.int .i64 n)):=But.set t2 _;have t:=(qqi.1 hl).1;refine⟨h.run' k (by simp),h.bT,h.yM k,h.ro' k (by simp),?_,h.fD,by simpa using h.al,?_,h.xX k (by simp),h.gG,h.fb,h.ft,h.fr' k (by simp),h.uA k (by simp),h.iy,h.n0' k⟩
 ·have:=h.uz k (by simp);have e:((G.ars.zip (s.arr.set j (l.set i n))).flatMap arC)=((G.ars.zip s.arr).flatMap arC):=by have a:=JZ G.ars s.arr j b (l.set i n) f;rw[a];exact vF arC _ _ (b,l) _ (by rw[List.getElem?_zip_eq_some];exact⟨f,hl⟩) (by simp[arC])
  show(w.setCell _ _).ownsRow G.n0 40 1 G.arv (s.arr.set j (l.set i n)).length _;rw[e,qjg];exact this
 ·intro q m u a d;by_cases p:q=j;·subst p;rw[f]at a;injection a with a;subst a;rw[jqb t]at d;injection d with d;subst d;exact⟨by have:=Blk.put t1 i (.int .i64 n);rw[CU]at this;exact this,t2⟩
  ·rw[jqd (λe=>p e.symm)]at d;obtain⟨x,r⟩:=h.arr q m u a d;exact⟨(k.same m _ r (by intro c;injection c;omega)).trans x,r⟩
end
def dL(ρ:Nat->Option aG)(g:Nat)(q:aG):Nat->Option aG:=λk=>if k=g then some q else ρ k
def mE{ρ:Nat->Option aG}{g:Nat}{q:aG}(h:ρ g=some q\/ρ g=none):∀b x,ρ b=some x->dL ρ g q b=some x:=λb x e=>by
 unfold dL;split
 ·rename_i eq;subst eq;rcases h with h|h;·rw[<-h,e]
  ·rw[h]at e;cases e
 ·exact e
def kJ{ρ:Nat->Option aG}{g:Nat}{q:aG}:dL ρ g q g=some q:=by simp[dL]
section
variable {w w1:World}{ρ ρ':Nat->Option aG}{G:RG}{s:MS}
def az.Ut(h:az w ρ G s)(m:∀b x,ρ b=some x->ρ' b=some x)(d:∀k q,ρ' k=some q->G.n0<=k/\k<w.heap.size):az w ρ' G s:=⟨h.run,m _ _ h.bT,d,λv e=>h.ro v λb f=>e b (m _ _ f),h.jl,λk e=>m _ _ (h.fD k e),h.al,λj b l a c=>⟨(h.arr j b l a c).1,m _ _ (h.arr j b l a c).2⟩,h.jc,λk e=>m _ _ (h.gG k e),h.fb,h.ft,λi g e=>⟨(h.fr i g e).1,(h.fr i g e).2.1,m _ _ (h.fr i g e).2.2⟩,h.kU,λk e=>m _ _ (h.iy k e),h.n0⟩
def az.qw(h:az w ρ G s){b:Nat}(q:aG)(c:ρ b=none)(h0:G.n0<=b)(hl:b<w.heap.size):az w (dL ρ b q) G s:=h.Ut (mE (Or.inr c)) λk q e=>by
  unfold dL at e;split at e;·rename_i a;subst a;exact⟨h0,hl⟩
  ·exact h.dom k q e
def az.free(h:az w ρ G s){k:Nat}(hk:w.heap.size<=k):ρ k=none:=by cases e:ρ k with|none=>rfl|some q=>have:=(h.dom k q e).2;omega
def wP{v:Value}(a:w.grownBy w1 v.ownBlock)(q:aG)(hv:∀k,v.ownBlock=some k->ρ k=some q)(r i:Nat)(hr:ρ r=some .run)(u:Value)(hd:∀k x,ρ k=some x->k<w.heap.size):∀b x,ρ b=some x->x≠q->x≠.run->(w1.setCell ⟨r,i,none⟩ u).heap[b]? =w.heap[b]?:=λb x e h1 h2=>by rw[jqr _ _ _ _ (λc=>by have c:b=r:=c;rw[c,hr]at e;injection e with e;exact h2 e.symm)];exact a.block b (hd b x e) (λc=>by have:=hv b c.symm;rw[e]at this;injection this with this;exact h1 this)
def He{v:Value}(h:az w ρ G s)(a:w.grownBy w1 v.ownBlock)(q:aG)(hv:∀k,v.ownBlock=some k->ρ k=some q){g:Nat}(b:v.ownBlock=some g\/g=w.heap.size)(i:Nat)(u:Value):Kp ρ (dL ρ g q) w (w1.setCell ⟨G.r,i,none⟩ u):=by
 refine⟨a.os,a.tape,a.output,qzi a.size (by simp[World.setCell]),λk hk hn=>?_,λk hk hn=>?_⟩;·rw[jqr _ _ _ _ (λc=>by have c:k=G.r:=c;rw[c,h.bT]at hn;cases hn)];exact a.block k hk (λc=>by rw[hv k c.symm]at hn;cases hn)
 ·unfold dL;split
  ·rename_i e;rcases b with c|c;·rw[hv k (e▸c)]at hn;cases hn
   ·omega
  ·exact hn
section
variable {g cap:Nat}
def CP(h:az w ρ G s){v:Value}{e:TypeId}{size n:Nat}{xs:List Value}{i:Nat}{u:Value}{q:aG}(b:w1.ownsRow G.n0 e size (.slice (some ⟨g,0,none⟩) n cap) n xs)(a:w.grownBy w1 v.ownBlock):∀k q',dL ρ g q k=some q'->G.n0<=k/\k<(w1.setCell ⟨G.r,i,none⟩ u).heap.size:=λk q' c=>by
 have hz:(w1.setCell ⟨G.r,i,none⟩ u).heap.size=w1.heap.size:=by simp[World.setCell]
 rw[hz];unfold dL at c;split at c;·rename_i e;subst e;exact b.lt k rfl
 ·exact⟨(h.dom k q' c).1,qzj (h.dom k q' c).2 a.size⟩
def Cb(h:az w ρ G s){v:Value}{q:aG}(hv:∀k,v.ownBlock=some k->ρ k=some q)(a:v.ownBlock=some g\/g=w.heap.size):ρ g=some q\/ρ g=none:=by
 rcases a with c|c;·exact Or.inl (hv g c)
 ·exact Or.inr (h.free oqo)
def Je(h:az w ρ G s){v:Value}{q:aG}(hv:∀k,v.ownBlock=some k->ρ k=some q)(a:v.ownBlock=some g\/g=w.heap.size)(b:q≠.run):g≠G.r:=λe=>by
 rcases Cb h hv a with c|c;·rw[e,h.bT]at c;injection c with c;exact b c.symm
 ·rw[e,h.bT]at c;cases c
def az.ZL(h:az w ρ G s)(e:Nat×Int)(r:w1.ownsRow G.n0 52 2 (.slice (some ⟨g,0,none⟩) (s.evs.length+1) cap) (s.evs.length+1) (s.evs.flatMap evC++evC e))(d:w.grownBy w1 G.evv.ownBlock)(p:G.evv.ownBlock=some g\/g=w.heap.size):az (w1.setCell ⟨G.r,6,none⟩ (.slice (some ⟨g,0,none⟩) (s.evs.length+1) cap)) (dL ρ g .kU) {G with evv:=.slice (some ⟨g,0,none⟩) (s.evs.length+1) cap} {s with evs:=s.evs++[e]}:=by
 have k:=wP d .kU h.iy G.r 6 h.bT (.slice (some ⟨g,0,none⟩) (s.evs.length+1) cap) (λk x e=>(h.dom k x e).2);have m:=mE (Cb h h.iy p);have t:=Je h h.iy p (by simp);refine⟨?_,m _ _ h.bT,CP h r d,λv c=>h.ro v λb a=>(c b (m _ _ a)).trans (k b _ a (by simp) (by simp)),bW h.jl λb c=>k b _ (h.fD b c) (by simp) (by simp),λb c=>m _ _ (h.fD b c),h.al,λj b l f n=>⟨(k b _ (h.arr j b l f n).2 (by simp) (by simp)).trans (h.arr j b l f n).1,m _ _ (h.arr j b l f n).2⟩,bW h.jc λb c=>k b _ (h.gG b c) (by simp) (by simp),λb c=>m _ _ (h.gG b c),h.fb,h.ft,λi x c=>⟨(h.fr i x c).1,(k x.b _ (h.fr i x c).2.2 (by simp) (by simp)).trans (h.fr i x c).2.1,m _ _ (h.fr i x c).2.2⟩,?_,?_,?_⟩;·have a:Blk w1 G.r 113 (G.cells s):=(d.block G.r h.run.lt (λc=>by have:=h.iy G.r c.symm;rw[h.bT]at this;cases this)).trans h.run;exact a.put 6 _
 ·have:(w1.setCell ⟨G.r,6,none⟩ (.slice (some ⟨g,0,none⟩) (s.evs.length+1) cap)).ownsRow G.n0 52 2 (.slice (some ⟨g,0,none⟩) (s.evs.length+1) cap) (s.evs.length+1) (s.evs.flatMap evC++evC e):=bW r λb c=>jqr _ _ _ _ (λc2=>by have c2:b=G.r:=c2;simp only[Value.ownBlock,qzk]at c;omega);simp only[jza,jqe,List.flatMap_nil,jxd,qzl,qzv,jqz];exact this
 ·intro b c;simp only[Value.ownBlock,qzk]at c;subst c;exact kJ
 ·exact qzi h.n0 (qzi d.size (by simp[World.setCell]))
def az.Zi(h:az w ρ G s)(t:FrG)(A:G.gp.l[t.r.f]? =some t.x)(z:Blk w t.b 2 (dx t.r.vars))(y:ρ t.b=some (.var (G.bs.length+1)))(u:w1.ownsRow G.n0 119 8 (.slice (some ⟨g,0,none⟩) (G.fs.length+1) cap) (G.fs.length+1) (G.fs.flatMap frC++frC t))(d:w.grownBy w1 G.frv.ownBlock)(p:G.frv.ownBlock=some g\/g=w.heap.size):az (w1.setCell ⟨G.r,5,none⟩ (.slice (some ⟨g,0,none⟩) (G.fs.length+1) cap)) (dL ρ g .jc) {G with frv:=.slice (some ⟨g,0,none⟩) (G.fs.length+1) cap,bs:=G.fs,t:=t} {s with base:=s.base++[s.top],top:=t.r}:=by
 have k:=wP d .jc h.gG G.r 5 h.bT (.slice (some ⟨g,0,none⟩) (G.fs.length+1) cap) (λk x e=>(h.dom k x e).2);have m:=mE (Cb h h.gG p);have B:=Je h h.gG p (by simp);refine⟨?_,m _ _ h.bT,CP h u d,λv c=>h.ro v λb a=>(c b (m _ _ a)).trans (k b _ a (by simp) (by simp)),bW h.jl λb c=>k b _ (h.fD b c) (by simp) (by simp),λb c=>m _ _ (h.fD b c),h.al,λj b l f n=>⟨(k b _ (h.arr j b l f n).2 (by simp) (by simp)).trans (h.arr j b l f n).1,m _ _ (h.arr j b l f n).2⟩,?_,?_,?_,rfl,?_,bW h.kU λb c=>k b _ (h.iy b c) (by simp) (by simp),λb c=>m _ _ (h.iy b c),?_⟩;·have a:Blk w1 G.r 113 (G.cells s):=(d.block G.r h.run.lt (λc=>by have:=h.gG G.r c.symm;rw[h.bT]at this;cases this)).trans h.run;exact a.put 5 _
 ·have:(w1.setCell ⟨G.r,5,none⟩ (.slice (some ⟨g,0,none⟩) (G.fs.length+1) cap)).ownsRow G.n0 119 8 (.slice (some ⟨g,0,none⟩) (G.fs.length+1) cap) (G.fs.length+1) (G.fs.flatMap frC++frC t):=bW u λb c=>jqr _ _ _ _ (λc2=>by have c2:b=G.r:=c2;simp only[Value.ownBlock,qzk]at c;omega);show(w1.setCell _ _).ownsRow G.n0 119 8 _ (G.fs++[t]).length ((G.fs++[t]).flatMap frC);simp only[jza,jqe,List.flatMap_nil,jxd,qzl,qzv,jqz];exact this
 ·intro b c;simp only[Value.ownBlock,qzk]at c;subst c;exact kJ
 ·show G.fs.map (·.r)=s.base++[s.top];rw[RG.fs,jzy,h.fb,jqx,h.ft,List.map_nil]
 ·intro i x c;rcases uZ (bs:=G.fs) c with⟨hi,c⟩|⟨rfl,rfl⟩;·exact⟨(h.fr i x c).1,(k x.b _ (h.fr i x c).2.2 (by simp) (by simp)).trans (h.fr i x c).2.1,m _ _ (h.fr i x c).2.2⟩
  ·exact⟨A,(k x.b _ y (by simp) (by simp)).trans z,by rw[m _ _ y,RG.fs];simp⟩
 ·exact qzi h.n0 (qzi d.size (by simp[World.setCell]))
end
def JM{base e size m g cap:Nat}{xs i:List Value}(h:w.ownsRow base e size (.slice (some ⟨g,0,none⟩) (m+1) cap) (m+1) (xs++i))(f:xs.length=m*size):w.ownsRow base e size (.slice (some ⟨g,0,none⟩) m cap) m xs:=by
 refine⟨f,?_⟩;rcases h.2 with⟨c,_⟩|⟨g',p,d,hv,l,n,hn,hm,hs,ht⟩;·cases c
 ·injection hv with a _ b;injection a with a;injection a with a;subst a;subst b;refine Or.inr ⟨g,cap,d,rfl,l,n,by omega,hm,hs,?_⟩;have j:m*size<=(m+1)*size:=jqo _ oqo;have b:(d.toList.take ((m+1)*size)).take (m*size)=(xs++i).take (m*size):=by rw[ht]
  rw[List.take_take,jqy j]at b;rw[b,<-f,List.take_left]
def Wy(l:List FrG):(l.flatMap frC).length=l.length*8:=by induction l with|nil=>rfl|cons a l ih=>rw[jqe,qzl,ih,qzv];simp only[frC,qzv,jqz];omega
def az.pop(h:az w ρ G s){bs:List FrG}{t:FrG}(d:G.bs=bs++[t]){g m cap:Nat}(hv:G.frv=.slice (some ⟨g,0,none⟩) (m+1) cap):az (w.setCell ⟨G.r,5,none⟩ (.slice (some ⟨g,0,none⟩) m cap)) ρ {G with frv:=.slice (some ⟨g,0,none⟩) m cap,bs:=bs,t:=t} {s with base:=s.base.dropLast,top:=t.r}:=by
 have k:But ρ .run w (w.setCell ⟨G.r,5,none⟩ (.slice (some ⟨g,0,none⟩) m cap)):=But.set h.bT _;have a:G.fs=(bs++[t])++[G.t]:=by rw[RG.fs,d]
 have hr:=h.jc;have hm:m+1=G.fs.length:=by
  rcases hr.2 with⟨e,_⟩|⟨_,_,_,e,_⟩;·rw[hv]at e;cases e
  ·rw[hv]at e;injection e
 have f:m=(bs++[t]).length:=by rw[a]at hm;simp at hm⊢;omega
 refine⟨h.run.put 5 _,h.bT,h.yM k,h.ro' k (by simp),h.uz k (by simp),h.fD,h.al,h.Bz k (by simp),?_,?_,?_,rfl,?_,h.uA k (by simp),h.iy,h.n0' k⟩;·have h1:=h.xX k (by simp);rw[hv,<-hm,a,jza]at h1;have:=JM h1 (by rw[Wy,<-f]);show(w.setCell _ _).ownsRow G.n0 119 8 _ (bs++[t]).length ((bs++[t]).flatMap frC);rw[<-f];exact this
 ·intro b c;exact h.gG b (by rw[hv];exact c)
 ·show bs.map (·.r)=s.base.dropLast;rw[<-h.fb,d,jzy];simp
 ·intro i x c;have c:(bs++[t])[i]? =some x:=c;have hi:=(qqi.1 c).1;exact h.fr' k (by simp) i x (by rw[a,qzf hi];exact c)
end
section
variable {P:Program}{F:Act}{W:World}{o:Oper}{v:Value}{os:List Oper}{vs:List Told}
def Yq(h:(execOp F.eval o).run P W=.ok (.value v) W)(r:gu P F W os vs):gu P F W (o::os) (some (none,v)::vs):=gu.cons (iB.val h) r
end
def fR{p q:Prop}(k:q)(h:Hid q->p:=by
  intro a;repeat(first
   |refine gu.pass ?_|(refine Yq ?_ ?_;·go_simp)
   | (apply e;·with_reducible assumption
      ·rfl)
   | (refine c ?_ ?_ ?_;·with_reducible assumption
      ·go_simp)
   | (refine d ?_ ?_ ?_;·with_reducible assumption
      ·(intro b;clear a;subst b;go_simp)))
  exact a.o):p:=h k
def fZ{p:Prop}(h:p:=by repeat(first
   |exact gu.nil|refine gu.pass ?_|(refine Yq ?_ ?_;·go_simp)
   | (apply d;·with_reducible assumption
      ·rfl)
   | (refine b ?_ ?_ ?_;·with_reducible assumption
      ·go_simp)
   | (refine c ?_ ?_ ?_;·with_reducible assumption
      ·(intro a;subst a;go_simp)))):p:=h
def fu:Tryz.prog.follows .mixedOrders=true:=kqk
def xU(r fb n m cap:Nat)(w:World)(hc:w.cell? ⟨r,5,none⟩=some (.slice (some ⟨fb,0,none⟩) m cap))(hm:m=n+1)(hn:n<=1000000):Calls Tryz.prog 71 #[.pointer (some ⟨r,5,none⟩)] w λe w'=>e=.returned (.pointer (some ⟨fb,n*8,none⟩))/\Below w.heap.size w w':=by
 have x:=hqh hc;have z:=hqh (show(n:Int)<(m:Int)by omega);have y:=hqh (show IntKind.i64.wrap ((m:Int)-1)=n from(jqv _ oqo).trans oqo);clear hc hm hn;go_enter Tryz.func71,Tryz.ntmps71;go_upto_region 1 with fail;refine gy [(none,.pointer (some ⟨r,5,none⟩)),(none,.pointer (some ⟨r,5,none⟩)),(none,.slice (some ⟨fb,0,none⟩) m cap),(none,.pointer (some ⟨r,5,none⟩)),(none,.pointer (some ⟨r,5,none⟩)),(none,.slice (some ⟨fb,0,none⟩) m cap),(none,.int .i64 (m:Int)),(none,.int .i64 (n:Int)),(none,.pointer (some ⟨fb,n*8,none⟩)),(none,.pointer (some ⟨fb,n*8,none⟩))] fu kqk ?_;intro d u i hF;have p:aN d [(0,.pointer (some ⟨r,5,none⟩)),(3,.pointer (some ⟨r,5,none⟩)),(4,.pointer (some ⟨r,5,none⟩)),(5,.slice (some ⟨fb,0,none⟩) m cap),(6,.pointer (some ⟨r,5,none⟩)),(7,.pointer (some ⟨r,5,none⟩)),(8,.slice (some ⟨fb,0,none⟩) m cap),(9,.int .i64 (m:Int)),(10,.int .i64 (n:Int)),(11,.pointer (some ⟨fb,n*8,none⟩)),(2,.pointer (some ⟨fb,n*8,none⟩))]:=by unfold aN;rw[hF,i];kernel_rfl
 have l:=hqh hF;clear hF;have f:=hqh i;clear i;refine⟨?_,?_⟩
 ·intro V c;repeat clear‹∀(a:Act)(w:World),Code.wp Tryz.prog _ _ a w->_›
  have B:=dn;have C:=dm;have E:=z.o;have D:=y.o;have t:=p.all;repeat(obtain⟨_,t⟩:=t)
  have H:=aa c x.o;exact rZ
 intro V c;clear p;obtain⟨b,j⟩:∃b:Nat->Value,d=bI [(3,b 3),(4,b 4),(5,b 5),(6,b 6),(7,b 7),(8,b 8),(9,b 9),(10,b 10),(11,b 11),(2,.pointer (some ⟨fb,n*8,none⟩))] u:=⟨λk=>d.tmps.getD k undef,by rw[l.o,f.o];kernel_rfl⟩;clear l;rw[f.o]at j;clear f;simp only[bI,Act.put,qqb]at j;subst j;refine jzi ?_;have A:=hqh c;clear c;go_wp2_with fail;go_ret;exact⟨rfl,A.o⟩
def uF{w w':World}{base e size n:Nat}{v:Value}{xs:List Value}(h:w.ownsRow base e size v n xs)(a:Below w.heap.size w w'):w'.ownsRow base e size v n xs:=bW h λb e=>a.block b (h.lt b e).2
def iq{w:World}{base e size n:Nat}{v:Value}{xs:List Value}(h:w.ownsRow base e size v n xs):∃A c,v=.slice A n c:=by
 rcases h.2 with⟨rfl,rfl⟩|⟨g,cap,a,rfl,_⟩;·exact⟨_,_,rfl⟩
 ·exact⟨_,_,rfl⟩
def az.runs{w:World}{ρ:Nat->Option aG}{G:RG}{s:MS}(h:az w ρ G s):bH w ρ G.r G.n0 G.gp s:=⟨G,rfl,rfl,rfl,h⟩
def kX{w w':World}(h:w'.heap=w.heap)(a:Addr):w'.cell? a=w.cell? a:=by simp[World.cell?,h]
def U2:(Tryz.prog.info? 119).map (λi=>(i.zero,i.size,i.bytes))=some (some (.agg #[.string ⟨#[]⟩,.int .i64 0,.int .i64 0,.slice none 0 0,.int .i64 0,.int .i64 0,.slice none 0 0,.int .i64 0]),8,104):=kqk
def SY(r n0 m cap:Nat)(A:Option Addr)(cs:Array Value)(xs:List Value)(f:ByteArray)(j va c d into:Int)(cv vs:Value)(w:World)(own:w.ownsRow n0 119 8 (.slice A m cap) m xs)(K:Blk w r 113 cs)(h5:cs[5]? =some (.slice A m cap))(z:∀k,(Value.slice A m cap).ownBlock=some k->k≠r)(hm:m<=1000000)(y0:n0<=w.heap.size)(x0:cv.oneCell'=true)(d1:vs.oneCell'=true):Calls Tryz.prog 122 #[.pointer (some ⟨r,5,none⟩),.agg #[.string f,.int .i64 j,.int .i64 va,cv,.int .i64 c,.int .i64 d,vs,.int .i64 into]] w λe w'=>e=.returned (.tuple #[])/\∃p g H w1,Below w.heap.size w p/\p.grownBy w1 (Value.slice A m cap).ownBlock/\w1.ownsRow n0 119 8 (.slice (some ⟨g,0,none⟩) (m+1) H) (m+1) (xs++[.string f,.int .i64 j,.int .i64 va,cv,.int .i64 c,.int .i64 d,vs,.int .i64 into])/\((Value.slice A m cap).ownBlock=some g\/g=p.heap.size)/\w'=w1.setCell ⟨r,5,none⟩ (.slice (some ⟨g,0,none⟩) (m+1) H):=by
 have L:Below w.heap.size w (w.alloc (.cells #[.string f,.int .i64 j,.int .i64 va,cv,.int .i64 c,.int .i64 d,vs,.int .i64 into] 119)):=(qjk _ _).alloc (qqf _) _;have j0:=hqh (Blk.new w 119 #[.string f,.int .i64 j,.int .i64 va,cv,.int .i64 c,.int .i64 d,vs,.int .i64 into]);have i1:=hqh (K.below L);have HC:=hqh (((K.below L).cell 5).trans h5);have Z:=hqh L;have l0:=hqh own;have B:=hqh z;have HM:=hqh hm;have m1:=hqh y0;have Y:=hqh K;have j1:=hqh x0;have p1:=hqh d1;clear L own K h5 z hm y0 x0 d1;have g2:r<w.heap.size:=Y.o.lt;go_enter Tryz.func122,Tryz.ntmps122;go_upto_region 1 with fail;obtain⟨W0,S⟩:∃W0,W0=w.alloc (.cells #[.string f,.int .i64 j,.int .i64 va,cv,.int .i64 c,.int .i64 d,vs,.int .i64 into] 119):=⟨_,rfl⟩;rw[<-S]at j0 i1 HC Z⊢;have x1:=hqh S;clear S;have y:Hid ((W0.cell? ⟨r,5,none⟩=some (.slice A m cap)/\(∀i u,#[.string f,.int .i64 j,.int .i64 va,cv,.int .i64 c,.int .i64 d,vs,.int .i64 into][i]? =some u->W0.cell? ⟨w.heap.size,i,none⟩=some u))):=hqh ⟨HC.o,λi u hu=>(j0.o.cell i).trans hu⟩;refine aL [some (none,.pointer (some ⟨r,5,none⟩)),some (none,.pointer (some ⟨r,5,none⟩)),some (none,.pointer (some ⟨r,5,none⟩)),some (none,.slice A m cap),some (none,.agg #[.string f,.int .i64 j,.int .i64 va,cv,.int .i64 c,.int .i64 d,vs,.int .i64 into]),none,none,none,none] (λW=>W.cell? ⟨r,5,none⟩=some (.slice A m cap)/\(∀i u,#[.string f,.int .i64 j,.int .i64 va,cv,.int .i64 c,.int .i64 d,vs,.int .i64 into][i]? =some u->W.cell? ⟨w.heap.size,i,none⟩=some u)) 4 fu (λ_ a a2 _ hd h=>by cases a;cases a2;cases hd;exact h) kqk (λC hh _=>⟨(kX hh _).trans y.o.1,λi u hu=>(kX hh _).trans (y.o.2 i u hu)⟩) ?_;intro N AA C z hF x U;have hL:aN N [(0,.pointer (some ⟨r,5,none⟩)),(3,.pointer (some ⟨w.heap.size,0,none⟩)),(4,.pointer (some ⟨r,5,none⟩)),(5,.pointer (some ⟨r,5,none⟩)),(6,.pointer (some ⟨r,5,none⟩)),(7,.slice A m cap),(8,.agg #[.string f,.int .i64 j,.int .i64 va,cv,.int .i64 c,.int .i64 d,vs,.int .i64 into])]:=by unfold aN;rw[hF,z];kernel_rfl
 have HF:=hqh hF;clear hF;have B:=hqh z;clear z;refine⟨?_,?_⟩
 ·intro z1 hV;obtain⟨q1,n⟩:=hV;repeat clear‹∀(a:Act)(w:World),Code.wp Tryz.prog _ _ a w->_›
  have d2:=dn;have e2:=dm;have zA:=hL.all;repeat(obtain⟨_,zA⟩:=zA)
  have j2:=q1;have l2:=n 0 _ rfl;have m2:=n 1 _ rfl;have n2:=n 2 _ rfl;have o2:=n 3 _ rfl;have p2:=n 4 _ rfl;have q2:=n 5 _ rfl;have r2:=n 6 _ rfl;have s2:=n 7 _ rfl;exact fZ
 clear hL;obtain⟨gf,R⟩:∃gf:Nat->Value,N=bI [(4,.pointer (some ⟨r,5,none⟩)),(5,gf 5),(6,gf 6),(7,.slice A m cap),(8,.agg #[.string f,.int .i64 j,.int .i64 va,cv,.int .i64 c,.int .i64 d,vs,.int .i64 into])] AA:=⟨λk=>N.tmps.getD k undef,by rw[HF.o,B.o];kernel_rfl⟩;clear HF;rw[B.o]at R;clear B;simp only[bI,Act.put,qqb]at R;subst R;refine ai 5 rfl kqk (λQ l=>?_);go_simp;have V:=U.alloc U.size (.cells #[.string f,.int .i64 j,.int .i64 va,cv,.int .i64 c,.int .i64 d,vs,.int .i64 into] 119);have J:((C.alloc (.cells #[.string f,.int .i64 j,.int .i64 va,cv,.int .i64 c,.int .i64 d,vs,.int .i64 into] 119)).cell? ⟨r,5,none⟩=some (.slice A m cap)/\(∀i u,#[.string f,.int .i64 j,.int .i64 va,cv,.int .i64 c,.int .i64 d,vs,.int .i64 into][i]? =some u->(C.alloc (.cells #[.string f,.int .i64 j,.int .i64 va,cv,.int .i64 c,.int .i64 d,vs,.int .i64 into] 119)).cell? ⟨w.heap.size,i,none⟩=some u)):=⟨(World.cell?_alloc_lt _ _ _ (by rw[x];exact aB y.o.1)).trans ((kX x _).trans y.o.1),λi u hu=>(World.cell?_alloc_lt _ _ _ (by rw[x];exact aB (y.o.2 i u hu))).trans ((kX x _).trans (y.o.2 i u hu))⟩;refine l.o _ _ (Or.inl J) ?_;clear l;have D:=Blk.new C 119 #[.string f,.int .i64 j,.int .i64 va,cv,.int .i64 c,.int .i64 d,vs,.int .i64 into];rw[x]at D;obtain⟨p,T⟩:∃p,p=C.alloc (.cells #[.string f,.int .i64 j,.int .i64 va,cv,.int .i64 c,.int .i64 d,vs,.int .i64 into] 119):=⟨_,rfl⟩;rw[<-T]at J D V⊢;have M:p.heap.size=W0.heap.size+1:=by rw[T,jqh,x]
 have I:=aC Z.o V;have n1:=hqh (uF l0.o I);obtain⟨bx,n⟩:∃b,b=W0.heap.size:=⟨_,rfl⟩;rw[<-n]at D⊢;have m0:=hqh J;have g1:=hqh D;have o0:=hqh I;have y1:=hqh M;have d0:=hqh (Y.o.below I);clear U x T V J D I M n;obtain⟨i0,r1,t1,M,v1⟩:=jxo U2;refine ai 6 rfl kqk (λQ l=>?_);refine step_append_lies _ rfl _ _ 111 rfl n0 119 i0 (.agg #[.string ⟨#[]⟩,.int .i64 0,.int .i64 0,.slice none 0 0,.int .i64 0,.int .i64 0,.slice none 0 0,.int .i64 0]) 8 104 Tryz.underlying111 r1 t1 M v1 rfl (by decide) _ _ _ rfl n1.o ⟨bx,0,none⟩ 1 1 [.string f,.int .i64 j,.int .i64 va,cv,.int .i64 c,.int .i64 d,vs,.int .i64 into] rfl rfl (jji (cs:=#[.string f,.int .i64 j,.int .i64 va,cv,.int .i64 c,.int .i64 d,vs,.int .i64 into]) (t:=119) (fr:=(0,0)) g1.o) (λu hu=>?_) (by decide) (by have:=HM.o;unfold maxLen;omega) (by have:=HM.o;omega) (qzi m1.o o0.o.size) _ rfl ?_
 ·simp only[qzh,qjh,jzq]at hu;rcases hu with rfl|rfl|rfl|rfl|rfl|rfl|rfl|rfl;·rfl
  ·rfl
  ·rfl
  ·exact j1.o
  ·rfl
  ·rfl
  ·exact p1.o
  ·rfl
 intro g H w1 a1 E q0 s1;have X:some r≠(Value.slice A m cap).ownBlock:=λe=>B.o r e.symm rfl;have r0:some w.heap.size≠(Value.slice A m cap).ownBlock:=λe=>by have:=(l0.o.lt _ e.symm).2;omega
 have p0:(w1.cell? ⟨r,5,none⟩=some (.slice A m cap)/\(∀i u,#[.string f,.int .i64 j,.int .i64 va,cv,.int .i64 c,.int .i64 d,vs,.int .i64 into][i]? =some u->w1.cell? ⟨w.heap.size,i,none⟩=some u)):=⟨E.cell m0.o.1 X,λi u hu=>E.cell (m0.o.2 i u hu) r0⟩;have s0:Blk w1 r 113 cs:=(E.block r d0.o.lt X).trans d0.o;have o1:=hqh a1;have l1:=hqh E;have e1:=hqh q0;have O:=hqh p0;have e0:=hqh s0;clear a1 E q0 s1 X r0 p0 s0;refine l.o _ _ (Or.inl O.o) ?_;clear l;refine ai 7 rfl kqk (λQ l=>?_);go_simp;refine l.o _ _ (Or.inl O.o) ?_;clear l;refine ai 8 rfl kqk (λQ l=>?_);have k5:=O.o.1;have f5:=e0.o.free 5;have l5:=e0.o.lt;go_simp;refine l.o _ _ (Or.inr kqk) ?_;clear l;refine au kqk ?_;go_end0;exact⟨rfl,p,g,H,w1,o0.o,l1.o,o1.o,e1.o,rfl⟩
def X4:(Tryz.prog.info? 52).map (λi=>(i.zero,i.size,i.bytes))=some (some (.agg #[.int .u8 0,.int .i64 0]),2,16):=kqk
def lJ{w:World}{ρ:Nat->Option aG}{G:RG}{s:MS}(h:az w ρ G s)(k:Nat)(n:Int)(hl:s.evs.length<=1000000):Calls Tryz.prog 124 #[.pointer (some ⟨G.r,0,none⟩),.int .u8 k,.int .i64 n] w λe w'=>e=.returned (.tuple #[])/\∃ρ',bH w' ρ' G.r G.n0 G.gp (s.see k n)/\Kp ρ ρ' w w':=by
 obtain⟨A,c,hv⟩:=iq h.kU;have y:Below w.heap.size w (w.alloc (.cells #[.int .u8 k,.int .i64 n] 52)):=(qjk _ _).alloc (qqf _) _;have f:=hqh (h.below y);have c6:w.cell? ⟨G.r,6,none⟩=some (.slice A s.evs.length c):=(h.run.cell 6).trans (by simp[RG.cells,hv]);have lr:=h.run.lt;have D:=hqh (f.o.kU);rw[hv]at D;have H:=hqh h;have p:=hqh hv;have R:=hqh hl;have C:=hqh y;clear h hv hl y;have hl:=R.o;obtain⟨Y,S,U,V,X⟩:=jxo X4;go_enter Tryz.func124,Tryz.ntmps124;go_wp2_with(at_builtin;refine wpList_append_lies _ rfl _ _ 46 rfl G.n0 52 Y (.agg #[.int .u8 0,.int .i64 0]) 2 16 Tryz.underlying46 S U V X rfl (by decide) _ _ _ rfl D.o ⟨w.heap.size,0,none⟩ 1 1 [.int .u8 k,.int .i64 n] rfl rfl (jji (cs:=#[.int .u8 k,.int .i64 n]) (t:=52) (fr:=(0,0)) (jxg w _)) (by simp[Value.oneCell']) (by decide) (by unfold maxLen;omega) oqo (qzi H.o.n0 C.o.size) _ rfl ?_);intro g cap w1 M L J T;have m:w.alloc (.cells #[.int .u8 k,.int .i64 n] 52)|>.grownBy w1 G.evv.ownBlock:=by rw[p.o];exact L
 have r:G.evv.ownBlock=some g\/g=(w.alloc (.cells #[.int .u8 k,.int .i64 n] 52)).heap.size:=by rw[p.o];exact J.imp id (λe=>e.trans (by simp))
 have i:=hqh (f.o.ZL (k,n) M m r);have l:Blk w1 G.r 113 (G.cells s):=(m.block G.r f.o.run.lt (λc=>by have:=H.o.iy G.r c.symm;rw[H.o.bT]at this;cases this)).trans f.o.run;have k6:=l.cell 6;have f6:=l.free 6;have Z:=l.lt;have K:(G.cells s)[6]? =some G.evv:=rfl;rw[K,p.o]at k6;have E:=hqh ((Kp.of_below C.o).trans (He f.o m .kU f.o.iy r 6 (.slice (some ⟨g,0,none⟩) (s.evs.length+1) cap)));clear M L J T m r l K c6;go_upto_region 1 with fail;clear k6 f6 Z;obtain⟨d,I⟩:∃d,d=w1.setCell ⟨G.r,6,none⟩ (.slice (some ⟨g,0,none⟩) (s.evs.length+1) cap):=⟨_,rfl⟩;rw[<-I]at i E⊢;clear I;obtain⟨b,u⟩:∃b,b=s.ended:=⟨_,rfl⟩;have k7:d.cell? ⟨G.r,7,none⟩=some (.bool b):=(i.o.run.cell 7).trans (by simp[RG.cells,u]);have f7:d.frozen? ⟨G.r,7,none⟩=false:=i.o.run.free 7;have l7:G.r<d.heap.size:=i.o.run.lt;have Q:=hqh u;clear u;obtain⟨a,z⟩:∃a:Bool,a=(k==3):=⟨_,rfl⟩;obtain⟨j,B⟩:∃a:Bool,a=(k==4):=⟨_,rfl⟩;have q3:((k:Int)==3)=a:=by rw[z];cases hk:(k==3)<;>simp at hk⊢ <;>omega
 have q4:((k:Int)==4)=j:=by rw[B];cases hk:(k==4)<;>simp at hk⊢ <;>omega
 have O:Hid (∀x,x=(b||(a||j))->bH (d.setCell ⟨G.r,7,none⟩ (.bool x)) (dL ρ g .kU) G.r G.n0 G.gp (s.see k n)/\Kp ρ (dL ρ g .kU) w (d.setCell ⟨G.r,7,none⟩ (.bool x))):=hqh (λx N=>by rw[Q.o,z,B]at N;subst N;exact⟨(i.o.Ub _).runs,E.o.trans (Kp.set i.o.bT _)⟩);clear z B;have d0:((k:Int)=3)=(a=true):=by rw[<-q3];simp
 have e0:((k:Int)=4)=(j=true):=by rw[<-q4];simp
 cases b<;>cases a<;>cases j;all_goals(go_wp2_with fail;go_end0;exact⟨rfl,_,O.o _ (by rfl)⟩)
def fG{k:IntKind}{a b:Int}(h:a=b):Ending.returned (.int k a)=.returned (.int k b):=by rw[h]
def xO(x:Bool)(w:World):Calls Tryz.prog 65 #[.bool x] w λe w'=>e=.returned (.int .i64 (if x then 1 else 0))/\w=w':=by cases x<;>(go_enter Tryz.func65,Tryz.ntmps65;go_wp2_with fail;go_ret;exact⟨rfl,rfl⟩)
def De(n:Int):bits .and .i64 n 63=n%64:=by
 have a:(BitVec.ofInt 64 63).toNat=2^6-1:=by decide
 have key:(BitVec.ofInt 64 n&&&BitVec.ofInt 64 63).toNat=(n%((2^64:Nat):Int)).toNat%2^6:=by rw[BitVec.toNat_and,BitVec.toNat_ofInt,a,Nat.and_two_pow_sub_one_eq_mod]
 show IntKind.i64.wrap ((BitVec.ofInt 64 n&&&BitVec.ofInt 64 63).toNat:Nat)=n%64;rw[key,IntKind.wrap_i64];omega
def DU(n:Int):(IntKind.u64.wrap n).tmod 64=n%64:=by have h0:=wrap_u64_nonneg n;rw[Int.tmod_eq_emod_of_nonneg h0];simp only[IntKind.wrap,IntKind.bits,IntKind.signed];simp
