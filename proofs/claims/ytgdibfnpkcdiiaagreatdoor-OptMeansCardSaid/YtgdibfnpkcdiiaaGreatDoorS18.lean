/- Joint text: OLead, OLeadW, ONext, OReachW, OWith, OBack, OLiveA, OLiveM, OLiveR, OTake, OTakeB, OTakeG, OTakes. By an AI agent. -/
import Derived.Test.YtgdibfnpkcdiiaaGreatDoorSzy
import Derived.Test.YtgdibfnpkcdiiaaGreatDoorS17
import Derived.Laws.AppendOwnNone
import Derived.RangeFuncNested
import Derived.RangeFuncBound
import Derived.Shelf.Abstract
import Derived.Shelf.RegionOpen
import Derived.OwnWalkIn
import Derived.TacticsInMore
import Derived.LoopNIn
import Derived.LoopIn
import Derived.Sort.CutIn
set_option linter.all false
set_option maxRecDepth 100000
set_option maxHeartbeats 64000000
namespace Go.Proofs.YtgdibfnpkcdiiaaGreatDoor
open Go.RowKit
def j5(i:Nat)(x:In)(j:Nat):Bool:=((x.op==13||x.op==14)&&x.to.toNat==j)||((x.op==13||x.op==14||x.op==12||x.op==10)&&i+1==j)
def fK(n:Nat)(l:List In)(i:Nat):List Bool:=(List.range n).map λj=>j==0||(l.take i).zipIdx.any λp=>j5 p.2 p.1 j
def Pw{n:Nat}(l:List In)(hn:0<n):fK n l 0=(List.replicate n false).set 0 true:=by
 apply jqk;intro j;unfold fK;by_cases h:j<n
 ·rw[qqp,qqz h];by_cases h0:j=0;·subst h0;rw[jqb (by simpa using hn)];rfl
  ·rw[jqd oqo,qzt,qzb h];simp[h0]
 ·rw[qza (by simp;omega),qza (by simp;omega)]
def Jl{n:Nat}(l:List In)(i j:Nat)(h:j<n):(fK n l i)[j]? =some (j==0||(l.take i).zipIdx.any λp=>j5 p.2 p.1 j):=by unfold fK;rw[qqp,qqz h];rfl
def kM(n:Nat)(l:List In)(i:Nat):(fK n l i).length=n:=by simp[fK]
def Ng{n:Nat}{l:List In}{i:Nat}{x:In}(f:l[i]? =some x):fK n l (i+1)=if x.op=13\/x.op=14 then((fK n l i).set x.to.toNat true).set (i+1) true else if x.op=12\/x.op=10 then(fK n l i).set (i+1) true else fK n l i:=by
 have v:=(qqi.1 f).1;have key:∀j,((l.take (i+1)).zipIdx.any λp=>j5 p.2 p.1 j)=(((l.take i).zipIdx.any λp=>j5 p.2 p.1 j)||j5 i x j):=λj=>by rw[jqw,f,Option.toList_some,List.zipIdx_append,List.any_append,jqg,jqy oqo];simp
 apply jqk;intro j;by_cases h:j<n
 ·rw[Jl l (i+1) j h,key];have h0:=Jl l i j h;have d:∀(L:List Bool)(k:Nat)(b:Bool),L.length=n->L[j]? =some b->(L.set k true)[j]? =some (b||k==j):=λL k b u t=>by
   by_cases e:k=j;·subst e;rw[jqb oqo];simp
   ·rw[jqd e,t];simp[e]
  clear key;generalize((l.take i).zipIdx.any λp=>j5 p.2 p.1 j)=q at h0⊢;unfold j5;by_cases c1:x.op=13\/x.op=14;·rw[qzb c1,d _ _ _ (by simp[kM]) (d _ _ _ (kM n l i) h0)];rcases c1 with c1|c1<;>simp[c1,Bool.or_assoc]
  ·rw[qzc c1];by_cases c2:x.op=12\/x.op=10;·rw[qzb c2,d _ _ _ (kM n l i) h0];rcases c2 with c2|c2<;>simp[c2,Bool.or_assoc]
   ·rw[qzc c2,h0];have o:(x.op==13)=false:=by simp;omega
    have r:(x.op==14)=false:=by simp;omega
    have a3:(x.op==12)=false:=by simp;omega
    have a4:(x.op==10)=false:=by simp;omega
    simp[o,r,a3,a4]
 ·have s:(fK n l (i+1)).length<=j:=by rw[kM];omega
  have a:(fK n l i).length<=j:=by rw[kM];omega
  rw[qza s];split;·rw[qza (by simpa using a)]
  ·split;·rw[qza (by simpa using a)]
   ·rw[qza a]
def Tc(l:List In):fK (l.length+1) l l.length=(List.range (l.length+1)).map (eu l):=by
 unfold fK;apply jqj;intro j hj;rw[List.take_length];unfold eu;rw[qzd];simp only[qji,jze,qqn,jzb];have hz:∀(x:In)(k:Nat),(x,k)∈l.zipIdx↔l[k]? =some x:=λx k=>by rw[List.mem_zipIdx_iff_getElem?]
 constructor
 ·rintro(h|⟨⟨x,k⟩,hm,h⟩);·exact Or.inl (Or.inl h)
  ·rw[hz]at hm;unfold j5 at h;simp only[qji,qqn,jzb]at h;rcases h with⟨h1,h2⟩|⟨h1,h2⟩;·exact Or.inl (Or.inr ⟨x,qqr hm,h1,h2⟩)
   ·right;rw[<-h2];simp only[hm,qji,jzb];exact h1
 ·rintro((h|⟨x,hm,h1,h2⟩)|h);·exact Or.inl h
  ·obtain⟨k,hk⟩:=jqs.1 hm;refine Or.inr ⟨(x,k),(hz x k).2 hk,?_⟩;unfold j5;simp only[qji,qqn,jzb];exact Or.inl ⟨h1,h2⟩
  ·right;cases j with|zero=>cases h|succ k=>simp only at h;cases hk:l[k]? with|none=>rw[hk]at h;cases h|some x=>rw[hk]at h;refine⟨(x,k),(hz x k).2 hk,?_⟩;unfold j5;simp only[qji,qqn,jzb]at h⊢;exact Or.inr ⟨h,trivial⟩
def rJ(b:Bool):List Value:=[.bool b]
def dh(w:World)(base:Nat)(v:Value)(l:List Bool):Prop:=w.ownsRow base 4 1 v l.length (l.flatMap rJ)
def Uk(l:List Bool)(i:Nat):(l.flatMap rJ)[i]? =(l[i]?).map λk=>Value.bool k:=by
 have e:∀l:List Bool,l.flatMap rJ=l.map λk=>Value.bool k:=λl=>by induction l with|nil=>rfl|cons a l ih=>rw[jqe,ih];rfl
 rw[e,qqp]
def NJ(l:List Bool)(i:Nat)(x:Bool):(l.flatMap rJ).set i (.bool x)=(l.set i x).flatMap rJ:=by
 have e:∀l:List Bool,l.flatMap rJ=l.map λk=>Value.bool k:=λl=>by induction l with|nil=>rfl|cons a l ih=>rw[jqe,ih];rfl
 rw[e,e,List.map_set]
section
variable {w w':World}{base:Nat}{g c:Nat}{l:List Bool}
def dh.cell{n:Nat}(h:dh w base (.slice (some ⟨g,0,none⟩) n c) l){i:Nat}{b:Bool}(hi:l[i]? =some b):w.cell? ⟨g,i,none⟩=some (.bool b)/\w.frozen? ⟨g,i,none⟩=false:=by have e:=(qqi.1 hi).1;unfold dh at h;obtain⟨A,c2,hv⟩:=dM h;injection hv with _ a _;subst a;refine⟨by rw[h.cellAt i oqo,Uk,hi];rfl,?_⟩;obtain⟨cur,d⟩:=aQ h (b:=g) rfl;exact Blk.free (t:=4) (cs:=cur) d i
def dh.set{n:Nat}(h:dh w base (.slice (some ⟨g,0,none⟩) n c) l)(i:Nat)(b:Bool):dh (w.setCell ⟨g,i,none⟩ (.bool b)) base (.slice (some ⟨g,0,none⟩) n c) (l.set i b):=by unfold dh at h⊢;have h2:=dM h;obtain⟨A,c2,hv⟩:=h2;injection hv with _ a _;have:=je (j:=i) (by rw[<-a]at h;exact h) (.bool b);rw[NJ]at this;rw[qjg,<-a];exact this
end
def Pv:(Tryz.prog.info? 4).map (λi=>(i.zero,i.size,i.bytes))=some (some (.bool false),1,1):=kqk
def zU(n:Nat):(madeCells #[Value.bool false] n).toList=(List.replicate n false).flatMap rJ:=by
 have:∀n:Nat,(List.replicate n false).flatMap rJ=List.replicate n (Value.bool false):=λn=>by induction n with|zero=>rfl|succ n ih=>rw[List.replicate_succ,jqe,ih];rfl
 rw[this];exact toList_madeCells_one _ n
def IQ(lv:Value)(l:List InV)(w:World)(hl:dS w lv l)(hn:l.length<=100000)(e0:∀x∈l,x.1.op=13\/x.1.op=14->0<=x.1.to/\x.1.to<l.length):Calls Tryz.prog 92 #[lv] w λe w'=>(∃v,e=.returned v/\dh w' w.heap.size v ((List.range (l.length+1)).map (eu (l.map (·.1)))))/\Below w.heap.size w w':=by
 obtain⟨A,c,rfl,hc,hr⟩:=hl;obtain⟨n,E⟩:∃n,n=l.length:=⟨_,rfl⟩;rw[<-E];rw[<-E]at hc hn;have HL:=hqh hr;have I:=hqh E;have HT:=hqh e0;clear hr E e0;obtain⟨i0,q0,e1,g1,i1⟩:=jxo Pv;go_enter Tryz.func92,Tryz.ntmps92;go_wp2_with(at_make;refine wpList_make_full _ rfl _ _ 129 rfl w.heap.size 4 i0 (.bool false) 1 Tryz.underlying129 q0 e1 g1 .i64 .i64 (n+1) (n+1) (n+1) rfl rfl oqo oqo (by rw[i1];omega) (by unfold maxLen;omega) (qqf _) ?_);intro w1 O X;have G:=hqh (show dh w1 w.heap.size (.slice (some ⟨w.heap.size,0,none⟩) (n+1:Nat) (n+1)) (List.replicate (n+1) false)by unfold dh;rw[List.length_replicate,<-zU];exact O);have R:=hqh ((qjk w.heap.size w).grown X (qqf _) (λk e=>by cases e));have Y:w.heap.size<w1.heap.size:=(O.lt _ rfl).2;clear O X;go_upto_region 2 with fail;obtain⟨c0,f0⟩:=G.o.cell (i:=0) (b:=false) (by simp);go_upto_region 3 with fail;have Q:=hqh (show dh (w1.setCell ⟨w.heap.size,0,none⟩ (.bool true)) w.heap.size (.slice (some ⟨w.heap.size,0,none⟩) (n+1:Nat) (n+1)) (fK (n+1) (l.map (·.1)) 0)by rw[Pw _ oqo];exact G.o.set 0 true);have T:=hqh (R.o.setCell (p:=⟨w.heap.size,0,none⟩) (qqf _) (.bool true));have Z:w.heap.size<(w1.setCell ⟨w.heap.size,0,none⟩ (.bool true)).heap.size:=by simpa [World.setCell]using Y
 generalize s0:w1.setCell _ _=w2 at Q T Z⊢;clear s0 c0 f0 G R Y;go_wp2_with fail;go_loopg [14]n(λgk v wr=>∃i:Nat,i<=n/\n-i<=gk/\v=.int .i64 i/\Hid (dh wr w.heap.size (.slice (some ⟨w.heap.size,0,none⟩) (n+1:Nat) (n+1)) (fK (n+1) (l.map (·.1)) i))/\Hid (Below w.heap.size w wr)/\w.heap.size<wr.heap.size);case atStart=>exact⟨0,qqy _,qqf _,rfl,Q,T,Z⟩
 case round=>
  obtain⟨i,hi,j1,rfl,s,u,n1⟩:=hrel;by_cases m1:i<n;case neg=>have q:decide ((i:Int)<(n:Int))=false:=qqt oqo;have r0:i=n:=oqo;go_wp2_with fail;go_ret;refine⟨⟨_,rfl,?_⟩,u.o⟩;have:=s.o;have e:=Tc (l.map (·.1));rw[qqv,<-I.o]at e;rw[r0,e]at this;exact this
  case pos=>
   have q:decide ((i:Int)<(n:Int))=true:=qqx oqo;have l1:(i:Int)<(n:Int):=oqo;obtain⟨y,j⟩:∃y,l[i]? =some y:=⟨_,qqh (by have:=I.o;omega)⟩;obtain⟨b,o,hA,o0⟩:∃b o,A=some ⟨b,o,none⟩/\gF wr b (o+i*10) y:=by
    rcases HL.o with e|⟨b,o,e,k⟩;·rw[e]at j;simp at j
    ·exact⟨b,o,e,(k i y j).below u.o⟩
   subst hA;have m0:=hqh (HT.o y (qqr j));have l0:=hqh (show(l.map (·.1))[i]? =some y.1 by rw[qqp,j];rfl);obtain⟨P,y1,y2,y3,y4,y5,y6,y7,y8,y9,B,ac,L,_,_⟩:=o0;have lb:=aB P;clear j;obtain⟨⟨op,v,a,D,m,bin,args,f,arr,t⟩,av⟩:=y;dsimp only at L;obtain⟨C,V⟩:∃k,k=args.length:=⟨_,rfl⟩;rw[<-V]at L;clear V;subst L;simp only[]at P y1 y2 y3 y4 y5 y6 y7 y8 y9;have j0:=hqh (s.o);go_upto_region 6 with fail;clear P y1 y2 y3 y4 y5 y6 y7 y8 y9;have bx:=Blk.new wr 71 #[.int .u8 op,.int .i64 v,.int .i64 a,.int .i64 D,.int .i64 m,.int .u8 bin,.slice B C ac,.int .i64 f,.int .i64 arr,.int .i64 t];have ha:=(qjk wr.heap.size wr).alloc (qqf _) (.cells #[.int .u8 op,.int .i64 v,.int .i64 a,.int .i64 D,.int .i64 m,.int .u8 bin,.slice B C ac,.int .i64 f,.int .i64 arr,.int .i64 t] 71);have h:=hqh (show dh (wr.alloc (.cells #[.int .u8 op,.int .i64 v,.int .i64 a,.int .i64 D,.int .i64 m,.int .u8 bin,.slice B C ac,.int .i64 f,.int .i64 arr,.int .i64 t] 71)) w.heap.size _ _ from own_below s.o ha);have z:=hqh (u.o.trans (ha.mono oqo));have F:w.heap.size<(wr.alloc (.cells #[.int .u8 op,.int .i64 v,.int .i64 a,.int .i64 D,.int .i64 m,.int .u8 bin,.slice B C ac,.int .i64 f,.int .i64 arr,.int .i64 t] 71)).heap.size:=by rw[jqh];omega
   generalize d1:wr.alloc _=wa at bx h z F⊢;clear d1 ha s u j0;have HX:=hqh bx;have x0:=bx.cell 0;clear bx;have N:=Ng (n:=n+1) l0.o;simp only[]at N;have J:=hqh N;clear N;obtain⟨K,rfl⟩:∃k,gk=k+1:=⟨gk-1,by omega⟩;by_cases c1:op=13\/op=14
   ·obtain⟨t0,t1⟩:=m0.o c1;obtain⟨d,rfl⟩:∃k:Nat,t=(k:Int):=⟨t.toNat,by have t0:0<=t:=t0;omega⟩;have o1:d<n:=by have t1:((d:Nat):Int)<l.length:=t1;have:=I.o;omega
    have r1:(d:Int)<(n:Int)+1:=oqo;have x9:=HX.o.cell 9;obtain⟨cc,p0⟩:∃b,(fK (n+1) (l.map (·.1)) i)[d]? =some b:=⟨_,qqh (by rw[kM];omega)⟩;obtain⟨k1,k2⟩:=h.o.cell p0;have r:=hqh (show fK (n+1) (l.map (·.1)) (i+1)=((fK (n+1) (l.map (·.1)) i).set d true).set (i+1) true by rw[J.o,qzb c1];rfl);rcases c1 with rfl|rfl<;>
    (go_upto_region 12 with fail;have H:=hqh (h.o.set d true);have U:=hqh (z.o.setCell (p:=⟨w.heap.size,d,none⟩) (qqf _) (.bool true));have d0:w.heap.size<(wa.setCell ⟨w.heap.size,d,none⟩ (.bool true)).heap.size:=by simpa [World.setCell]using F
     generalize a1:wa.setCell _ _=w3 at H U d0⊢;clear a1 k1 k2 x0 x9;obtain⟨cd,M⟩:∃b,((fK (n+1) (l.map (·.1)) i).set d true)[i+1]? =some b:=⟨_,qqh (by rw[qjg,kM];omega)⟩;obtain⟨k1,k2⟩:=H.o.cell M;go_wp2_with fail;go_roundg K;case measure=>omega
     case rel=>exact⟨i+1,by omega,by omega,by simp,hqh (by rw[r.o];exact H.o.set (i+1) true),hqh (U.o.setCell (p:=⟨w.heap.size,i+1,none⟩) (qqf _) _),by simpa [World.setCell]using d0⟩)
   by_cases c2:op=12\/op=10;·have r:=hqh (show fK (n+1) (l.map (·.1)) (i+1)=(fK (n+1) (l.map (·.1)) i).set (i+1) true by rw[J.o,qzc c1,qzb c2]);obtain⟨cd,M⟩:∃b,(fK (n+1) (l.map (·.1)) i)[i+1]? =some b:=⟨_,qqh (by rw[kM];omega)⟩;obtain⟨k1,k2⟩:=h.o.cell M;clear c1;rcases c2 with rfl|rfl<;>
    (go_wp2_with fail;go_roundg K;case measure=>omega
     case rel=>exact⟨i+1,by omega,by omega,by simp,hqh (by rw[r.o];exact h.o.set (i+1) true),hqh (z.o.setCell (p:=⟨w.heap.size,i+1,none⟩) (qqf _) _),by simpa [World.setCell]using F⟩)
   have r:=hqh (show fK (n+1) (l.map (·.1)) (i+1)=fK (n+1) (l.map (·.1)) i by rw[J.o,qzc c1,qzc c2]);have q1:((op:Int)==13)=false:=qqe.2 oqo;have q2:((op:Int)==14)=false:=qqe.2 oqo;have q3:((op:Int)==12)=false:=qqe.2 oqo;have q4:((op:Int)==10)=false:=qqe.2 oqo;have p1:¬(op:Int)=13:=oqo;have p2:¬(op:Int)=14:=oqo;have p3:¬(op:Int)=12:=oqo;have p4:¬(op:Int)=10:=oqo;clear c1 c2;go_wp2_with fail;go_roundg K;case measure=>omega
   case rel=>exact⟨i+1,by omega,by omega,by simp,hqh (by rw[r.o];exact h.o),z,F⟩
def EL(lv:Value)(l:List InV)(i:Nat)(x:InV)(w:World)(hl:dS w lv l)(hi:l[i]? =some x)(ht:0<=x.1.to)(hn:l.length<=1000000):Calls Tryz.prog 130 #[lv,.int .i64 (i:Int)] w λe w'=>(∃sl,e=.returned sl/\aD w' sl ((bN x.1 i).map λk:Nat=>(k:Int))/\(bN x.1 i=[]->sl=.slice none 0 0))/\Below w.heap.size w w':=by
 obtain⟨A,c,rfl,hc,hr⟩:=hl;have D:=(qqi.1 hi).1;obtain⟨b,o,rfl,z⟩:∃b o,A=some ⟨b,o,none⟩/\gF w b (o+i*10) x:=by
  rcases hr with rfl|⟨b,o,e,k⟩;·simp at hi
  ·exact⟨b,o,e,k i x hi⟩
 have k0:=z.c0;have k9:=z.c9;have lb:=aB k0;obtain⟨n,C⟩:∃n,n=l.length:=⟨_,rfl⟩;rw[<-C]at D hn hc⊢;obtain⟨⟨op,v,a,F,H,bin,args,f,arr,t⟩,av⟩:=x;simp only at k0 k9 ht⊢;have G:(i:Int)<(n:Int):=oqo;clear hr hi z C;obtain⟨h,rfl⟩:∃h:Nat,t=(h:Int):=⟨t.toNat,by omega⟩;have fin:∀(W:World)(T:TypeId)(d:List Int)(cs:Array Value),cs=(d.map λk=>Value.int .i64 k).toArray->aD (W.alloc (.cells cs T)) (.slice (some ⟨W.heap.size,0,none⟩) d.length d.length) d:=λW T d cs e=>⟨_,_,rfl,qqf _,Or.inr ⟨_,_,rfl,λj y E=>by have B:=Blk.new W T cs;show(W.alloc (.cells cs T)).cell? ⟨W.heap.size,0+j*1,none⟩=_;rw[B.cell,e];simp[E]⟩⟩;by_cases s:op=13;·subst s;go_enter Tryz.func130,Tryz.ntmps130;go_wp2_with fail;go_ret;exact⟨⟨_,rfl,by simpa [bN]using fin w _ [(h:Int)] _ rfl,λc=>by simp[bN]at c⟩,(qjk _ _).alloc (qqf _) _⟩
 by_cases u:op=14;·subst u;go_enter Tryz.func130,Tryz.ntmps130;go_wp2_with fail;go_ret;exact⟨⟨_,rfl,by simpa [bN]using fin w _ [(h:Int),(i:Int)+1] _ rfl,λc=>by simp[bN]at c⟩,(qjk _ _).alloc (qqf _) _⟩
 by_cases r:op=12;·subst r;go_enter Tryz.func130,Tryz.ntmps130;go_wp2_with fail;go_ret;exact⟨⟨_,rfl,⟨_,_,rfl,qqf _,Or.inl rfl⟩,λ_=>rfl⟩,qjk _ _⟩
 by_cases p:op=10;·subst p;go_enter Tryz.func130,Tryz.ntmps130;go_wp2_with fail;go_ret;exact⟨⟨_,rfl,⟨_,_,rfl,qqf _,Or.inl rfl⟩,λ_=>rfl⟩,qjk _ _⟩
 have M:((op:Int)==13)=false:=qqe.2 oqo;have N:((op:Int)==14)=false:=qqe.2 oqo;have O:((op:Int)==12)=false:=qqe.2 oqo;have P:((op:Int)==10)=false:=qqe.2 oqo;have I:¬(op:Int)=13:=oqo;have J:¬(op:Int)=14:=oqo;have K:¬(op:Int)=12:=oqo;have L:¬(op:Int)=10:=oqo;go_enter Tryz.func130,Tryz.ntmps130;go_wp2_with fail;go_ret;exact⟨⟨_,rfl,by simpa [bN,s,u,r,p]using fin w _ [(i:Int)+1] _ rfl,λc=>by simp[bN,s,u,r,p]at c⟩,(qjk _ _).alloc (qqf _) _⟩
def pM(a:List Nat):List Value:=(a.map λk:Nat=>(k:Int)).flatMap bQ
def BL(a b:List Nat):pM (a++b)=pM a++pM b:=by unfold pM;rw[jzy,jza]
def xH(a:List Nat):(pM a).length=a.length:=by
 have e:∀l:List Int,(l.flatMap bQ).length=l.length:=λl=>by induction l with|nil=>rfl|cons a l ih=>rw[jqe,qzl,ih,qzv];show 1+_=_;omega
 unfold pM;rw[e,qqv]
def J4(a:List Nat):pM a=a.map λk:Nat=>Value.int .i64 (k:Int):=by unfold pM;induction a with|nil=>rfl|cons a l ih=>rw[jqx,jqe,ih];rfl
def JV:(Tryz.prog.info? 3).map (λi=>(i.zero,i.size,i.bytes))=some (some (.int .i64 0),1,8):=kqk
def Gy(x:In)(i:Nat):(bN x i).length<=2:=by
 unfold bN;split;·simp
 ·split;·simp
  ·split<;>simp
def Ir(lv:Value)(l:List InV)(w:World)(hl:dS w lv l)(hn:l.length<=8000)(s1:∀x∈l,0<=x.1.to):Calls Tryz.prog 90 #[lv] w λe w'=>(∃v,e=.returned v/\dh w' w.heap.size v (nk (l.map (·.1))))/\Below w.heap.size w w':=by
 have HL:=hqh hl;obtain⟨A,c,j2,_,_⟩:=hl;subst j2;obtain⟨n,l0⟩:∃n,n=l.length:=⟨_,rfl⟩;rw[<-l0]at hn HL⊢;have E:=hqh l0;have HT:=hqh s1;clear l0 s1;obtain⟨i0,d2,p2,q2,r2⟩:=jxo Pv;obtain⟨j0,j1,s2,t2,v2⟩:=jxo JV;go_enter Tryz.func90,Tryz.ntmps90;go_wp2_with(at_make;refine wpList_make_full _ rfl _ _ 129 rfl w.heap.size 4 i0 (.bool false) 1 Tryz.underlying129 d2 p2 q2 .i64 .i64 n n n rfl rfl rfl rfl (by rw[r2];omega) (by unfold maxLen;omega) (qqf _) ?_);intro w1 t1 x0;have m0:=hqh (show dh w1 w.heap.size (.slice (some ⟨w.heap.size,0,none⟩) n n) (List.replicate n false)by unfold dh;rw[List.length_replicate,<-zU];simpa using t1);have Y:=hqh ((qjk w.heap.size w).grown x0 (qqf _) (λk e=>by cases e));have p1:w.heap.size<=w1.heap.size:=Y.o.size;clear t1 x0;go_wp2_with fail;have o0:=hqh (show dh (w1.alloc (.cells #[.int .i64 0] 3)) w.heap.size _ _ from own_below m0.o ((qjk _ _).alloc (qqf _) _));have r0:=hqh (show(w1.alloc (.cells #[.int .i64 0] 3)).ownsRow w.heap.size 3 1 (.slice (some ⟨w1.heap.size,0,none⟩) 1 1) 1 (pM [0])from Jw w1 3 #[.int .i64 0] 1 1 w.heap.size rfl p1 (by unfold maxLen;omega));have s0:=hqh (Y.o.alloc p1 (.cells #[.int .i64 0] 3));generalize m2:w1.alloc _=w2 at o0 r0 s0⊢;clear m2 m0 Y;have y1:=hqh (show iG (l.map (·.1)) (List.replicate n false) (·∈[0])by have:=IK (l.map (·.1));rw[qqv,<-E.o]at this;exact this.weak λi=>by simp);have m1:3*mX (List.replicate n false)+1<=3*n+1:=by
  have:mX (List.replicate n false)<=n:=by unfold mX;exact qzi (jxi _ _) (by simp)
  omega
 go_loopg [4](3*n+1)(λgk v4 wr=>∃(d:List Nat)(out:List Bool),3*mX out+d.length<=gk/\3*mX out+d.length<=3*n+1/\Hid (wr.ownsRow w.heap.size 3 1 v4 d.length (pM d))/\Hid (dh wr w.heap.size (.slice (some ⟨w.heap.size,0,none⟩) n n) out)/\Hid (iG (l.map (·.1)) out (·∈d))/\Hid (Below w.heap.size w wr));case atStart=>exact⟨[0],_,m1,m1,r0,o0,y1,s0⟩
 case round=>
  obtain⟨d,out,y0,a1,s,t,HR,H⟩:=hrel;rcases List.eq_nil_or_concat d with rfl|⟨d,i,rfl⟩;·obtain⟨x2,cv,hv⟩:=dM s.o;subst hv;simp only[jqz];go_wp2_with fail;go_ret;have e:=(HR.o.weak (T':=λ_=>False) (λi=>by simp)).eq;refine⟨⟨_,rfl,?_⟩,H.o⟩;have:=t.o;rw[e]at this;exact this
  ·rw[List.concat_eq_append]at y0 a1 s HR;obtain⟨m,hm⟩:∃m,m=d.length:=⟨_,rfl⟩;have l1:(d++[i]).length=m+1:=by rw[qzl,hm];rfl
   rw[l1]at y0 a1 s;obtain⟨g,cap,hv,_,_⟩:=s.o.form oqo;subst hv;have d3:m+1<=cap:=by
    rcases s.o.2 with⟨hv,_⟩|⟨g',y2,z2,hv,_,_,b3,_⟩;·cases hv
    ·injection hv with _ _ e;omega
   have g3:(m:Int)<=(cap:Int):=oqo;have n3:IntKind.i64.wrap (m:Int)=m:=jqv _ oqo;have j3:(0:Int)<(m:Int)+1:=oqo;have ct:wr.cell? ⟨g,m,none⟩=some (.int .i64 (i:Int)):=by rw[s.o.cellAt m oqo,BL,qze (by rw[xH];omega),xH,hm,jzg];rfl
   have G:=hqh (JM (by have:=s.o;rw[BL]at this;exact this) (show(pM d).length=m*1 by rw[xH,hm];omega));have N:=hqh (HR.o.weak (T':=λj=>j∈d\/j=i) (λj=>by simp));have B:=hqh hm;have l3:3*mX out+(d.length+1)<=gk:=oqo;have m3:3*mX out+(d.length+1)<=3*n+1:=oqo;clear hm l1 s HR;obtain⟨ko,rfl⟩:∃k,gk=k+1:=⟨gk-1,by omega⟩;by_cases g1:i<n
   ·have g2:(i:Int)<(n:Int):=by omega
    obtain⟨b,hb⟩:∃b,out[i]? =some b:=⟨_,qqh (by rw[N.o.len,qqv,<-E.o];exact g1)⟩;obtain⟨cb,fb⟩:=t.o.cell hb;have p0:=hqh hb;clear hb;cases b;·-- it is found
     obtain⟨y,Q⟩:∃y,l[i]? =some y:=⟨_,qqh (by rw[<-E.o];exact g1)⟩;have o2:=HT.o y (qqr Q);have q0:=hqh (N.o.mark (show(l.map (·.1))[i]? =some y.1 by rw[qqp,Q];rfl));have U:=hqh (Gf out i p0.o);have HY:=hqh Q;clear Q;go_upto_region 8 with fail;have T:=hqh (t.o.set i true);have d1:g≠w.heap.size:=λe=>by obtain⟨c1,f⟩:=aQ G.o (b:=g) rfl;obtain⟨c2,Z⟩:=aQ t.o (b:=w.heap.size) rfl;rw[e,Z]at f;injection f with f;injection f with _ e3;cases e3
     have V:=hqh (di G.o (KO.set (O:=λk=>k=w.heap.size) (a:=⟨w.heap.size,i,none⟩) rfl (.bool true)) (λk hk c=>d1 (by
      have e:g=k:=by simpa [Value.ownBlock]using hk
      rw[e];exact c)));have I:=hqh (H.o.setCell (p:=⟨w.heap.size,i,none⟩) (qqf _) (.bool true));generalize n2:wr.setCell _ _=w3 at T V I⊢;clear n2 cb fb ct d1 G t H;have s3:=I.o.size;have NX:=EL (.slice A n c) l i y w3 (HL.o.below I.o) HY.o o2 (by have:=E.o;omega)
     cases P:bN y.1 i with|nil=>
      have F:=hqh P;go_wp2_with(first| (go_at_call 130;refine NX.mono ?_;rintro e R⟨⟨sl,rfl,_,n1⟩,r⟩;have L:=n1 F.o;subst L;have C:=hqh (own_below V.o r);have D:=hqh (show dh R w.heap.size _ _ from own_below T.o r);have J:=hqh (I.o.trans (r.mono s3));clear r n1)|(at_builtin;refine wpList_append_own_none rfl _ _ 22 rfl w.heap.size 3 j0 1 Tryz.underlying22 j1 _ _ _ rfl C.o rfl ?_)|fail);go_roundg ko;case measure=>omega
      case rel=>refine⟨d,out.set i true,by have:=U.o;omega,by have:=U.o;omega,hqh (by rw[<-B.o];exact C.o),D,hqh (q0.o.weak λj=>by rw[F.o];simp),J⟩|cons k1 z=>
      have F:=hqh P;have i3:z.length+1<=2:=by have:=Gy y.1 i;rw[P]at this;exact this
      clear P;obtain⟨mk,e0⟩:∃q,q=z.length+1:=⟨_,rfl⟩;have M:=hqh e0;go_wp2_with(first
       | (go_at_call 130;refine NX.mono ?_;rintro e R⟨⟨sl,rfl,i1,_⟩,r⟩;rw[F.o]at i1;obtain⟨SA,sc,L,_,r1⟩:=i1;simp only[jqx,qzv,qqv]at L;rw[<-e0]at L;obtain⟨sb,so,l2,q1⟩:∃b o,SA=some ⟨b,o,none⟩/\∀q x,((k1::z).map λk:Nat=>(k:Int))[q]? =some x->kz R b (o+q*1) x:=by
            rcases r1 with e|h;·cases e
            ·exact h
          subst l2;subst L;have z1:=hqh q1;have C:=hqh (own_below V.o r);have D:=hqh (show dh R w.heap.size _ _ from own_below T.o r);have J:=hqh (I.o.trans (r.mono s3));clear r r1 q1 e0)|(at_builtin;refine jxx _ rfl _ _ 22 rfl w.heap.size 3 j0 (.int .i64 0) 1 8 Tryz.underlying22 j1 s2 t2 v2 rfl (by decide) _ _ _ rfl C.o ⟨sb,so,none⟩ mk sc (pM (k1::z)) rfl (by rw[xH,M.o];simp) (λq u K=>?_) (λu hu=>?_) (by unfold maxLen;have:=M.o;omega) (by have:=M.o;omega) J.o.size ?_)|fail);·rw[J4,qqp]at K;cases hk:(k1::z)[q]? with|none=>rw[hk]at K;simp at K|some k=>rw[hk]at K;have:=z1.o q (k:Int) (by rw[qqp,hk];rfl);unfold kz at this;rw[jzc]at this;rw[Addr.add_mid,this];simpa using K
      ·rw[J4]at hu;obtain⟨k,_,rfl⟩:=qjb.1 hu;rfl
      intro v6 w6 o1 d0 _;have x1:=hqh o1;have v1:=hqh (show dh w6 w.heap.size _ _ from bW D.o λk hk=>d0.block k (D.o.lt k hk).2 (λe=>by
       have Z:g=k:=by simpa [Value.ownBlock]using e.symm
       obtain⟨c1,f⟩:=aQ C.o (b:=g) rfl;obtain⟨c2,e3⟩:=aQ D.o hk;rw[Z,e3]at f;injection f with f;injection f with _ e4;cases e4));have a2:=hqh (J.o.grown d0 J.o.size (λq e=>(C.o.lt q e).1));clear o1 d0;go_wp2_with fail;go_roundg ko;case measure=>omega
      case rel=>
       have h1:=U.o;have h2:=M.o;have hl:(d++k1::z).length=m+mk:=by rw[qzl,qzv,B.o,h2]
       refine⟨d++k1::z,out.set i true,by rw[hl];have:=B.o;omega,by rw[hl];have:=B.o;omega,hqh (by rw[hl,BL];exact x1.o),v1,hqh (q0.o.weak λj=>by rw[F.o,qzu]),a2⟩
    ·-- it was found
     have X:=hqh (N.o.skip (Or.inr p0.o));go_wp2_with fail;go_roundg ko;case measure=>omega
     case rel=>exact⟨d,out,by omega,by omega,hqh (by rw[<-B.o];exact G.o),t,X,H⟩
   ·have g2:¬(i:Int)<(n:Int):=by omega
    have X:=hqh (N.o.skip (Or.inl (by rw[qqv,<-E.o];omega)));go_wp2_with fail;go_roundg ko;case measure=>omega
    case rel=>exact⟨d,out,by omega,by omega,hqh (by rw[<-B.o];exact G.o),t,X,H⟩
def aV(f:Nat->Nat):Array Value:=#[.int .u64 ((f 0:Nat):Int),.int .u64 ((f 1:Nat):Int),.int .u64 ((f 2:Nat):Int),.int .u64 ((f 3:Nat):Int)]
def gX(f:Nat->Nat){q:Nat}(a:q<4):(aV f)[q]? =some (.int .u64 ((f q:Nat):Int)):=by
 rcases q with _|_|_|_|q;·rfl
 ·rfl
 ·rfl
 ·rfl
 ·omega
def yV(f:Nat->Nat){q:Nat}(a:q<4)(v:Nat):(aV f).setIfInBounds q (.int .u64 (v:Int))=aV λj=>if j=q then v else f j:=by
 rcases q with _|_|_|_|q;·rfl
 ·rfl
 ·rfl
 ·rfl
 ·omega
def Sv(a b:Nat->Nat)(w:World)(ha:∀q,q<4->a q<2^64)(z:∀q,q<4->b q<2^64):Calls Tryz.prog 132 #[.agg (aV a),.agg (aV b)] w λe w'=>e=.returned (.agg (aV λq=>a q|||b q))/\Below w.heap.size w w':=by
 have C:=hqh ha;have D:=hqh z;clear ha z;unfold aV;go_enter Tryz.func132,Tryz.ntmps132;go_wp2_with fail;have d:=hqh (show Blk (((w.alloc (.cells (aV a) 136)).alloc (.cells (aV b) 136)).alloc (.cells (aV λ_=>0) 136)) w.heap.size 136 (aV λq=>if q<0 then a q|||b q else a q)from((Blk.new _ _ _).alloc _).alloc _);have n:=hqh (show Blk (((w.alloc (.cells (aV a) 136)).alloc (.cells (aV b) 136)).alloc (.cells (aV λ_=>0) 136)) (w.heap.size+1) 136 (aV b)from by have h:=(Blk.new (w.alloc (.cells (aV a) 136)) 136 (aV b)).alloc (.cells (aV λ_=>0) 136);rwa[jqh]at h);have o:=hqh (show Blk (((w.alloc (.cells (aV a) 136)).alloc (.cells (aV b) 136)).alloc (.cells (aV λ_=>0) 136)) (w.heap.size+1+1) 136 (aV λ_=>0)from by have h:=Blk.new ((w.alloc (.cells (aV a) 136)).alloc (.cells (aV b) 136)) 136 (aV λ_=>0);rwa[jqh,jqh]at h);have f:=hqh (show Below w.heap.size w (((w.alloc (.cells (aV a) 136)).alloc (.cells (aV b) 136)).alloc (.cells (aV λ_=>0) 136))from((((qjk _ _).alloc (qqf _) _).alloc (by simp) _).alloc (by simp;omega) _));unfold aV at d n o f;generalize N:World.alloc (World.alloc (World.alloc w _) _) _=w1 at d n o f⊢;clear N;change Hid (Blk w1 w.heap.size 136 (aV λq=>if q<0 then a q|||b q else a q))at d;change Hid (Blk w1 (w.heap.size+1) 136 (aV b))at n;change Hid (Blk w1 (w.heap.size+1+1) 136 (aV λ_=>0))at o;go_loopw [6](λu wr=>∃k:Nat,u=.int .i64 (k:Int)/\k<=4/\Hid (Below w.heap.size w wr)/\Hid (Blk wr w.heap.size 136 (aV λq=>if q<k then a q|||b q else a q))/\Hid (Blk wr (w.heap.size+1) 136 (aV b))/\Hid (Blk wr (w.heap.size+1+1) 136 (aV λ_=>0)))(λu _=>match u with| .int _ x=>(4-x).toNat|_=>0);case atStart=>exact⟨0,rfl,by omega,f,d,n,o⟩
 case round=>
  clear d n o f;obtain⟨k,rfl,hk,f,d,n,o⟩:=hrel;by_cases R:(k:Int)<4
  ·have T:IntKind.i64.wrap ((k:Int)+1)=(k:Int)+1:=jqv _ oqo;have t:k<4:=oqo;have f0:=d.o.free k;have O:=C.o k t;have lb:=D.o k t;go_upto_region 4 with fail;refine wp_region_draw [true,true,true,true,true,true,true,true,false] (λW=>Below wr.heap.size wr W) 1 eF (λ_ a G _ hd h=>by cases a;cases G;cases hd;exact h) kqk (λ_ _ h=>h) ?_;have v:=hqh (show wr.cell? ⟨w.heap.size,k,none⟩=some (.int .u64 (a k:Int))by rw[d.o.cell,gX _ t,qzc oqo]);have A:=hqh (show wr.cell? ⟨w.heap.size+1,k,none⟩=some (.int .u64 (b k:Int))by rw[n.o.cell,gX _ t]);iterate 8 refine aR (λK r=>?_);rw[qzb kqk];refine⟨_,λZ y=>(by have k0:=aa y v.o;have k1:=aa y A.o;go_simp;try rfl),?_⟩;simp only[qqa];refine r _ ?_;clear r
   refine bg (bJ ?_);intro vs F I J s;refine ai 8 rfl kqk (λQ r=>?_);have k0:=aa s v.o;have H:F.frozen? ⟨w.heap.size,k,none⟩=false:=by unfold World.frozen? at f0⊢;rw[J];exact f0
   go_simp;refine r.o _ _ (Or.inr ((I.o 8).trans kqk)) ?_;clear r;refine au kqk ?_;clear k0 H f0;go_wp2_with fail;have L:=bits_or_u64_nat (a k) (b k) O lb;rw[L];have hs:=f.o.size;refine⟨⟨k+1,by push_cast;rfl,by omega,hqh ((f.o.trans (s.mono hs)).setCell (p:=⟨w.heap.size,k,none⟩) (qqf _) _),hqh ?_,hqh (((n.o.below s)).far oqo _ _),hqh (((o.o.below s)).far oqo _ _)⟩,by show(4-((k:Int)+1)).toNat<(4-(k:Int)).toNat;omega⟩;have h:=(d.o.below s).put k (.int .u64 ((a k|||b k:Nat):Int));rw[yV _ t]at h;have e:(λj=>if j=k then a k|||b k else if j<k then a j|||b j else a j)=λq=>if q<k+1 then a q|||b q else a q:=funext λj=>by
    by_cases h1:j=k;·subst h1;rw[qzb rfl,qzb oqo]
    ·rw[qzc h1];by_cases h2:j<k;·rw[qzb h2,qzb oqo]
     ·rw[qzc h2,qzc oqo]
   rw[e]at h;exact h
  ·have M:k=4:=by omega
   subst M;go_upto_region 6 with fail;apply jqn;refine aU rfl 136 (.tmp 2) rfl w.heap.size rfl 136 _ _ d.o Tryz.underlying136 rfl kqk ?_;simp only[qqa];refine aF rfl 136 (.tmp 4) (.tmp 18) rfl (w.heap.size+1+1) _ rfl rfl 136 _ o.o rfl kqk rfl ?_;intro P h2 k2;have B:=hqh h2;have E:=hqh (show Below w.heap.size w P from f.o.trans (k2.aO f.o.size λk e=>by omega));clear h2 k2;go_wp2_with fail;refine jxp (jjf rfl _ _ (w.heap.size+1+1) 136 _ (0,0) _ rfl B.o Tryz.underlying136 rfl kqk) rfl ?_;exact⟨rfl,E.o⟩
attribute [local go_sem]Oper.semAt_some
def SF(lv:Value)(a:Option Addr)(n c:Nat)(hl:lv=.slice a n c)(w:World):Calls Tryz.prog 131 #[lv] w λe w'=>e=.returned (.func (.func 157) #[] #[.pointer (some ⟨w.heap.size,0,none⟩)])/\w'=w.alloc (.cells #[lv] 65):=by subst hl;go_enter Tryz.func131,Tryz.ntmps131;go_wp2_with fail;go_ret;exact⟨rfl,rfl⟩
def ym{F:Fence}{n:Nat}{P:Program}{ops:Array Oper}{rest:List Oper}{op:Oper}{a:Act}{w:World}{Q:Exit->Act->World->Prop}(hF:∀f,F.fn f)(p:op.guard=none)(j:TypeId)(x:Operand)(ho:op.op=.load j x)(b o:Nat)(r:a.eval x=.pointer (some ⟨b,o,none⟩))(cs:List Value)(d:TypeDesc)(hc:w.rangeAt b o cs)(hu:P.underlying j=some d)(hd:d.isRow=true)(hi:(P.info? j).map (·.size)=some cs.length)(h:wpListIn F n P ops Q rest (a.put op.dst (.agg cs.toArray)) w):wpListIn F n P ops Q (op::rest) a w:=wpListIn_plain p λK k=>by refine⟨λf _=>hF f,?_⟩;rw[Oper.semAt_eq _ _ _ (λc e=>by rw[ho]at e;cases e)];unfold execOp;simp only[ho,r,Instr.loadAt,Instr.sureAddr,qjm,jzk,qjl,run_loadVar_mid w b o j cs d hc hu hd hi];exact k _ _ h
def Wt(n l B:Nat)(hn:1<=n)(J:Nat->World->Prop)(g o cap:Nat)(m:Nat)(hm:m<=100000)(row:Nat->Array Value)(hJ:∀k W,J k W->Blk W B 65 #[.slice (some ⟨g,o,none⟩) m cap]/\∀i,i<m->W.rangeAt g (o+i*10) (row i).toList)(p:∀i,(row i).size=10)(hY:∀k W,k<m->J (k+1) W->YieldAt Fence.wide (n-1) Tryz.prog l #[.int .i64 (k:Int),.agg (row k)] W λe W'=>e=.returned (.bool true)/\J k W')(W:World)(h0:J m W):CallsIn Fence.wide n Tryz.prog 157 #[.func (.yield l) #[] #[],.pointer (some ⟨B,0,none⟩)] W λe W'=>(∃v,e=.returned v)/\J 0 W':=by
 refine callsIn_of_wp Tryz.func157 rfl trivial ?_ rfl;simp only[Tryz.ntmps157,jxn,qzv,jqz,Nat.reduceAdd,Nat.reduceSub,Array.replicate_succ,Array.replicate_zero,List.push_toArray,List.append_toArray,jzj,jqm];have c2:=(hJ _ _ h0).1.cell 0;simp only[jxc,List.getElem?_cons_zero]at c2;have b:((m:Int)-1+1)=(m:Int):=oqo;have s:IntKind.i64.wrap ((m:Int)-1)=(m:Int)-1:=jqv _ oqo;gi_wp2;clear c2 b s;gi_loopw [3](λv3 wr=>∃k:Nat,v3=.int .i64 ((k:Int)-1)/\k<=m/\Hid (J k wr))(λv3 _=>match v3 with| .int _ x=>(x+1).toNat|_=>0);case atStart=>exact⟨m,rfl,qqf _,hqh h0⟩
 case round=>obtain⟨k,rfl,hk,a⟩:=hrel;cases k with|zero=>gi_wp2;go_end0;exact⟨⟨_,rfl⟩,a.o⟩|succ k=>have b:(((k+1:Nat):Int)-1)=(k:Int):=oqo;rw[b];have u:¬(k:Int)<0:=oqo;have y:(0:Int)<=(k:Int):=oqo;have z:(k:Int)<(m:Int):=oqo;have A:IntKind.i64.wrap ((k:Int)-1)=(k:Int)-1:=jqv _ oqo;have c2:=(hJ _ _ a.o).1.cell 0;simp only[jxc,List.getElem?_cons_zero]at c2;obtain⟨fn,tmps,assign,body,r,j⟩:=hY k wr oqo a.o;have HR:=hqh j;have h:=hqh r;have d:=hqh ((hJ _ _ a.o).2 k oqo);gi_wp2_with(refine ym (λ_=>trivial) rfl 71 (.tmp 15) rfl g (o+k*10) rfl _ _ d.o Tryz.underlying71 rfl (by rw[jql,p];kernel_rfl) ?_;simp only[qqa,jzp]);refine HR.o.mono ?_;rintro e t⟨rfl,hj⟩;have f:=hqh hj;clear HR h d c2 hj;gi_wp2;exact⟨⟨k,rfl,by omega,f⟩,by show((k:Int)-1+1).toNat<((k:Int)+1).toNat;omega⟩
def fI(f:Nat->Nat)(x:Nat):Bool:=decide (x<256)&&(f (x/64)).testBit (x%64)
def okL(f:Nat->Nat):Prop:=∀q,q<4->f q<2^64
def oK:Nat->Nat:=λ_=>0
def orL(a b:Nat->Nat):Nat->Nat:=λq=>a q|||b q
def qg(f:Nat->Nat)(x:Nat):Nat->Nat:=λq=>if q=x/64 then f q|||2^(x%64)else f q
def zJ(f:Nat->Nat)(x:Nat):Nat->Nat:=λq=>if q=x/64 then xh (f q) (x%64)else f q
def Jg:okL oK:=λ_ _=>by show 0<_;decide
def Zc{a b:Nat->Nat}(ha:okL a)(e:okL b):okL (orL a b):=λq d=>Nat.or_lt_two_pow (ha q d) (e q d)
def Xv{f:Nat->Nat}(h:okL f)(x:Nat):okL (qg f x):=λq a=>by
 unfold qg;split;·exact Nat.or_lt_two_pow (h q a) (Nat.pow_lt_pow_right (by decide) (Nat.mod_lt _ (by decide)))
 ·exact h q a
def XY{f:Nat->Nat}(h:okL f)(x:Nat):okL (zJ f x):=λq a=>by
 unfold zJ;split;·unfold xh;exact BitVec.isLt _
 ·exact h q a
def yJ(x:Nat):fI oK x=false:=by unfold fI oK;simp
def VT(a b:Nat->Nat)(x:Nat):fI (orL a b) x=(fI a x||fI b x):=by unfold fI orL;rw[Nat.testBit_or];cases decide (x<256)<;>simp
def Ul(f:Nat->Nat){x:Nat}(b:x<256)(y:Nat):fI (qg f x) y=(fI f y||decide (y=x)):=by
 unfold fI qg;by_cases a:y<256
 ·simp only[a,decide_true,jxj];by_cases e:y/64=x/64;·rw[qzb e,Nat.testBit_or,Nat.testBit_two_pow];congr 1;rw[qjc];omega
  ·rw[qzc e];have:decide (y=x)=false:=qqt (by rintro rfl;exact e rfl);rw[this,Bool.or_false]
 ·have:decide (y=x)=false:=qqt oqo;simp[a,this]
def Qc(L r j:Nat)(hj:j<64)(a:L<2^64):(xh L r).testBit j=(L.testBit j&&!decide (j=r)):=by unfold xh;rw[BitVec.testBit_toNat];simp only[BitVec.getLsbD_and,BitVec.getLsbD_not,BitVec.getLsbD_ofNat,hj,decide_true,jxj,Nat.testBit_two_pow];congr 2;rw[qjc];exact eq_comm
def RP(f:Nat->Nat)(h:okL f){x:Nat}(b:x<256)(y:Nat):fI (zJ f x) y=(fI f y&&!decide (y=x)):=by
 unfold fI zJ;by_cases a:y<256
 ·simp only[a,decide_true,jxj];by_cases e:y/64=x/64;·rw[qzb e,Qc _ _ _ (Nat.mod_lt _ (by decide)) (h _ oqo)];congr 2;rw[qjc];omega
  ·rw[qzc e];have:decide (y=x)=false:=qqt (by rintro rfl;exact e rfl);rw[this];simp
 ·simp[a]
def Od{f:Nat->Nat}{x:Nat}(h:fI f x=true):x<256:=by unfold fI at h;simp only[qqn,qqu]at h;exact h.1
def QK{f g:Nat->Nat}(hf:okL f)(b:okL g)(h:∀x,fI f x=fI g x)(q:Nat)(a:q<4):f q=g q:=by
 apply jzl;intro j;by_cases hj:j<64;·have:=h (64*q+j);unfold fI at this;have h1:64*q+j<256:=oqo;rw[show(64*q+j)/64=q by omega,show(64*q+j)%64=j by omega]at this;simpa [h1]using this
 ·rw[Nat.testBit_lt_two_pow (qzj (hf q a) (Nat.pow_le_pow_right (by decide) oqo)),Nat.testBit_lt_two_pow (qzj (b q a) (Nat.pow_le_pow_right (by decide) oqo))]
def SB(S:Nat->Nat->Nat):Nat->Nat->Bool:=λi x=>fI (S i) x
def oF(S:Nat->Nat->Nat)(a:List Nat):Nat->Nat:=a.foldl (λs k=>orL s (S k)) oK
def oq(s:Nat->Nat)(x:In):Nat->Nat:=match bD x with|some v=>zJ s v.toNat|none=>s
def sM(s:Nat->Nat)(us:List Int):Nat->Nat:=us.foldl (λs u=>qg s u.toNat) s
def iN(S:Nat->Nat->Nat)(x:In)(i:Nat):Nat->Nat:=sM (oq (oF S (bN x i)) x) (dX x)
structure kS(x:In):Prop where
 use:∀u∈dX x,0<=u/\u<256
 put:∀v,bD x=some v->0<=v/\v<256
def BF(S:Nat->Nat->Nat):∀(a:List Nat)(s:Nat->Nat)(x:Nat),fI (a.foldl (λs k=>orL s (S k)) s) x=(fI s x||a.any λk=>fI (S k) x)|[],s,x=>by simp|k::a,s,x=>by rw[List.foldl_cons,BF S a,VT,List.any_cons,Bool.or_assoc]
def zQ(S:Nat->Nat->Nat)(hS:∀i,okL (S i)):∀(a:List Nat)(s:Nat->Nat),okL s->okL (a.foldl (λs k=>orL s (S k)) s)|[],_,h=>h|k::a,_,h=>zQ S hS a _ (Zc h (hS k))
def ET:∀(us:List Int)(s:Nat->Nat)(x:Nat),(∀u∈us,0<=u/\u<256)->fI (us.foldl (λs u=>qg s u.toNat) s) x=(fI s x||us.any λu=>u==(x:Int))|[],s,x,_=>by simp|u::us,s,x,h=>by have hu:=h u (by simp);rw[List.foldl_cons,ET us _ x (λv hv=>h v (by simp[hv])),Ul _ oqo,List.any_cons,Bool.or_assoc];congr 2;rw[qzd,qqu,jzb];omega
def sU:∀(us:List Int)(s:Nat->Nat),okL s->okL (us.foldl (λs u=>qg s u.toNat) s)|[],_,h=>h|u::us,_,h=>sU us _ (Xv h _)
section
variable {l:List In}{S:Nat->Nat->Nat}{x:In}{i:Nat}
def xJ(hS:∀i,okL (S i))(a:List Nat):okL (oF S a):=zQ S hS _ _ Jg
def JB{s:Nat->Nat}(h:okL s)(x:In):okL (oq s x):=by
 unfold oq;split;·exact XY h _
 ·exact h
def look_ok(hS:∀i,okL (S i))(x:In)(i:Nat):okL (iN S x i):=sU _ _ (JB (xJ hS _) x)
def zL(hS:∀i,okL (S i))(b:l[i]? =some x)(hv:kS x)(y:Nat):fI (iN S x i) y=jU l (SB S) i y:=by
 unfold iN sM;rw[ET _ _ _ hv.use];unfold jU;rw[b];simp only;rw[Bool.or_comm];congr 1;unfold oq
 cases a:bD x with|none=>
  simp only;unfold oF;rw[BF,yJ,Bool.false_or];have:((none:Option Int)!=some (y:Int))=true:=by simp
  rw[this,jxj];rfl|some v=>
  have d:=hv.put v a;simp only;rw[RP _ (xJ hS _) oqo,Bool.and_comm];unfold oF;rw[BF,yJ,Bool.false_or];have:(!decide (y=v.toNat))=(some v !=some (y:Int)):=by rw[qzd];simp only[qjj,jxq,jxw,ne_eq,qzk];omega
  rw[this];rfl
def jM(S:Nat->Nat->Nat)(i:Nat)(s:Nat->Nat):Nat->Nat->Nat:=λk=>if k=i then s else S k
def XU(hS:∀i,okL (S i)){s:Nat->Nat}(h:okL s)(k:Nat):okL (jM S i s k):=by
 unfold jM;split;·exact h
 ·exact hS k
def wW(h:kY l (SB S))(hS:∀i,okL (S i))(b:l[i]? =some x)(hv:kS x)(k y:Nat)(a:SB S k y=true):SB (jM S i (iN S x i)) k y=true:=by
 unfold SB jM;by_cases e:k=i;·subst e;rw[qzb rfl,zL hS b hv];exact h.post _ _ a
 ·rw[qzc e];exact a
def Nc(h:kY l (SB S))(hS:∀i,okL (S i))(b:l[i]? =some x)(hv:kS x):kY l (SB (jM S i (iN S x i))):=h.step (λk y=>wW h hS b hv k y) λk y a=>by
  unfold SB jM at a;by_cases e:k=i;·subst e;rw[qzb rfl,zL hS b hv]at a;exact Or.inr a
  ·rw[qzc e]at a;exact Or.inl a
def Ph(h:kY l (SB S))(hS:∀i,okL (S i))(b:l[i]? =some x)(hv:kS x){q:Nat}(f:q<4)(d:iN S x i q≠S i q){n:Nat}(hn:i<n):lh (SB (jM S i (iN S x i))) 256 n<lh (SB S) 256 n:=by
 obtain⟨y,a⟩:∃y,fI (iN S x i) y≠fI (S i) y:=jzh λc=>d (QK (look_ok hS x i) (hS i) (λy=>jzh λc2=>c ⟨y,c2⟩) q f);have h0:fI (S i) y=false:=by cases e:fI (S i) y with|false=>rfl|true=>have:=wW h hS b hv i y e;unfold SB jM at this;rw[qzb rfl]at this;rw[this,e]at a;exact absurd rfl a
 have h1:fI (iN S x i) y=true:=by cases e:fI (iN S x i) y with|true=>rfl|false=>rw[e,h0]at a;exact absurd rfl a
 refine Hd (i:=i) (v:=y) (wW h hS b hv) (Od h1) h0 ?_ n hn;unfold SB jM;rw[qzb rfl];exact h1
def Rm(h:kY l (SB S))(hS:∀i,okL (S i))(hv:∀x∈l,kS x)(hf:∀i x,l[i]? =some x->∀q,q<4->iN S x i q=S i q)(i v:Nat):SB S i v=true↔Live l i (v:Int):=h.all (λi v k=>by cases a:l[i]? with|none=>unfold jU at k;rw[a]at k;simp at k|some x=>have k2:=k;rw[<-zL hS a (hv x (qqr a))]at k2;have b:=Od k2;unfold SB;unfold fI at k2⊢;rw[hf i x a _ oqo]at k2;exact k2) i v
end
def jS(S:Nat->Nat->Nat)(m:Nat):Array Value:=((List.range (m*4)).map λj=>Value.int .u64 ((S (j/4) (j%4):Nat):Int)).toArray
def dH(W:World)(g m:Nat)(S:Nat->Nat->Nat):Prop:=Blk W g 136 (jS S m)
section
variable {W W':World}{g m i q:Nat}{S:Nat->Nat->Nat}
def yS(hi:i<m)(a:q<4):(jS S m)[i*4+q]? =some (.int .u64 ((S i q:Nat):Int)):=by unfold jS;rw[jxc,qqp,qqz oqo,jqf,show(i*4+q)/4=i by omega,show(i*4+q)%4=q by omega]
def dH.cell(h:dH W g m S)(hi:i<m)(a:q<4):W.cell? ⟨g,i*4+q,none⟩=some (.int .u64 ((S i q:Nat):Int)):=by rw[Blk.cell h,yS hi a]
def dH.range(h:dH W g m S)(hi:i<m):W.rangeAt g (i*4) (aV (S i)).toList:=λj v hv=>by have hj:j<4:=(qqi.1 hv).1;have:=gX (S i) hj;rw[<-qjf,hv]at this;rw[h.cell hi hj,this]
def dH.there(h:dH W g m S)(hi:i<m):W.there g (i*4) 4:=λj hj=>⟨by rw[h.cell hi hj];rfl,Blk.free h _⟩
def dH.put(h:dH W g m S)(hi:i<m)(f:Nat->Nat):dH (W.setCells g (i*4) (aV f).toList) g m (jM S i f):=by
 have h1:=(((Blk.put h (i*4) (.int .u64 ((f 0:Nat):Int))).put (i*4+1) (.int .u64 ((f 1:Nat):Int))).put (i*4+2) (.int .u64 ((f 2:Nat):Int))).put (i*4+3) (.int .u64 ((f 3:Nat):Int));have e:((((jS S m).setIfInBounds (i*4) (.int .u64 ((f 0:Nat):Int))).setIfInBounds (i*4+1) (.int .u64 ((f 1:Nat):Int))).setIfInBounds (i*4+2) (.int .u64 ((f 2:Nat):Int))).setIfInBounds (i*4+3) (.int .u64 ((f 3:Nat):Int))=jS (jM S i f) m:=by
  apply Array.ext_getElem?;intro j;have a:∀S,(jS S m).size=m*4:=λS=>by simp[jS]
  by_cases hj:j<m*4
  ·have b:(jS (jM S i f) m)[j]? =some (.int .u64 ((jM S i f (j/4) (j%4):Nat):Int)):=by have:=yS (S:=jM S i f) (show j/4<m by omega) (show j%4<4 by omega);rwa[show j/4*4+j%4=j by omega]at this
   have d:(jS S m)[j]? =some (.int .u64 ((S (j/4) (j%4):Nat):Int)):=by have:=yS (S:=S) (show j/4<m by omega) (show j%4<4 by omega);rwa[show j/4*4+j%4=j by omega]at this
   rw[b];simp only[qzy,Array.size_setIfInBounds,a,d];unfold jM;by_cases h3:i*4+3=j;·rw[qzb h3,qzb oqo,qzb (show j/4=i by omega),show j%4=3 by omega]
   ·rw[qzc h3];by_cases h2:i*4+2=j;·rw[qzb h2,qzb oqo,qzb (show j/4=i by omega),show j%4=2 by omega]
    ·rw[qzc h2];by_cases h1:i*4+1=j;·rw[qzb h1,qzb oqo,qzb (show j/4=i by omega),show j%4=1 by omega]
     ·rw[qzc h1];by_cases h0:i*4=j;·rw[qzb h0,qzb oqo,qzb (show j/4=i by omega),show j%4=0 by omega]
      ·rw[qzc h0,qzc oqo]
  ·rw[jxf (by simp only[Array.size_setIfInBounds,a];omega),jxf (by rw[a];omega)]
 rw[e]at h1;exact h1
def yF(W:World)(g o:Nat)(f:Nat->Nat):KO (λk=>k=g) W (W.setCells g o (aV f).toList):=(((KO.set (O:=λk=>k=g) (a:=⟨g,o,none⟩) rfl _).trans (KO.set (O:=λk=>k=g) (a:=⟨g,o+1,none⟩) rfl _)).trans (KO.set (O:=λk=>k=g) (a:=⟨g,o+2,none⟩) rfl _)).trans (KO.set (O:=λk=>k=g) (a:=⟨g,o+3,none⟩) rfl _)
def PE{o m b:Nat}(h:W.ownsRow o 136 4 (.slice (some ⟨b,0,none⟩) m m) m (List.replicate (m*4) (.int .u64 0)))(hm:0<m):dH W b m λ_=>oK:=by
 obtain⟨_,⟨e,_⟩|⟨g,cap,p,e,_,k,_,_,n,d⟩⟩:=h;·cases e
 ·injection e with a _ f;injection a with a;injection a with a;subst a;subst f;unfold dH Blk;rw[k];congr 2;apply jxt;rw[jqc (by simp[n])]at d;rw[d];unfold jS;rw[List.toList_toArray];apply jqk;intro j;rw[qqp,qzt];by_cases hj:j<m*4;·rw[qzb hj,qqz hj];rfl
  ·rw[qzc hj,qza (by simp;omega)];rfl
end
def Qv:(Tryz.prog.info? 136).map (λi=>(i.zero,i.size,i.bytes))=some (some (.agg #[.int .u64 0,.int .u64 0,.int .u64 0,.int .u64 0]),4,32):=kqk
structure Ew(l:List In)(n:Nat)(S0:Nat->Nat->Nat)(k:Nat)(S:Nat->Nat->Nat)(b:Bool):Prop where
 ok:∀i,okL (S i)live:kY l (SB S)same:b=false->S=S0/\∀i x,k<=i->l[i]? =some x->∀q,q<4->iN S x i q=S i q
 less:b=true->lh (SB S) 256 (n+1)<lh (SB S0) 256 (n+1)
def MN{S:Nat->Nat->Nat}{k:Nat}{s:Nat->Nat}(h:∀q,q<4->s q=S k q)(m:Nat):jS (jM S k s) m=jS S m:=by
 unfold jS;congr 1;refine jqj λj _=>?_;unfold jM;by_cases e:j/4=k;·rw[qzb e,h _ (Nat.mod_lt _ (by decide)),e]
 ·rw[qzc e]
def Ew.step{l:List In}{n k:Nat}{S0 S:Nat->Nat->Nat}{b:Bool}(h:Ew l n S0 (k+1) S b){x:In}(o:l[k]? =some x)(hv:kS x)(hk:k<n+1)(d:Bool)(hd:d=true↔¬∀q,q<4->iN S x k q=S k q): ∃p,jS p (n+1)=jS (jM S k (iN S x k)) (n+1)/\Ew l n S0 k p (b||d):=by
 cases d with|false=>
  have he:∀q,q<4->iN S x k q=S k q:=jzh λc=>by have:=hd.2 c;cases this
  refine⟨S,(MN he _).symm,h.ok,h.live,λa=>?_,λa=>?_⟩
  ·rw[Bool.or_false]at a;obtain⟨h1,h2⟩:=h.same a;refine⟨h1,λi y hi f=>?_⟩;by_cases e:i=k;·subst e;rw[o]at f;injection f with f;subst f;exact he
   ·exact h2 i y oqo f
  ·rw[Bool.or_false]at a;exact h.less a|true=>have r:=hd.1 rfl;obtain⟨q,j,s⟩:∃q,q<4/\iN S x k q≠S k q:=jzh λc=>r λq j=>jzh λc2=>c ⟨q,j,c2⟩;refine⟨jM S k (iN S x k),rfl,λi=>XU h.ok (look_ok h.ok x k) i,Nc h.live h.ok o hv,λa=>by simp at a,λ_=>?_⟩;have h1:=Ph h.live h.ok o hv j s hk;cases b with|true=>exact Nat.lt_trans h1 (h.less rfl)|false=>rw[(h.same rfl).1]at h1⊢;exact h1
structure Zh(l:List In)(N n g4 L:Nat)(RC:LoopState->Option Code->Loop)(S0:Nat->Nat->Nat)(W0:World)(k:Nat)(S:Nat->Nat->Nat)(b:Bool)(W:World):Prop where
 ko:KO (λi=>i=N+1\/i=g4\/i=L) W0 W
 o:dH W (N+1) (n+1) S
 again:Blk W g4 4 #[.bool b]loop:W.heap[L]? =some (.loop (RC .ready none))q:Ew l n S0 k S b
def oH(w:World)(b o:Nat)(a:Addr):Prop:=w.cell? ⟨b,o,none⟩=some (.pointer (some a))
def sG(w:World)(v:Value)(l:List Addr):Prop:=iX 1 oH w v l
def eQ(g:InV):Array Value:=#[.int .u8 g.1.op,.int .i64 g.1.v,.int .i64 g.1.a,.int .i64 g.1.b,.int .i64 g.1.n,.int .u8 g.1.bin,g.2,.int .i64 g.1.f,.int .i64 g.1.arr,.int .i64 g.1.to]
def mI(x:In)(av:Value)(bx:Nat)(w:World)(h:Blk w bx 71 (eQ ⟨x,av⟩))(ho:x.op∈[2,4,6,7,9,10,12,14]):Calls Tryz.prog 135 #[.pointer (some ⟨bx,0,none⟩)] w λe w'=>(∃sl,e=.returned sl/\sG w' sl [⟨bx,2,none⟩])/\Below w.heap.size w w':=by obtain⟨op,v,a,b,n,bin,args,f,arr,t⟩:=x;have k0:w.cell? ⟨bx,0,none⟩=some (.int .u8 (op:Nat)):=h.cell 0;have lb:=h.lt;clear h;simp only[qzh,qjh,jzq]at ho;rcases ho with rfl|rfl|rfl|rfl|rfl|rfl|rfl|rfl<;>(go_enter Tryz.func135,Tryz.ntmps135;go_wp2_with fail;go_ret;refine⟨⟨_,rfl,⟨_,_,rfl,qqf _,Or.inr ⟨_,_,rfl,λi y d=>?_⟩⟩⟩,(qjk _ _).alloc (qqf _) _⟩;cases i with|succ i=>simp at d|zero=>simp at d;subst d;simp[oH])
def DC(x:In)(av:Value)(bx:Nat)(w:World)(h:Blk w bx 71 (eQ ⟨x,av⟩))(ho:x.op∈[0,1,8,13]):Calls Tryz.prog 135 #[.pointer (some ⟨bx,0,none⟩)] w λe w'=>(∃sl,e=.returned sl/\sG w' sl [])/\Below w.heap.size w w':=by obtain⟨op,v,a,b,n,bin,args,f,arr,t⟩:=x;have k0:w.cell? ⟨bx,0,none⟩=some (.int .u8 (op:Nat)):=h.cell 0;have lb:=h.lt;clear h;simp only[qzh,qjh,jzq]at ho;rcases ho with rfl|rfl|rfl|rfl<;>(go_enter Tryz.func135,Tryz.ntmps135;go_wp2_with fail;go_ret;exact⟨⟨_,rfl,⟨_,_,rfl,qqf _,Or.inl rfl⟩⟩,qjk _ _⟩)
def vQ(x:In)(av:Value)(bx:Nat)(w:World)(h:Blk w bx 71 (eQ ⟨x,av⟩))(ho:x.op=3\/x.op=5):Calls Tryz.prog 135 #[.pointer (some ⟨bx,0,none⟩)] w λe w'=>(∃sl,e=.returned sl/\sG w' sl [⟨bx,2,none⟩,⟨bx,3,none⟩])/\Below w.heap.size w w':=by obtain⟨op,v,a,b,n,bin,args,f,arr,t⟩:=x;have k0:w.cell? ⟨bx,0,none⟩=some (.int .u8 (op:Nat)):=h.cell 0;have lb:=h.lt;clear h;simp only at ho;rcases ho with rfl|rfl<;>
 (go_enter Tryz.func135,Tryz.ntmps135;go_upto_region 13 with fail;refine wp_region_draw [true,true,true,true,true,true,false,false] (λW=>Below w.heap.size w W) 2 eF (λ_ a s _ hd h=>by cases a;cases s;cases hd;exact h) kqk (λ_ _ h=>h) ?_;iterate 6 refine aR (λK j=>?_);rw[qzb kqk];refine⟨_,λZ z=>(by go_simp;rfl),?_⟩;simp only[qqa];refine j _ ?_;clear j
  refine bg (bg (bJ ?_));intro vs r k u o;refine ai 6 rfl kqk (λp j=>?_);go_simp;refine j.o _ _ (Or.inr ((k.o 6).trans kqk)) ?_;clear j;refine ai 7 rfl kqk (λp j=>?_);go_simp;refine j.o _ _ (Or.inr ((k.o 7).trans kqk)) ?_;clear j;refine au kqk ?_;go_wp2_with fail;go_ret;have hs:=o.size;refine⟨⟨_,rfl,⟨_,_,rfl,qqf _,Or.inr ⟨_,_,rfl,λi y d=>?_⟩⟩⟩,o.alloc oqo _⟩;have hz:r.heap.size=w.heap.size:=by rw[u]
  match i,d with|0,d=>simp at d;subst d;simp[oH,<-hz]|1,d=>simp at d;subst d;simp[oH,<-hz]|i+2,d=>simp at d)
def Si:(Tryz.prog.info? 189).map (λi=>(i.zero,i.size,i.bytes))=some (some (.pointer none),1,8):=kqk
def adS(a b n:Nat):List Addr:=(List.range n).map λi=>⟨a,b+i,none⟩
def zG(a:Addr):List Value:=[.pointer (some a)]
def Qz(a b n:Nat):adS a b (n+1)=adS a b n++[⟨a,b+n,none⟩]:=by unfold adS;rw[List.range_succ,jzy];rfl
def DD(v a b m:Int)(bin:Nat)(f arr t:Int)(args:List Int)(d k n r:Nat)(A:Option Addr)(D:0<n->A=some ⟨d,k,none⟩)(hn:n<=1000)(bx:Nat)(w:World)(h:Blk w bx 71 (eQ ⟨⟨11,v,a,b,m,bin,args,f,arr,t⟩,.slice A n r⟩)):Calls Tryz.prog 135 #[.pointer (some ⟨bx,0,none⟩)] w λe w'=>(∃sl,e=.returned sl/\w'.ownsRow w.heap.size 189 1 sl n ((adS d k n).flatMap zG))/\Below w.heap.size w w':=by
 have k0:w.cell? ⟨bx,0,none⟩=some (.int .u8 (11:Nat)):=h.cell 0;have k6:w.cell? ⟨bx,6,none⟩=some (.slice A n r):=h.cell 6;have lb:=h.lt;have z:=hqh k6;clear h;obtain⟨L,G,I,J,K⟩:=jxo Si;go_enter Tryz.func135,Tryz.ntmps135;go_wp2_with fail;clear k0 k6;go_loopg [3,39]n(λgk v3 v wr=>∃i:Nat,i<=n/\n-i<=gk/\v=.int .i64 i/\Hid (wr.ownsRow w.heap.size 189 1 v3 i ((adS d k i).flatMap zG))/\Hid (Below w.heap.size w wr));case atStart=>exact⟨0,qqy _,qqf _,rfl,hqh ⟨by simp[adS],Or.inl ⟨rfl,rfl⟩⟩,hqh (qjk _ _)⟩
 case round=>
  obtain⟨i,hi,O,rfl,p,o⟩:=hrel;by_cases Q:i<n;case neg=>have q:decide ((i:Int)<(n:Int))=false:=qqt oqo;have H:i=n:=oqo;go_wp2_with fail;go_ret;subst H;exact⟨⟨_,rfl,p.o⟩,o.o⟩
  case pos=>have q:decide ((i:Int)<(n:Int))=true:=qqx oqo;have P:(i:Int)<(n:Int):=oqo;have E:=D oqo;subst E;have k6:=aa o.o z.o;have R:=aB k6;have F:=o.o.size;go_wp2_with(at_builtin;refine jxx _ rfl _ _ 186 rfl w.heap.size 189 L (.pointer none) 1 8 Tryz.underlying186 G I J K rfl (by decide) _ _ _ rfl (own_below p.o ((qjk _ _).alloc (qqf _) _)) ⟨wr.heap.size,0,none⟩ 1 1 [.pointer (some ⟨d,k+i,none⟩)] rfl rfl (λj u hu=>?_) (λu hu=>by simp at hu;subst hu;rfl) (by unfold maxLen;omega) oqo (by simp;omega) ?_);intro M N y s _;have C:=hqh ((o.o.alloc F _).grown s (by simp;omega) (λq e=>(p.o.lt q e).1));have B:=hqh (show N.ownsRow w.heap.size 189 1 M (i+1) ((adS d k (i+1)).flatMap zG)by rw[Qz,jza];exact y);clear y s;go_wp2_with fail;cases gk with|zero=>omega|succ gk=>
    go_roundg gk;case measure=>omega
    case rel=>exact⟨i+1,by omega,by omega,by simp,B,C⟩
def Sm{w:World}{k n:Nat}{v:Value}{l:List Addr}(h:w.ownsRow k 189 1 v n (l.flatMap zG))(hn:l.length=n):sG w v l:=by
 have hl:∀l:List Addr,(l.flatMap zG)=l.map λa=>.pointer (some a):=λl=>by induction l with|nil=>rfl|cons a l ih=>rw[jqe,ih];rfl
 rw[hl]at h;obtain⟨_,⟨rfl,rfl⟩|⟨g,cap,d,rfl,p,f,o,_,r,j⟩⟩:=h;·have e:l=[]:=jja.1 hn;subst e;exact⟨none,0,rfl,qqy _,Or.inl rfl⟩
 ·refine⟨some ⟨g,0,none⟩,cap,by rw[hn],by omega,Or.inr ⟨g,0,rfl,λi x b=>?_⟩⟩;have hi:=(qqi.1 b).1;unfold oH;have h1:(d.toList.take (n*1))[i]? =some (.pointer (some x)):=by rw[j,qqp,b];rfl
  rw[qzw,qzb oqo]at h1;unfold World.cell?;rw[show 0+i*1=i by omega];simp only[f];simpa using h1
def Oz(g:InV)(bx:Nat)(w:World)(h:Blk w bx 71 (eQ g))(ho:g.1.op<15)(ha:aD w g.2 g.1.args)(hn:g.1.args.length<=1000):Calls Tryz.prog 135 #[.pointer (some ⟨bx,0,none⟩)] w λe w'=>(∃sl ps,e=.returned sl/\sG w' sl ps/\ps.length=(dX g.1).length/\∀(j:Nat)(p:Addr)(u:Int),ps[j]? =some p->(dX g.1)[j]? =some u->p.spot=none/\w.cell? ⟨p.block,p.off,none⟩=some (.int .i64 u))/\Below w.heap.size w w':=by
 obtain⟨⟨op,v,a,b,n,bin,args,f,arr,t⟩,av⟩:=g;simp only at ho hn ha;have B:w.cell? ⟨bx,2,none⟩=some (.int .i64 a):=h.cell 2;have E:w.cell? ⟨bx,3,none⟩=some (.int .i64 b):=h.cell 3;by_cases s:op∈[2,4,6,7,9,10,12,14]
 ·have hu:dX ⟨op,v,a,b,n,bin,args,f,arr,t⟩=[a]:=by simp only[qzh,qjh,jzq]at s;rcases s with rfl|rfl|rfl|rfl|rfl|rfl|rfl|rfl<;>rfl
  rw[hu];refine(mI ⟨op,v,a,b,n,bin,args,f,arr,t⟩ av bx w h s).mono ?_;rintro e w'⟨⟨sl,he,r⟩,o⟩;refine⟨⟨sl,_,he,r,rfl,λj p u hj hu=>?_⟩,o⟩;cases j with|zero=>simp at hj hu;subst hj;subst hu;exact⟨rfl,B⟩|succ j=>simp at hj
 ·by_cases C:op=3\/op=5
  ·have hu:dX ⟨op,v,a,b,n,bin,args,f,arr,t⟩=[a,b]:=by rcases C with rfl|rfl<;>rfl
   rw[hu];refine(vQ ⟨op,v,a,b,n,bin,args,f,arr,t⟩ av bx w h C).mono ?_;rintro e w'⟨⟨sl,he,r⟩,o⟩;refine⟨⟨sl,_,he,r,rfl,λj p u hj hu=>?_⟩,o⟩;rcases j with _|_|j;·simp at hj hu;subst hj;subst hu;exact⟨rfl,B⟩
   ·simp at hj hu;subst hj;subst hu;exact⟨rfl,E⟩
   ·simp at hj
  ·by_cases F:op=11
   ·subst F;have hu:dX ⟨11,v,a,b,n,bin,args,f,arr,t⟩=args:=rfl;rw[hu];obtain⟨A,c,rfl,hc,hr⟩:=ha;obtain⟨d,k,s,z⟩:∃d k,(0<args.length->A=some ⟨d,k,none⟩)/\∀i x,args[i]? =some x->kz w d (k+i*1) x:=by
     rcases hr with e|⟨d,k,e,z⟩;·exact⟨0,0,λh=>by rw[e]at h;exact absurd h (by simp),λi x h=>by rw[e]at h;simp at h⟩
     ·exact⟨d,k,λ_=>e,z⟩
    refine(DD v a b n bin f arr t args d k args.length c A s hn bx w h).mono ?_;rintro e w'⟨⟨sl,he,r⟩,o⟩;have D:(adS d k args.length).length=args.length:=by unfold adS;simp
    refine⟨⟨sl,_,he,Sm r D,D,λj p u hj hu=>?_⟩,o⟩;have G:j<args.length:=(qqi.1 hu).1;unfold adS at hj;rw[qqp,qqz G]at hj;simp at hj;subst hj;have:=z j u hu;unfold kz at this;rw[jzc]at this;exact⟨rfl,this⟩
   ·have y:op∈[0,1,8,13]:=by simp only[qzh,qjh,jzq]at s⊢;omega
    have hu:dX ⟨op,v,a,b,n,bin,args,f,arr,t⟩=[]:=by simp only[qzh,qjh,jzq]at y;rcases y with rfl|rfl|rfl|rfl<;>rfl
    rw[hu];refine(DC ⟨op,v,a,b,n,bin,args,f,arr,t⟩ av bx w h y).mono ?_;rintro e w'⟨⟨sl,he,r⟩,o⟩;exact⟨⟨sl,_,he,r,rfl,λj p u hj _=>by simp at hj⟩,o⟩
