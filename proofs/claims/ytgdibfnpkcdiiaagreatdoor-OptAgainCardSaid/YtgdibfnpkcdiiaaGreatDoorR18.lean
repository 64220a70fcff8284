/- Joint text: OReachW, OWith, OBack, OLiveA, OLiveM, OLiveR, OTake, OTakeB, OTakeG, OTakes, OB, OEq. By an AI agent. -/
import Derived.Test.YtgdibfnpkcdiiaaGreatDoorRzy
import Derived.Test.YtgdibfnpkcdiiaaGreatDoorR17
import Derived.Laws.AppendOwnNone
import Derived.RangeFuncNested
import Derived.RangeFuncBound
import Derived.Shelf.Abstract
import Derived.Shelf.RegionOpen
import Derived.OwnWalkIn
import Derived.TacticsInMore
import Derived.LoopNIn
import Derived.LoopIn
import Derived.Sort.CutIn
import Derived.Laws.Cover2
set_option linter.all false
set_option maxRecDepth 100000
set_option maxHeartbeats 64000000
namespace Go.Proofs.YtgdibfnpkcdiiaaGreatDoor
open Go.RowKit
def oh(a:List Nat):List Value:=(a.map λk:Nat=>(k:Int)).flatMap dx
theorem Ba(a b:List Nat):oh (a++b)=oh a++oh b:=by unfold oh;rw[jxf,jzu]
theorem vS(a:List Nat):(oh a).length=a.length:=by
 have e:∀l:List Int,(l.flatMap dx).length=l.length:=λl=>by induction l with|nil=>rfl|cons a l ih=>rw[jqj,qzl,ih,qzv];show 1+_=_;omega
 unfold oh;rw[e,qqv]
theorem G8(a:List Nat):oh a=a.map λk:Nat=>Value.int .i64 (k:Int):=by unfold oh;induction a with|nil=>rfl|cons a l ih=>rw[jqw,jqj,ih];rfl
theorem GR:(Tryz.prog.info? 3).map (λi=>(i.zero,i.size,i.bytes))=some (some (.int .i64 0),1,8):=kqk
theorem Dn(x:In)(i:Nat):(bN x i).length<=2:=by
 unfold bN;split;·simp
 ·split;·simp
  ·split<;>simp
theorem xE(lv:Value)(l:List InV)(w:World)(hl:dW w lv l)(hn:l.length<=8000)(r1:∀x∈l,0<=x.1.to):Calls Tryz.prog 90 #[lv] w λe w'=>(∃v,e=.returned v/\bJ w' w.heap.size v (jk (l.map (·.1))))/\Below w.heap.size w w':=by
 have HL:=hqh hl;obtain⟨A,c,g2,_,_⟩:=hl;subst g2;obtain⟨n,l0⟩:∃n,n=l.length:=⟨_,rfl⟩;rw[<-l0]at hn HL⊢;have E:=hqh l0;have HT:=hqh r1;clear l0 r1;obtain⟨i0,a2,n2,o2,p2⟩:=jxw KY;obtain⟨j0,i1,q2,r2,s2⟩:=jxw GR;go_enter Tryz.func90,Tryz.ntmps90;go_wp2_with(at_make;refine wpList_make_full _ rfl _ _ 129 rfl w.heap.size 4 i0 (.bool false) 1 Tryz.underlying129 a2 n2 o2 .i64 .i64 n n n rfl rfl rfl rfl (by rw[p2];omega) (by unfold maxLen;omega) (qqf _) ?_);intro w1 s1 s0;have m0:=hqh (show bJ w1 w.heap.size (.slice (some ⟨w.heap.size,0,none⟩) n n) (List.replicate n false)by unfold bJ;rw[List.length_replicate,<-Ah];simpa using s1);have Y:=hqh ((qjk w.heap.size w).grown s0 (qqf _) (λk e=>by cases e));have o1:w.heap.size<=w1.heap.size:=Y.o.size;clear s1 s0;go_wp2_with fail;have n0:=hqh (show bJ (w1.alloc (.cells #[.int .i64 0] 3)) w.heap.size _ _ from own_below m0.o ((qjk _ _).alloc (qqf _) _));have q0:=hqh (show(w1.alloc (.cells #[.int .i64 0] 3)).ownsRow w.heap.size 3 1 (.slice (some ⟨w1.heap.size,0,none⟩) 1 1) 1 (oh [0])from Hf w1 3 #[.int .i64 0] 1 1 w.heap.size rfl o1 (by unfold maxLen;omega));have r0:=hqh (Y.o.alloc o1 (.cells #[.int .i64 0] 3));generalize j2:w1.alloc _=w2 at n0 q0 r0⊢;clear j2 m0 Y;have x1:=hqh (show gP (l.map (·.1)) (List.replicate n false) (·∈[0])by have:=Gz (l.map (·.1));rw[qqv,<-E.o]at this;exact this.weak λi=>by simp);have l1:3*lW (List.replicate n false)+1<=3*n+1:=by
  have:lW (List.replicate n false)<=n:=by unfold lW;exact qzi (jzy _ _) (by simp)
  omega
 go_loopg [4](3*n+1)(λgk v4 wr=>∃(d:List Nat)(out:List Bool),3*lW out+d.length<=gk/\3*lW out+d.length<=3*n+1/\Hid (wr.ownsRow w.heap.size 3 1 v4 d.length (oh d))/\Hid (bJ wr w.heap.size (.slice (some ⟨w.heap.size,0,none⟩) n n) out)/\Hid (gP (l.map (·.1)) out (·∈d))/\Hid (Below w.heap.size w wr));case atStart=>exact⟨[0],_,l1,l1,q0,n0,x1,r0⟩
 case round=>
  obtain⟨d,out,x0,y0,s,t,HR,H⟩:=hrel;rcases List.eq_nil_or_concat d with rfl|⟨d,i,rfl⟩;·obtain⟨t2,cv,hv⟩:=dN s.o;subst hv;simp only[jxp];go_wp2_with fail;go_ret;have e:=(HR.o.weak (T':=λ_=>False) (λi=>by simp)).eq;refine⟨⟨_,rfl,?_⟩,H.o⟩;have:=t.o;rw[e]at this;exact this
  ·rw[List.concat_eq_append]at x0 y0 s HR;obtain⟨m,hm⟩:∃m,m=d.length:=⟨_,rfl⟩;have j1:(d++[i]).length=m+1:=by rw[qzl,hm];rfl
   rw[j1]at x0 y0 s;obtain⟨g,cap,hv,_,_⟩:=s.o.form oqo;subst hv;have z2:m+1<=cap:=by
    rcases s.o.2 with⟨hv,_⟩|⟨g',v2,x2,hv,_,_,y2,_⟩;·cases hv
    ·injection hv with _ _ e;omega
   have b3:(m:Int)<=(cap:Int):=oqo;have l3:IntKind.i64.wrap (m:Int)=m:=jqs _ oqo;have g3:(0:Int)<(m:Int)+1:=oqo;have ct:wr.cell? ⟨g,m,none⟩=some (.int .i64 (i:Int)):=by rw[s.o.cellAt m oqo,Ba,qze (by rw[vS];omega),vS,hm,jzj];rfl
   have G:=hqh (RP (by have:=s.o;rw[Ba]at this;exact this) (show(oh d).length=m*1 by rw[vS,hm];omega));have N:=hqh (HR.o.weak (T':=λj=>j∈d\/j=i) (λj=>by simp));have B:=hqh hm;have i3:3*lW out+(d.length+1)<=gk:=oqo;have j3:3*lW out+(d.length+1)<=3*n+1:=oqo;clear hm j1 s HR;obtain⟨ko,rfl⟩:∃k,gk=k+1:=⟨gk-1,by omega⟩;by_cases d1:i<n
   ·have d2:(i:Int)<(n:Int):=by omega
    obtain⟨b,hb⟩:∃b,out[i]? =some b:=⟨_,qqh (by rw[N.o.len,qqv,<-E.o];exact d1)⟩;obtain⟨cb,fb⟩:=t.o.cell hb;have o0:=hqh hb;clear hb;cases b;·-- it is found
     obtain⟨y,Q⟩:∃y,l[i]? =some y:=⟨_,qqh (by rw[<-E.o];exact d1)⟩;have m2:=HT.o y (qqr Q);have p0:=hqh (N.o.mark (show(l.map (·.1))[i]? =some y.1 by rw[qqp,Q];rfl));have U:=hqh (FT out i o0.o);have HY:=hqh Q;clear Q;go_upto_region 8 with fail;have T:=hqh (t.o.set i true);have a1:g≠w.heap.size:=λe=>by obtain⟨c1,f⟩:=aT G.o (b:=g) rfl;obtain⟨c2,Z⟩:=aT t.o (b:=w.heap.size) rfl;rw[e,Z]at f;injection f with f;injection f with _ e3;cases e3
     have V:=hqh (dm G.o (KO.set (O:=λk=>k=w.heap.size) (a:=⟨w.heap.size,i,none⟩) rfl (.bool true)) (λk hk c=>a1 (by
      have e:g=k:=by simpa [Value.ownBlock]using hk
      rw[e];exact c)));have I:=hqh (H.o.setCell (p:=⟨w.heap.size,i,none⟩) (qqf _) (.bool true));generalize l2:wr.setCell _ _=w3 at T V I⊢;clear l2 cb fb ct a1 G t H;have s3:=I.o.size;have NX:=Fe (.slice A n c) l i y w3 (HL.o.below I.o) HY.o m2 (by have:=E.o;omega)
     cases P:bN y.1 i with|nil=>
      have F:=hqh P;go_wp2_with(first| (go_at_call 130;refine NX.mono ?_;rintro e R⟨⟨sl,rfl,_,m1⟩,r⟩;have L:=m1 F.o;subst L;have C:=hqh (own_below V.o r);have D:=hqh (show bJ R w.heap.size _ _ from own_below T.o r);have J:=hqh (I.o.trans (r.mono s3));clear r m1)|(at_builtin;refine wpList_append_own_none rfl _ _ 22 rfl w.heap.size 3 j0 1 Tryz.underlying22 i1 _ _ _ rfl C.o rfl ?_)|fail);go_roundg ko;case measure=>omega
      case rel=>refine⟨d,out.set i true,by have:=U.o;omega,by have:=U.o;omega,hqh (by rw[<-B.o];exact C.o),D,hqh (p0.o.weak λj=>by rw[F.o];simp),J⟩|cons k1 z=>
      have F:=hqh P;have d3:z.length+1<=2:=by have:=Dn y.1 i;rw[P]at this;exact this
      clear P;obtain⟨mk,e0⟩:∃q,q=z.length+1:=⟨_,rfl⟩;have M:=hqh e0;go_wp2_with(first
       | (go_at_call 130;refine NX.mono ?_;rintro e R⟨⟨sl,rfl,g1,_⟩,r⟩;rw[F.o]at g1;obtain⟨SA,sc,L,_,q1⟩:=g1;simp only[jqw,qzv,qqv]at L;rw[<-e0]at L;obtain⟨sb,so,i2,p1⟩:∃b o,SA=some ⟨b,o,none⟩/\∀q x,((k1::z).map λk:Nat=>(k:Int))[q]? =some x->iP R b (o+q*1) x:=by
            rcases q1 with e|h;·cases e
            ·exact h
          subst i2;subst L;have y1:=hqh p1;have C:=hqh (own_below V.o r);have D:=hqh (show bJ R w.heap.size _ _ from own_below T.o r);have J:=hqh (I.o.trans (r.mono s3));clear r q1 p1 e0)|(at_builtin;refine jxn _ rfl _ _ 22 rfl w.heap.size 3 j0 (.int .i64 0) 1 8 Tryz.underlying22 i1 q2 r2 s2 rfl (by decide) _ _ _ rfl C.o ⟨sb,so,none⟩ mk sc (oh (k1::z)) rfl (by rw[vS,M.o];simp) (λq u K=>?_) (λu hu=>?_) (by unfold maxLen;have:=M.o;omega) (by have:=M.o;omega) J.o.size ?_)|fail);·rw[G8,qqp]at K;cases hk:(k1::z)[q]? with|none=>rw[hk]at K;simp at K|some k=>rw[hk]at K;have:=y1.o q (k:Int) (by rw[qqp,hk];rfl);unfold iP at this;rw[jzb]at this;rw[Addr.add_mid,this];simpa using K
      ·rw[G8]at hu;obtain⟨k,_,rfl⟩:=qjb.1 hu;rfl
      intro v6 w6 n1 d0 _;have v1:=hqh n1;have t1:=hqh (show bJ w6 w.heap.size _ _ from j4 D.o λk hk=>d0.block k (D.o.lt k hk).2 (λe=>by
       have Z:g=k:=by simpa [Value.ownBlock]using e.symm
       obtain⟨c1,f⟩:=aT C.o (b:=g) rfl;obtain⟨c2,e3⟩:=aT D.o hk;rw[Z,e3]at f;injection f with f;injection f with _ e4;cases e4));have z1:=hqh (J.o.grown d0 J.o.size (λq e=>(C.o.lt q e).1));clear n1 d0;go_wp2_with fail;go_roundg ko;case measure=>omega
      case rel=>
       have h1:=U.o;have h2:=M.o;have hl:(d++k1::z).length=m+mk:=by rw[qzl,qzv,B.o,h2]
       refine⟨d++k1::z,out.set i true,by rw[hl];have:=B.o;omega,by rw[hl];have:=B.o;omega,hqh (by rw[hl,Ba];exact v1.o),t1,hqh (p0.o.weak λj=>by rw[F.o,qzu]),z1⟩
    ·-- it was found
     have X:=hqh (N.o.skip (Or.inr o0.o));go_wp2_with fail;go_roundg ko;case measure=>omega
     case rel=>exact⟨d,out,by omega,by omega,hqh (by rw[<-B.o];exact G.o),t,X,H⟩
   ·have d2:¬(i:Int)<(n:Int):=by omega
    have X:=hqh (N.o.skip (Or.inl (by rw[qqv,<-E.o];omega)));go_wp2_with fail;go_roundg ko;case measure=>omega
    case rel=>exact⟨d,out,by omega,by omega,hqh (by rw[<-B.o];exact G.o),t,X,H⟩
def aZ(f:Nat->Nat):Array Value:=#[.int .u64 ((f 0:Nat):Int),.int .u64 ((f 1:Nat):Int),.int .u64 ((f 2:Nat):Int),.int .u64 ((f 3:Nat):Int)]
theorem gz(f:Nat->Nat){q:Nat}(a:q<4):(aZ f)[q]? =some (.int .u64 ((f q:Nat):Int)):=by
 rcases q with _|_|_|_|q;·rfl
 ·rfl
 ·rfl
 ·rfl
 ·omega
theorem yz(f:Nat->Nat){q:Nat}(a:q<4)(v:Nat):(aZ f).setIfInBounds q (.int .u64 (v:Int))=aZ λj=>if j=q then v else f j:=by
 rcases q with _|_|_|_|q;·rfl
 ·rfl
 ·rfl
 ·rfl
 ·omega
theorem Qg(a b:Nat->Nat)(w:World)(ha:∀q,q<4->a q<2^64)(y:∀q,q<4->b q<2^64):Calls Tryz.prog 132 #[.agg (aZ a),.agg (aZ b)] w λe w'=>e=.returned (.agg (aZ λq=>a q|||b q))/\Below w.heap.size w w':=by
 have B:=hqh ha;have C:=hqh y;clear ha y;unfold aZ;go_enter Tryz.func132,Tryz.ntmps132;go_wp2_with fail;have c:=hqh (show Blk (((w.alloc (.cells (aZ a) 136)).alloc (.cells (aZ b) 136)).alloc (.cells (aZ λ_=>0) 136)) w.heap.size 136 (aZ λq=>if q<0 then a q|||b q else a q)from((Blk.new _ _ _).alloc _).alloc _);have f:=hqh (show Blk (((w.alloc (.cells (aZ a) 136)).alloc (.cells (aZ b) 136)).alloc (.cells (aZ λ_=>0) 136)) (w.heap.size+1) 136 (aZ b)from by have h:=(Blk.new (w.alloc (.cells (aZ a) 136)) 136 (aZ b)).alloc (.cells (aZ λ_=>0) 136);rwa[jqe]at h);have n:=hqh (show Blk (((w.alloc (.cells (aZ a) 136)).alloc (.cells (aZ b) 136)).alloc (.cells (aZ λ_=>0) 136)) (w.heap.size+1+1) 136 (aZ λ_=>0)from by have h:=Blk.new ((w.alloc (.cells (aZ a) 136)).alloc (.cells (aZ b) 136)) 136 (aZ λ_=>0);rwa[jqe,jqe]at h);have d:=hqh (show Below w.heap.size w (((w.alloc (.cells (aZ a) 136)).alloc (.cells (aZ b) 136)).alloc (.cells (aZ λ_=>0) 136))from((((qjk _ _).alloc (qqf _) _).alloc (by simp) _).alloc (by simp;omega) _));unfold aZ at c f n d;generalize M:World.alloc (World.alloc (World.alloc w _) _) _=w1 at c f n d⊢;clear M;change Hid (Blk w1 w.heap.size 136 (aZ λq=>if q<0 then a q|||b q else a q))at c;change Hid (Blk w1 (w.heap.size+1) 136 (aZ b))at f;change Hid (Blk w1 (w.heap.size+1+1) 136 (aZ λ_=>0))at n;go_loopw [6](λt wr=>∃k:Nat,t=.int .i64 (k:Int)/\k<=4/\Hid (Below w.heap.size w wr)/\Hid (Blk wr w.heap.size 136 (aZ λq=>if q<k then a q|||b q else a q))/\Hid (Blk wr (w.heap.size+1) 136 (aZ b))/\Hid (Blk wr (w.heap.size+1+1) 136 (aZ λ_=>0)))(λt _=>match t with| .int _ x=>(4-x).toNat|_=>0);case atStart=>exact⟨0,rfl,by omega,d,c,f,n⟩
 case round=>
  clear c f n d;obtain⟨k,rfl,hk,d,c,f,n⟩:=hrel;by_cases Q:(k:Int)<4
  ·have R:IntKind.i64.wrap ((k:Int)+1)=(k:Int)+1:=jqs _ oqo;have s:k<4:=oqo;have f0:=c.o.free k;have N:=B.o k s;have lb:=C.o k s;go_upto_region 4 with fail;refine wp_region_draw [true,true,true,true,true,true,true,true,false] (λW=>Below wr.heap.size wr W) 1 bY (λ_ a F _ hd h=>by cases a;cases F;cases hd;exact h) kqk (λ_ _ h=>h) ?_;have u:=hqh (show wr.cell? ⟨w.heap.size,k,none⟩=some (.int .u64 (a k:Int))by rw[c.o.cell,gz _ s,qzc oqo]);have z:=hqh (show wr.cell? ⟨w.heap.size+1,k,none⟩=some (.int .u64 (b k:Int))by rw[f.o.cell,gz _ s]);iterate 8 refine aI (λK o=>?_);rw[qzb kqk];refine⟨_,λZ v=>(by have k0:=aa v u.o;have k1:=aa v z.o;go_simp;try rfl),?_⟩;simp only[qqa];refine o _ ?_;clear o
   refine aV (aW ?_);intro vs E H I r;refine aF 8 rfl kqk (λP o=>?_);have k0:=aa r u.o;have G:E.frozen? ⟨w.heap.size,k,none⟩=false:=by unfold World.frozen? at f0⊢;rw[I];exact f0
   go_simp;refine o.o _ _ (Or.inr ((H.o 8).trans kqk)) ?_;clear o;refine aH kqk ?_;clear k0 G f0;go_wp2_with fail;have J:=bits_or_u64_nat (a k) (b k) N lb;rw[J];have hs:=d.o.size;refine⟨⟨k+1,by push_cast;rfl,by omega,hqh ((d.o.trans (r.mono hs)).setCell (p:=⟨w.heap.size,k,none⟩) (qqf _) _),hqh ?_,hqh (((f.o.below r)).far oqo _ _),hqh (((n.o.below r)).far oqo _ _)⟩,by show(4-((k:Int)+1)).toNat<(4-(k:Int)).toNat;omega⟩;have h:=(c.o.below r).put k (.int .u64 ((a k|||b k:Nat):Int));rw[yz _ s]at h;have e:(λj=>if j=k then a k|||b k else if j<k then a j|||b j else a j)=λq=>if q<k+1 then a q|||b q else a q:=funext λj=>by
    by_cases h1:j=k;·subst h1;rw[qzb rfl,qzb oqo]
    ·rw[qzc h1];by_cases h2:j<k;·rw[qzb h2,qzb oqo]
     ·rw[qzc h2,qzc oqo]
   rw[e]at h;exact h
  ·have L:k=4:=by omega
   subst L;go_upto_region 6 with fail;apply jqf;refine aL rfl 136 (.tmp 2) rfl w.heap.size rfl 136 _ _ c.o Tryz.underlying136 rfl kqk ?_;simp only[qqa];refine az rfl 136 (.tmp 4) (.tmp 18) rfl (w.heap.size+1+1) _ rfl rfl 136 _ n.o rfl kqk rfl ?_;intro O h2 k2;have A:=hqh h2;have D:=hqh (show Below w.heap.size w O from d.o.trans (k2.aM d.o.size λk e=>by omega));clear h2 k2;go_wp2_with fail;refine bodyPost_ret (results_cell_row rfl _ _ (w.heap.size+1+1) 136 _ (0,0) _ rfl A.o Tryz.underlying136 rfl kqk) rfl ?_;exact⟨rfl,D.o⟩
attribute [local go_sem]Oper.semAt_some
theorem OG(lv:Value)(a:Option Addr)(n c:Nat)(hl:lv=.slice a n c)(w:World):Calls Tryz.prog 131 #[lv] w λe w'=>e=.returned (.func (.func 157) #[] #[.pointer (some ⟨w.heap.size,0,none⟩)])/\w'=w.alloc (.cells #[lv] 65):=by subst hl;go_enter Tryz.func131,Tryz.ntmps131;go_wp2_with fail;go_ret;exact⟨rfl,rfl⟩
theorem wZ{F:Fence}{n:Nat}{P:Program}{ops:Array Oper}{rest:List Oper}{op:Oper}{a:Act}{w:World}{Q:Exit->Act->World->Prop}(hF:∀f,F.fn f)(p:op.guard=none)(j:TypeId)(x:Operand)(ho:op.op=.load j x)(b o:Nat)(r:a.eval x=.pointer (some ⟨b,o,none⟩))(cs:List Value)(d:TypeDesc)(hc:w.rangeAt b o cs)(hu:P.underlying j=some d)(hd:d.isRow=true)(hi:(P.info? j).map (·.size)=some cs.length)(h:wpListIn F n P ops Q rest (a.put op.dst (.agg cs.toArray)) w):wpListIn F n P ops Q (op::rest) a w:=wpListIn_plain p λK k=>by refine⟨λf _=>hF f,?_⟩;rw[Oper.semAt_eq _ _ _ (λc e=>by rw[ho]at e;cases e)];unfold execOp;simp only[ho,r,Instr.loadAt,Instr.sureAddr,qjm,jzc,qjl,run_loadVar_mid w b o j cs d hc hu hd hi];exact k _ _ h
theorem RQ(n l B:Nat)(hn:1<=n)(J:Nat->World->Prop)(g o cap:Nat)(m:Nat)(hm:m<=100000)(row:Nat->Array Value)(hJ:∀k W,J k W->Blk W B 65 #[.slice (some ⟨g,o,none⟩) m cap]/\∀i,i<m->W.rangeAt g (o+i*10) (row i).toList)(j:∀i,(row i).size=10)(hY:∀k W,k<m->J (k+1) W->YieldAt Fence.wide (n-1) Tryz.prog l #[.int .i64 (k:Int),.agg (row k)] W λe W'=>e=.returned (.bool true)/\J k W')(W:World)(h0:J m W):CallsIn Fence.wide n Tryz.prog 157 #[.func (.yield l) #[] #[],.pointer (some ⟨B,0,none⟩)] W λe W'=>(∃v,e=.returned v)/\J 0 W':=by
 refine callsIn_of_wp Tryz.func157 rfl trivial ?_ rfl;simp only[Tryz.ntmps157,jxd,qzv,jxp,Nat.reduceAdd,Nat.reduceSub,Array.replicate_succ,Array.replicate_zero,List.push_toArray,List.append_toArray,List.nil_append,jjb];have c2:=(hJ _ _ h0).1.cell 0;simp only[jxy,List.getElem?_cons_zero]at c2;have b:((m:Int)-1+1)=(m:Int):=oqo;have r:IntKind.i64.wrap ((m:Int)-1)=(m:Int)-1:=jqs _ oqo;gi_wp2;clear c2 b r;gi_loopw [3](λv3 wr=>∃k:Nat,v3=.int .i64 ((k:Int)-1)/\k<=m/\Hid (J k wr))(λv3 _=>match v3 with| .int _ x=>(x+1).toNat|_=>0);case atStart=>exact⟨m,rfl,qqf _,hqh h0⟩
 case round=>obtain⟨k,rfl,hk,a⟩:=hrel;cases k with|zero=>gi_wp2;go_end0;exact⟨⟨_,rfl⟩,a.o⟩|succ k=>have b:(((k+1:Nat):Int)-1)=(k:Int):=oqo;rw[b];have t:¬(k:Int)<0:=oqo;have u:(0:Int)<=(k:Int):=oqo;have w:(k:Int)<(m:Int):=oqo;have y:IntKind.i64.wrap ((k:Int)-1)=(k:Int)-1:=jqs _ oqo;have c2:=(hJ _ _ a.o).1.cell 0;simp only[jxy,List.getElem?_cons_zero]at c2;obtain⟨fn,tmps,assign,body,p,h⟩:=hY k wr oqo a.o;have HR:=hqh h;have f:=hqh p;have c:=hqh ((hJ _ _ a.o).2 k oqo);gi_wp2_with(refine wZ (λ_=>trivial) rfl 71 (.tmp 15) rfl g (o+k*10) rfl _ _ c.o Tryz.underlying71 rfl (by rw[jqh,j];kernel_rfl) ?_;simp only[qqa,jzg]);refine HR.o.mono ?_;rintro e s⟨rfl,hj⟩;have d:=hqh hj;clear HR f c c2 hj;gi_wp2;exact⟨⟨k,rfl,by omega,d⟩,by show((k:Int)-1+1).toNat<((k:Int)+1).toNat;omega⟩
def eP(f:Nat->Nat)(x:Nat):Bool:=decide (x<256)&&(f (x/64)).testBit (x%64)
def okL(f:Nat->Nat):Prop:=∀q,q<4->f q<2^64
def mV:Nat->Nat:=λ_=>0
def orL(a b:Nat->Nat):Nat->Nat:=λq=>a q|||b q
def oH(f:Nat->Nat)(x:Nat):Nat->Nat:=λq=>if q=x/64 then f q|||2^(x%64)else f q
def yj(f:Nat->Nat)(x:Nat):Nat->Nat:=λq=>if q=x/64 then vM (f q) (x%64)else f q
theorem HZ:okL mV:=λ_ _=>by show 0<_;decide
theorem WC{a b:Nat->Nat}(ha:okL a)(d:okL b):okL (orL a b):=λq c=>Nat.or_lt_two_pow (ha q c) (d q c)
theorem UF{f:Nat->Nat}(h:okL f)(x:Nat):okL (oH f x):=λq a=>by
 unfold oH;split;·exact Nat.or_lt_two_pow (h q a) (Nat.pow_lt_pow_right (by decide) (Nat.mod_lt _ (by decide)))
 ·exact h q a
theorem Vd{f:Nat->Nat}(h:okL f)(x:Nat):okL (yj f x):=λq a=>by
 unfold yj;split;·unfold vM;exact BitVec.isLt _
 ·exact h q a
theorem xY(x:Nat):eP mV x=false:=by unfold eP mV;simp
theorem RU(a b:Nat->Nat)(x:Nat):eP (orL a b) x=(eP a x||eP b x):=by unfold eP orL;rw[Nat.testBit_or];cases decide (x<256)<;>simp
theorem PT(f:Nat->Nat){x:Nat}(b:x<256)(y:Nat):eP (oH f x) y=(eP f y||decide (y=x)):=by
 unfold eP oH;by_cases a:y<256
 ·simp only[a,decide_true,jzs];by_cases e:y/64=x/64;·rw[qzb e,Nat.testBit_or,Nat.testBit_two_pow];congr 1;rw[qjc];omega
  ·rw[qzc e];have:decide (y=x)=false:=qqt (by rintro rfl;exact e rfl);rw[this,Bool.or_false]
 ·have:decide (y=x)=false:=qqt oqo;simp[a,this]
theorem Pf(L r j:Nat)(hj:j<64)(a:L<2^64):(vM L r).testBit j=(L.testBit j&&!decide (j=r)):=by unfold vM;rw[BitVec.testBit_toNat];simp only[BitVec.getLsbD_and,BitVec.getLsbD_not,BitVec.getLsbD_ofNat,hj,decide_true,jzs,Nat.testBit_two_pow];congr 2;rw[qjc];exact eq_comm
theorem Qr(f:Nat->Nat)(h:okL f){x:Nat}(b:x<256)(y:Nat):eP (yj f x) y=(eP f y&&!decide (y=x)):=by
 unfold eP yj;by_cases a:y<256
 ·simp only[a,decide_true,jzs];by_cases e:y/64=x/64;·rw[qzb e,Pf _ _ _ (Nat.mod_lt _ (by decide)) (h _ oqo)];congr 2;rw[qjc];omega
  ·rw[qzc e];have:decide (y=x)=false:=qqt (by rintro rfl;exact e rfl);rw[this];simp
 ·simp[a]
theorem NJ{f:Nat->Nat}{x:Nat}(h:eP f x=true):x<256:=by unfold eP at h;simp only[qqn,qqu]at h;exact h.1
theorem Pg{f g:Nat->Nat}(hf:okL f)(b:okL g)(h:∀x,eP f x=eP g x)(q:Nat)(a:q<4):f q=g q:=by
 apply jzf;intro j;by_cases hj:j<64;·have:=h (64*q+j);unfold eP at this;have h1:64*q+j<256:=oqo;rw[show(64*q+j)/64=q by omega,show(64*q+j)%64=j by omega]at this;simpa [h1]using this
 ·rw[Nat.testBit_lt_two_pow (qzj (hf q a) (Nat.pow_le_pow_right (by decide) oqo)),Nat.testBit_lt_two_pow (qzj (b q a) (Nat.pow_le_pow_right (by decide) oqo))]
def SB(S:Nat->Nat->Nat):Nat->Nat->Bool:=λi x=>eP (S i) x
def mX(S:Nat->Nat->Nat)(a:List Nat):Nat->Nat:=a.foldl (λs k=>orL s (S k)) mV
def mY(s:Nat->Nat)(x:In):Nat->Nat:=match bG x with|some v=>yj s v.toNat|none=>s
def qQ(s:Nat->Nat)(us:List Int):Nat->Nat:=us.foldl (λs u=>oH s u.toNat) s
def gT(S:Nat->Nat->Nat)(x:In)(i:Nat):Nat->Nat:=qQ (mY (mX S (bN x i)) x) (di x)
structure jM(x:In):Prop where
 use:∀u∈di x,0<=u/\u<256
 put:∀v,bG x=some v->0<=v/\v<256
theorem Bq(S:Nat->Nat->Nat):∀(a:List Nat)(s:Nat->Nat)(x:Nat),eP (a.foldl (λs k=>orL s (S k)) s) x=(eP s x||a.any λk=>eP (S k) x)|[],s,x=>by simp|k::a,s,x=>by rw[List.foldl_cons,Bq S a,RU,List.any_cons,Bool.or_assoc]
theorem zu(S:Nat->Nat->Nat)(hS:∀i,okL (S i)):∀(a:List Nat)(s:Nat->Nat),okL s->okL (a.foldl (λs k=>orL s (S k)) s)|[],_,h=>h|k::a,_,h=>zu S hS a _ (WC h (hS k))
theorem E9:∀(us:List Int)(s:Nat->Nat)(x:Nat),(∀u∈us,0<=u/\u<256)->eP (us.foldl (λs u=>oH s u.toNat) s) x=(eP s x||us.any λu=>u==(x:Int))|[],s,x,_=>by simp|u::us,s,x,h=>by have hu:=h u (by simp);rw[List.foldl_cons,E9 us _ x (λv hv=>h v (by simp[hv])),PT _ oqo,List.any_cons,Bool.or_assoc];congr 2;rw[qzd,qqu,jqz];omega
theorem qV:∀(us:List Int)(s:Nat->Nat),okL s->okL (us.foldl (λs u=>oH s u.toNat) s)|[],_,h=>h|u::us,_,h=>qV us _ (UF h _)
section
variable {l:List In}{S:Nat->Nat->Nat}{x:In}{i:Nat}
theorem wV(hS:∀i,okL (S i))(a:List Nat):okL (mX S a):=zu S hS _ _ HZ
theorem Io{s:Nat->Nat}(h:okL s)(x:In):okL (mY s x):=by
 unfold mY;split;·exact Vd h _
 ·exact h
theorem look_ok(hS:∀i,okL (S i))(x:In)(i:Nat):okL (gT S x i):=qV _ _ (Io (wV hS _) x)
theorem yc(hS:∀i,okL (S i))(b:l[i]? =some x)(hv:jM x)(y:Nat):eP (gT S x i) y=iX l (SB S) i y:=by
 unfold gT qQ;rw[E9 _ _ _ hv.use];unfold iX;rw[b];simp only;rw[Bool.or_comm];congr 1;unfold mY
 cases a:bG x with|none=>
  simp only;unfold mX;rw[Bq,xY,Bool.false_or];have:((none:Option Int)!=some (y:Int))=true:=by simp
  rw[this,jzs];rfl|some v=>
  have c:=hv.put v a;simp only;rw[Qr _ (wV hS _) oqo,Bool.and_comm];unfold mX;rw[Bq,xY,Bool.false_or];have:(!decide (y=v.toNat))=(some v !=some (y:Int)):=by rw[qzd];simp only[qjj,jzl,jxl,ne_eq,qzk];omega
  rw[this];rfl
def jq(S:Nat->Nat->Nat)(i:Nat)(s:Nat->Nat):Nat->Nat->Nat:=λk=>if k=i then s else S k
theorem Uz(hS:∀i,okL (S i)){s:Nat->Nat}(h:okL s)(k:Nat):okL (jq S i s k):=by
 unfold jq;split;·exact h
 ·exact hS k
theorem vo(h:kD l (SB S))(hS:∀i,okL (S i))(b:l[i]? =some x)(hv:jM x)(k y:Nat)(a:SB S k y=true):SB (jq S i (gT S x i)) k y=true:=by
 unfold SB jq;by_cases e:k=i;·subst e;rw[qzb rfl,yc hS b hv];exact h.post _ _ a
 ·rw[qzc e];exact a
theorem Nb(h:kD l (SB S))(hS:∀i,okL (S i))(b:l[i]? =some x)(hv:jM x):kD l (SB (jq S i (gT S x i))):=h.step (λk y=>vo h hS b hv k y) λk y a=>by
  unfold SB jq at a;by_cases e:k=i;·subst e;rw[qzb rfl,yc hS b hv]at a;exact Or.inr a
  ·rw[qzc e]at a;exact Or.inl a
theorem Nr(h:kD l (SB S))(hS:∀i,okL (S i))(b:l[i]? =some x)(hv:jM x){q:Nat}(f:q<4)(d:gT S x i q≠S i q){n:Nat}(hn:i<n):kE (SB (jq S i (gT S x i))) 256 n<kE (SB S) 256 n:=by
 obtain⟨y,a⟩:∃y,eP (gT S x i) y≠eP (S i) y:=jqy λc=>d (Pg (look_ok hS x i) (hS i) (λy=>jqy λc2=>c ⟨y,c2⟩) q f);have h0:eP (S i) y=false:=by cases e:eP (S i) y with|false=>rfl|true=>have:=vo h hS b hv i y e;unfold SB jq at this;rw[qzb rfl]at this;rw[this,e]at a;exact absurd rfl a
 have h1:eP (gT S x i) y=true:=by cases e:eP (gT S x i) y with|true=>rfl|false=>rw[e,h0]at a;exact absurd rfl a
 refine Fa (i:=i) (v:=y) (vo h hS b hv) (NJ h1) h0 ?_ n hn;unfold SB jq;rw[qzb rfl];exact h1
theorem O8(h:kD l (SB S))(hS:∀i,okL (S i))(hv:∀x∈l,jM x)(hf:∀i x,l[i]? =some x->∀q,q<4->gT S x i q=S i q)(i v:Nat):SB S i v=true↔Live l i (v:Int):=h.all (λi v k=>by cases a:l[i]? with|none=>unfold iX at k;rw[a]at k;simp at k|some x=>have k2:=k;rw[<-yc hS a (hv x (qqr a))]at k2;have b:=NJ k2;unfold SB;unfold eP at k2⊢;rw[hf i x a _ oqo]at k2;exact k2) i v
end
def jr(S:Nat->Nat->Nat)(m:Nat):Array Value:=((List.range (m*4)).map λj=>Value.int .u64 ((S (j/4) (j%4):Nat):Int)).toArray
def dw(W:World)(g m:Nat)(S:Nat->Nat->Nat):Prop:=Blk W g 136 (jr S m)
section
variable {W W':World}{g m i q:Nat}{S:Nat->Nat->Nat}
theorem xM(hi:i<m)(a:q<4):(jr S m)[i*4+q]? =some (.int .u64 ((S i q:Nat):Int)):=by unfold jr;rw[jxy,qqp,qqz oqo,jqb,show(i*4+q)/4=i by omega,show(i*4+q)%4=q by omega]
theorem dw.cell(h:dw W g m S)(hi:i<m)(a:q<4):W.cell? ⟨g,i*4+q,none⟩=some (.int .u64 ((S i q:Nat):Int)):=by rw[Blk.cell h,xM hi a]
theorem dw.range(h:dw W g m S)(hi:i<m):W.rangeAt g (i*4) (aZ (S i)).toList:=λj v hv=>by have hj:j<4:=(qqi.1 hv).1;have:=gz (S i) hj;rw[<-qjf,hv]at this;rw[h.cell hi hj,this]
theorem dw.there(h:dw W g m S)(hi:i<m):W.there g (i*4) 4:=λj hj=>⟨by rw[h.cell hi hj];rfl,Blk.free h _⟩
theorem dw.put(h:dw W g m S)(hi:i<m)(f:Nat->Nat):dw (W.setCells g (i*4) (aZ f).toList) g m (jq S i f):=by
 have h1:=(((Blk.put h (i*4) (.int .u64 ((f 0:Nat):Int))).put (i*4+1) (.int .u64 ((f 1:Nat):Int))).put (i*4+2) (.int .u64 ((f 2:Nat):Int))).put (i*4+3) (.int .u64 ((f 3:Nat):Int));have e:((((jr S m).setIfInBounds (i*4) (.int .u64 ((f 0:Nat):Int))).setIfInBounds (i*4+1) (.int .u64 ((f 1:Nat):Int))).setIfInBounds (i*4+2) (.int .u64 ((f 2:Nat):Int))).setIfInBounds (i*4+3) (.int .u64 ((f 3:Nat):Int))=jr (jq S i f) m:=by
  apply Array.ext_getElem?;intro j;have a:∀S,(jr S m).size=m*4:=λS=>by simp[jr]
  by_cases hj:j<m*4
  ·have b:(jr (jq S i f) m)[j]? =some (.int .u64 ((jq S i f (j/4) (j%4):Nat):Int)):=by have:=xM (S:=jq S i f) (show j/4<m by omega) (show j%4<4 by omega);rwa[show j/4*4+j%4=j by omega]at this
   have c:(jr S m)[j]? =some (.int .u64 ((S (j/4) (j%4):Nat):Int)):=by have:=xM (S:=S) (show j/4<m by omega) (show j%4<4 by omega);rwa[show j/4*4+j%4=j by omega]at this
   rw[b];simp only[qzy,Array.size_setIfInBounds,a,c];unfold jq;by_cases h3:i*4+3=j;·rw[qzb h3,qzb oqo,qzb (show j/4=i by omega),show j%4=3 by omega]
   ·rw[qzc h3];by_cases h2:i*4+2=j;·rw[qzb h2,qzb oqo,qzb (show j/4=i by omega),show j%4=2 by omega]
    ·rw[qzc h2];by_cases h1:i*4+1=j;·rw[qzb h1,qzb oqo,qzb (show j/4=i by omega),show j%4=1 by omega]
     ·rw[qzc h1];by_cases h0:i*4=j;·rw[qzb h0,qzb oqo,qzb (show j/4=i by omega),show j%4=0 by omega]
      ·rw[qzc h0,qzc oqo]
  ·rw[jzv (by simp only[Array.size_setIfInBounds,a];omega),jzv (by rw[a];omega)]
 rw[e]at h1;exact h1
theorem xg(W:World)(g o:Nat)(f:Nat->Nat):KO (λk=>k=g) W (W.setCells g o (aZ f).toList):=(((KO.set (O:=λk=>k=g) (a:=⟨g,o,none⟩) rfl _).trans (KO.set (O:=λk=>k=g) (a:=⟨g,o+1,none⟩) rfl _)).trans (KO.set (O:=λk=>k=g) (a:=⟨g,o+2,none⟩) rfl _)).trans (KO.set (O:=λk=>k=g) (a:=⟨g,o+3,none⟩) rfl _)
theorem MJ{n m b:Nat}(h:W.ownsRow n 136 4 (.slice (some ⟨b,0,none⟩) m m) m (List.replicate (m*4) (.int .u64 0)))(hm:0<m):dw W b m λ_=>mV:=by
 obtain⟨_,⟨e,_⟩|⟨g,cap,o,e,_,f,_,_,k,c⟩⟩:=h;·cases e
 ·injection e with a _ d;injection a with a;injection a with a;subst a;subst d;unfold dw Blk;rw[f];congr 2;apply jxj;rw[jqc (by simp[k])]at c;rw[c];unfold jr;rw[List.toList_toArray];apply jqq;intro j;rw[qqp,qzt];by_cases hj:j<m*4;·rw[qzb hj,qqz hj];rfl
  ·rw[qzc hj,qza (by simp;omega)];rfl
end
theorem Oz:(Tryz.prog.info? 136).map (λi=>(i.zero,i.size,i.bytes))=some (some (.agg #[.int .u64 0,.int .u64 0,.int .u64 0,.int .u64 0]),4,32):=kqk
structure CQ(l:List In)(n:Nat)(S0:Nat->Nat->Nat)(k:Nat)(S:Nat->Nat->Nat)(b:Bool):Prop where
 ok:∀i,okL (S i)live:kD l (SB S)same:b=false->S=S0/\∀i x,k<=i->l[i]? =some x->∀q,q<4->gT S x i q=S i q
 less:b=true->kE (SB S) 256 (n+1)<kE (SB S0) 256 (n+1)
theorem Ku{S:Nat->Nat->Nat}{k:Nat}{s:Nat->Nat}(h:∀q,q<4->s q=S k q)(m:Nat):jr (jq S k s) m=jr S m:=by
 unfold jr;congr 1;refine jqg λj _=>?_;unfold jq;by_cases e:j/4=k;·rw[qzb e,h _ (Nat.mod_lt _ (by decide)),e]
 ·rw[qzc e]
theorem CQ.step{l:List In}{n k:Nat}{S0 S:Nat->Nat->Nat}{b:Bool}(h:CQ l n S0 (k+1) S b){x:In}(o:l[k]? =some x)(hv:jM x)(hk:k<n+1)(d:Bool)(hd:d=true↔¬∀q,q<4->gT S x k q=S k q): ∃p,jr p (n+1)=jr (jq S k (gT S x k)) (n+1)/\CQ l n S0 k p (b||d):=by
 cases d with|false=>
  have he:∀q,q<4->gT S x k q=S k q:=jqy λc=>by have:=hd.2 c;cases this
  refine⟨S,(Ku he _).symm,h.ok,h.live,λa=>?_,λa=>?_⟩
  ·rw[Bool.or_false]at a;obtain⟨h1,h2⟩:=h.same a;refine⟨h1,λi y hi f=>?_⟩;by_cases e:i=k;·subst e;rw[o]at f;injection f with f;subst f;exact he
   ·exact h2 i y oqo f
  ·rw[Bool.or_false]at a;exact h.less a|true=>have r:=hd.1 rfl;obtain⟨q,j,s⟩:∃q,q<4/\gT S x k q≠S k q:=jqy λc=>r λq j=>jqy λc2=>c ⟨q,j,c2⟩;refine⟨jq S k (gT S x k),rfl,λi=>Uz h.ok (look_ok h.ok x k) i,Nb h.live h.ok o hv,λa=>by simp at a,λ_=>?_⟩;have h1:=Nr h.live h.ok o hv j s hk;cases b with|true=>exact Nat.lt_trans h1 (h.less rfl)|false=>rw[(h.same rfl).1]at h1⊢;exact h1
structure VM(l:List In)(N n g4 L:Nat)(RC:LoopState->Option Code->Loop)(S0:Nat->Nat->Nat)(W0:World)(k:Nat)(S:Nat->Nat->Nat)(b:Bool)(W:World):Prop where
 ko:KO (λi=>i=N+1\/i=g4\/i=L) W0 W
 o:dw W (N+1) (n+1) S
 again:Blk W g4 4 #[.bool b]loop:W.heap[L]? =some (.loop (RC .ready none))q:CQ l n S0 k S b
def kW(w:World)(b o:Nat)(a:Addr):Prop:=w.cell? ⟨b,o,none⟩=some (.pointer (some a))
def qC(w:World)(v:Value)(l:List Addr):Prop:=iW 1 kW w v l
def eB(g:InV):Array Value:=#[.int .u8 g.1.op,.int .i64 g.1.v,.int .i64 g.1.a,.int .i64 g.1.b,.int .i64 g.1.n,.int .u8 g.1.bin,g.2,.int .i64 g.1.f,.int .i64 g.1.arr,.int .i64 g.1.to]
theorem iN(x:In)(av:Value)(c:Nat)(w:World)(h:Blk w c 71 (eB ⟨x,av⟩))(ho:x.op∈[2,4,6,7,9,10,12,14]):Calls Tryz.prog 135 #[.pointer (some ⟨c,0,none⟩)] w λe w'=>(∃sl,e=.returned sl/\qC w' sl [⟨c,2,none⟩])/\Below w.heap.size w w':=by obtain⟨op,v,a,b,n,bin,args,f,arr,t⟩:=x;have k0:w.cell? ⟨c,0,none⟩=some (.int .u8 (op:Nat)):=h.cell 0;have lb:=h.lt;clear h;simp only[qzh,qjh,jxo]at ho;rcases ho with rfl|rfl|rfl|rfl|rfl|rfl|rfl|rfl<;>(go_enter Tryz.func135,Tryz.ntmps135;go_wp2_with fail;go_ret;refine⟨⟨_,rfl,⟨_,_,rfl,qqf _,Or.inr ⟨_,_,rfl,λi y d=>?_⟩⟩⟩,(qjk _ _).alloc (qqf _) _⟩;cases i with|succ i=>simp at d|zero=>simp at d;subst d;simp[kW])
theorem qp(x:In)(av:Value)(c:Nat)(w:World)(h:Blk w c 71 (eB ⟨x,av⟩))(ho:x.op∈[0,1,8,13]):Calls Tryz.prog 135 #[.pointer (some ⟨c,0,none⟩)] w λe w'=>(∃sl,e=.returned sl/\qC w' sl [])/\Below w.heap.size w w':=by obtain⟨op,v,a,b,n,bin,args,f,arr,t⟩:=x;have k0:w.cell? ⟨c,0,none⟩=some (.int .u8 (op:Nat)):=h.cell 0;have lb:=h.lt;clear h;simp only[qzh,qjh,jxo]at ho;rcases ho with rfl|rfl|rfl|rfl<;>(go_enter Tryz.func135,Tryz.ntmps135;go_wp2_with fail;go_ret;exact⟨⟨_,rfl,⟨_,_,rfl,qqf _,Or.inl rfl⟩⟩,qjk _ _⟩)
theorem uH(x:In)(av:Value)(j:Nat)(w:World)(h:Blk w j 71 (eB ⟨x,av⟩))(ho:x.op=3\/x.op=5):Calls Tryz.prog 135 #[.pointer (some ⟨j,0,none⟩)] w λe w'=>(∃sl,e=.returned sl/\qC w' sl [⟨j,2,none⟩,⟨j,3,none⟩])/\Below w.heap.size w w':=by obtain⟨op,v,a,b,n,bin,args,f,arr,t⟩:=x;have k0:w.cell? ⟨j,0,none⟩=some (.int .u8 (op:Nat)):=h.cell 0;have lb:=h.lt;clear h;simp only at ho;rcases ho with rfl|rfl<;>
 (go_enter Tryz.func135,Tryz.ntmps135;go_upto_region 13 with fail;refine wp_region_draw [true,true,true,true,true,true,false,false] (λW=>Below w.heap.size w W) 2 bY (λ_ a s _ hd h=>by cases a;cases s;cases hd;exact h) kqk (λ_ _ h=>h) ?_;iterate 6 refine aI (λK d=>?_);rw[qzb kqk];refine⟨_,λZ z=>(by go_simp;rfl),?_⟩;simp only[qqa];refine d _ ?_;clear d
  refine aV (aV (aW ?_));intro vs r k u o;refine aF 6 rfl kqk (λp d=>?_);go_simp;refine d.o _ _ (Or.inr ((k.o 6).trans kqk)) ?_;clear d;refine aF 7 rfl kqk (λp d=>?_);go_simp;refine d.o _ _ (Or.inr ((k.o 7).trans kqk)) ?_;clear d;refine aH kqk ?_;go_wp2_with fail;go_ret;have hs:=o.size;refine⟨⟨_,rfl,⟨_,_,rfl,qqf _,Or.inr ⟨_,_,rfl,λi y c=>?_⟩⟩⟩,o.alloc oqo _⟩;have hz:r.heap.size=w.heap.size:=by rw[u]
  match i,c with|0,c=>simp at c;subst c;simp[kW,<-hz]|1,c=>simp at c;subst c;simp[kW,<-hz]|i+2,c=>simp at c)
theorem NT:(Tryz.prog.info? 189).map (λi=>(i.zero,i.size,i.bytes))=some (some (.pointer none),1,8):=kqk
def adS(a b n:Nat):List Addr:=(List.range n).map λi=>⟨a,b+i,none⟩
def yK(a:Addr):List Value:=[.pointer (some a)]
theorem QX(a b n:Nat):adS a b (n+1)=adS a b n++[⟨a,b+n,none⟩]:=by unfold adS;rw[List.range_succ,jxf];rfl
theorem Cg(v a b m:Int)(bin:Nat)(f arr t:Int)(args:List Int)(c d n r:Nat)(A:Option Addr)(D:0<n->A=some ⟨c,d,none⟩)(hn:n<=1000)(o:Nat)(w:World)(h:Blk w o 71 (eB ⟨⟨11,v,a,b,m,bin,args,f,arr,t⟩,.slice A n r⟩)):Calls Tryz.prog 135 #[.pointer (some ⟨o,0,none⟩)] w λe w'=>(∃sl,e=.returned sl/\w'.ownsRow w.heap.size 189 1 sl n ((adS c d n).flatMap yK))/\Below w.heap.size w w':=by
 have k0:w.cell? ⟨o,0,none⟩=some (.int .u8 (11:Nat)):=h.cell 0;have k6:w.cell? ⟨o,6,none⟩=some (.slice A n r):=h.cell 6;have lb:=h.lt;have z:=hqh k6;clear h;obtain⟨L,G,I,J,K⟩:=jxw NT;go_enter Tryz.func135,Tryz.ntmps135;go_wp2_with fail;clear k0 k6;go_loopg [3,39]n(λgk v3 v wr=>∃i:Nat,i<=n/\n-i<=gk/\v=.int .i64 i/\Hid (wr.ownsRow w.heap.size 189 1 v3 i ((adS c d i).flatMap yK))/\Hid (Below w.heap.size w wr));case atStart=>exact⟨0,qqy _,qqf _,rfl,hqh ⟨by simp[adS],Or.inl ⟨rfl,rfl⟩⟩,hqh (qjk _ _)⟩
 case round=>
  obtain⟨i,hi,O,rfl,p,k⟩:=hrel;by_cases Q:i<n;case neg=>have q:decide ((i:Int)<(n:Int))=false:=qqt oqo;have H:i=n:=oqo;go_wp2_with fail;go_ret;subst H;exact⟨⟨_,rfl,p.o⟩,k.o⟩
  case pos=>have q:decide ((i:Int)<(n:Int))=true:=qqx oqo;have P:(i:Int)<(n:Int):=oqo;have E:=D oqo;subst E;have k6:=aa k.o z.o;have R:=aK k6;have F:=k.o.size;go_wp2_with(at_builtin;refine jxn _ rfl _ _ 186 rfl w.heap.size 189 L (.pointer none) 1 8 Tryz.underlying186 G I J K rfl (by decide) _ _ _ rfl (own_below p.o ((qjk _ _).alloc (qqf _) _)) ⟨wr.heap.size,0,none⟩ 1 1 [.pointer (some ⟨c,d+i,none⟩)] rfl rfl (λj u hu=>?_) (λu hu=>by simp at hu;subst hu;rfl) (by unfold maxLen;omega) oqo (by simp;omega) ?_);intro M N y s _;have C:=hqh ((k.o.alloc F _).grown s (by simp;omega) (λq e=>(p.o.lt q e).1));have B:=hqh (show N.ownsRow w.heap.size 189 1 M (i+1) ((adS c d (i+1)).flatMap yK)by rw[QX,jzu];exact y);clear y s;go_wp2_with fail;cases gk with|zero=>omega|succ gk=>
    go_roundg gk;case measure=>omega
    case rel=>exact⟨i+1,by omega,by omega,by simp,B,C⟩
theorem Pj{w:World}{j n:Nat}{v:Value}{l:List Addr}(h:w.ownsRow j 189 1 v n (l.flatMap yK))(hn:l.length=n):qC w v l:=by
 have hl:∀l:List Addr,(l.flatMap yK)=l.map λa=>.pointer (some a):=λl=>by induction l with|nil=>rfl|cons a l ih=>rw[jqj,ih];rfl
 rw[hl]at h;obtain⟨_,⟨rfl,rfl⟩|⟨g,cap,c,rfl,o,d,k,_,p,f⟩⟩:=h;·have e:l=[]:=jxq.1 hn;subst e;exact⟨none,0,rfl,qqy _,Or.inl rfl⟩
 ·refine⟨some ⟨g,0,none⟩,cap,by rw[hn],by omega,Or.inr ⟨g,0,rfl,λi x b=>?_⟩⟩;have hi:=(qqi.1 b).1;unfold kW;have h1:(c.toList.take (n*1))[i]? =some (.pointer (some x)):=by rw[f,qqp,b];rfl
  rw[qzw,qzb oqo]at h1;unfold World.cell?;rw[show 0+i*1=i by omega];simp only[d];simpa using h1
theorem Cb(g:InV)(d:Nat)(w:World)(h:Blk w d 71 (eB g))(ho:g.1.op<15)(ha:ay w g.2 g.1.args)(hn:g.1.args.length<=1000):Calls Tryz.prog 135 #[.pointer (some ⟨d,0,none⟩)] w λe w'=>(∃sl ps,e=.returned sl/\qC w' sl ps/\ps.length=(di g.1).length/\∀(j:Nat)(p:Addr)(u:Int),ps[j]? =some p->(di g.1)[j]? =some u->p.spot=none/\w.cell? ⟨p.block,p.off,none⟩=some (.int .i64 u))/\Below w.heap.size w w':=by
 obtain⟨⟨op,v,a,b,n,bin,args,f,arr,t⟩,av⟩:=g;simp only at ho hn ha;have C:w.cell? ⟨d,2,none⟩=some (.int .i64 a):=h.cell 2;have F:w.cell? ⟨d,3,none⟩=some (.int .i64 b):=h.cell 3;by_cases y:op∈[2,4,6,7,9,10,12,14]
 ·have hu:di ⟨op,v,a,b,n,bin,args,f,arr,t⟩=[a]:=by simp only[qzh,qjh,jxo]at y;rcases y with rfl|rfl|rfl|rfl|rfl|rfl|rfl|rfl<;>rfl
  rw[hu];refine(iN ⟨op,v,a,b,n,bin,args,f,arr,t⟩ av d w h y).mono ?_;rintro e w'⟨⟨sl,he,s⟩,r⟩;refine⟨⟨sl,_,he,s,rfl,λj p u hj hu=>?_⟩,r⟩;cases j with|zero=>simp at hj hu;subst hj;subst hu;exact⟨rfl,C⟩|succ j=>simp at hj
 ·by_cases D:op=3\/op=5
  ·have hu:di ⟨op,v,a,b,n,bin,args,f,arr,t⟩=[a,b]:=by rcases D with rfl|rfl<;>rfl
   rw[hu];refine(uH ⟨op,v,a,b,n,bin,args,f,arr,t⟩ av d w h D).mono ?_;rintro e w'⟨⟨sl,he,s⟩,r⟩;refine⟨⟨sl,_,he,s,rfl,λj p u hj hu=>?_⟩,r⟩;rcases j with _|_|j;·simp at hj hu;subst hj;subst hu;exact⟨rfl,C⟩
   ·simp at hj hu;subst hj;subst hu;exact⟨rfl,F⟩
   ·simp at hj
  ·by_cases G:op=11
   ·subst G;have hu:di ⟨11,v,a,b,n,bin,args,f,arr,t⟩=args:=rfl;rw[hu];obtain⟨A,c,rfl,hc,hr⟩:=ha;obtain⟨k,o,y,B⟩:∃k o,(0<args.length->A=some ⟨k,o,none⟩)/\∀i x,args[i]? =some x->iP w k (o+i*1) x:=by
     rcases hr with e|⟨k,o,e,B⟩;·exact⟨0,0,λh=>by rw[e]at h;exact absurd h (by simp),λi x h=>by rw[e]at h;simp at h⟩
     ·exact⟨k,o,λ_=>e,B⟩
    refine(Cg v a b n bin f arr t args k o args.length c A y hn d w h).mono ?_;rintro e w'⟨⟨sl,he,s⟩,r⟩;have E:(adS k o args.length).length=args.length:=by unfold adS;simp
    refine⟨⟨sl,_,he,Pj s E,E,λj p u hj hu=>?_⟩,r⟩;have H:j<args.length:=(qqi.1 hu).1;unfold adS at hj;rw[qqp,qqz H]at hj;simp at hj;subst hj;have:=B j u hu;unfold iP at this;rw[jzb]at this;exact⟨rfl,this⟩
   ·have z:op∈[0,1,8,13]:=by simp only[qzh,qjh,jxo]at y⊢;omega
    have hu:di ⟨op,v,a,b,n,bin,args,f,arr,t⟩=[]:=by simp only[qzh,qjh,jxo]at z;rcases z with rfl|rfl|rfl|rfl<;>rfl
    rw[hu];refine(qp ⟨op,v,a,b,n,bin,args,f,arr,t⟩ av d w h z).mono ?_;rintro e w'⟨⟨sl,he,s⟩,r⟩;exact⟨⟨sl,_,he,s,rfl,λj p u hj _=>by simp at hj⟩,r⟩
def bS:Array Value:=#[.int .u8 0,.int .i64 0,.int .i64 0,.int .i64 0,.int .i64 0,.int .u8 0,.slice none 0 0,.int .i64 0,.int .i64 0,.int .i64 0]
theorem Blk.ja{W:World}{g:Nat}(h:Blk W g 71 bS)(v0 v1 v2 v3 v4 v5 v6 a b v9:Value):Blk ((((((((((W.setCell ⟨g,0,none⟩ v0).setCell ⟨g,1,none⟩ v1).setCell ⟨g,2,none⟩ v2).setCell ⟨g,3,none⟩ v3).setCell ⟨g,4,none⟩ v4).setCell ⟨g,5,none⟩ v5).setCell ⟨g,6,none⟩ v6).setCell ⟨g,7,none⟩ a).setCell ⟨g,8,none⟩ b).setCell ⟨g,9,none⟩ v9) g 71 #[v0,v1,v2,v3,v4,v5,v6,a,b,v9]:=by have h2:=(((((((((h.put 0 v0).put 1 v1).put 2 v2).put 3 v3).put 4 v4).put 5 v5).put 6 v6).put 7 a).put 8 b).put 9 v9;have e:(((((((((bS.setIfInBounds 0 v0).setIfInBounds 1 v1).setIfInBounds 2 v2).setIfInBounds 3 v3).setIfInBounds 4 v4).setIfInBounds 5 v5).setIfInBounds 6 v6).setIfInBounds 7 a).setIfInBounds 8 b).setIfInBounds 9 v9=#[v0,v1,v2,v3,v4,v5,v6,a,b,v9]:=kqk;rw[e]at h2;exact h2
theorem dn{w W:World}{g:Nat}(h:Below w.heap.size w W)(a:w.heap.size<=g)(v0 b c v3 v4 v5 d e f v9:Value):Below w.heap.size w ((((((((((W.setCell ⟨g,0,none⟩ v0).setCell ⟨g,1,none⟩ b).setCell ⟨g,2,none⟩ c).setCell ⟨g,3,none⟩ v3).setCell ⟨g,4,none⟩ v4).setCell ⟨g,5,none⟩ v5).setCell ⟨g,6,none⟩ d).setCell ⟨g,7,none⟩ e).setCell ⟨g,8,none⟩ f).setCell ⟨g,9,none⟩ v9):=(((((((((h.setCell (p:=⟨g,0,none⟩) a v0).setCell (p:=⟨g,1,none⟩) a b).setCell (p:=⟨g,2,none⟩) a c).setCell (p:=⟨g,3,none⟩) a v3).setCell (p:=⟨g,4,none⟩) a v4).setCell (p:=⟨g,5,none⟩) a v5).setCell (p:=⟨g,6,none⟩) a d).setCell (p:=⟨g,7,none⟩) a e).setCell (p:=⟨g,8,none⟩) a f).setCell (p:=⟨g,9,none⟩) a v9
theorem bZ(w:World):ay w (.slice none 0 0) []:=⟨none,0,rfl,qqy _,Or.inl rfl⟩
theorem JX(w:World)(c1 c c2 c3:Array Value):Blk ((((w.alloc (.cells c1 71)).alloc (.cells c 71)).alloc (.cells c2 71)).alloc (.cells c3 71)) (w.heap.size+1) 71 c/\Below w.heap.size w ((((w.alloc (.cells c1 71)).alloc (.cells c 71)).alloc (.cells c2 71)).alloc (.cells c3 71)):=by
 refine⟨?_,?_⟩;·have:=Blk.new (w.alloc (.cells c1 71)) 71 c;rw[jqe]at this;exact(this.alloc _).alloc _
 ·exact(((((qjk w.heap.size w).alloc (qqf _) _).alloc (by simp only[jqe];omega) _).alloc (by simp only[jqe];omega) _).alloc (by simp only[jqe];omega) _)
theorem bx4(w:World)(a b c d e f:Int)(o:Option Addr)(n pz:Nat)(h j k:Int)(p r s t u v:Int)(C:Option Addr)(B D:Nat)(y z A:Int)(E F G H I J:Int)(O:Option Addr)(N P:Nat)(K L M:Int)(Q R T U V X:Int)(sx:Option Addr)(sk sz:Nat)(Y Z s9:Int):type_of%(JX w #[.int .u8 a,.int .i64 b,.int .i64 c,.int .i64 d,.int .i64 e,.int .u8 f,.slice o n pz,.int .i64 h,.int .i64 j,.int .i64 k] #[.int .u8 p,.int .i64 r,.int .i64 s,.int .i64 t,.int .i64 u,.int .u8 v,.slice C B D,.int .i64 y,.int .i64 z,.int .i64 A] #[.int .u8 E,.int .i64 F,.int .i64 G,.int .i64 H,.int .i64 I,.int .u8 J,.slice O N P,.int .i64 K,.int .i64 L,.int .i64 M] #[.int .u8 Q,.int .i64 R,.int .i64 T,.int .i64 U,.int .i64 V,.int .u8 X,.slice sx sk sz,.int .i64 Y,.int .i64 Z,.int .i64 s9]):=JX w _ _ _ _
theorem jb{w w1:World}{c1 c c2 c3:Array Value}(a:Below ((((w.alloc (.cells c1 71)).alloc (.cells c 71)).alloc (.cells c2 71)).alloc (.cells c3 71)).heap.size ((((w.alloc (.cells c1 71)).alloc (.cells c 71)).alloc (.cells c2 71)).alloc (.cells c3 71)) w1):Blk w1 (w.heap.size+1) 71 c/\Below w.heap.size w w1:=⟨(JX w c1 c c2 c3).1.below a,aU (JX w c1 c c2 c3).2 a⟩
structure Z10(W:World)(g:Nat):Prop where
 k0:W.cell? ⟨g,0,none⟩=some (.int .u8 0)k1:W.cell? ⟨g,1,none⟩=some (.int .i64 0)k2:W.cell? ⟨g,2,none⟩=some (.int .i64 0)k3:W.cell? ⟨g,3,none⟩=some (.int .i64 0)k4:W.cell? ⟨g,4,none⟩=some (.int .i64 0)k5:W.cell? ⟨g,5,none⟩=some (.int .u8 0)k6:W.cell? ⟨g,6,none⟩=some (.slice none 0 0)k7:W.cell? ⟨g,7,none⟩=some (.int .i64 0)k8:W.cell? ⟨g,8,none⟩=some (.int .i64 0)k9:W.cell? ⟨g,9,none⟩=some (.int .i64 0)f0:W.frozen? ⟨g,0,none⟩=false
 f1:W.frozen? ⟨g,1,none⟩=false
 f2:W.frozen? ⟨g,2,none⟩=false
 f3:W.frozen? ⟨g,3,none⟩=false
 f4:W.frozen? ⟨g,4,none⟩=false
 f5:W.frozen? ⟨g,5,none⟩=false
 f6:W.frozen? ⟨g,6,none⟩=false
 f7:W.frozen? ⟨g,7,none⟩=false
 f8:W.frozen? ⟨g,8,none⟩=false
 f9:W.frozen? ⟨g,9,none⟩=false
 lb:g<W.heap.size
theorem Blk.z10{W:World}{g:Nat}(B:Blk W g 71 bS):Z10 W g:=⟨B.cell 0,B.cell 1,B.cell 2,B.cell 3,B.cell 4,B.cell 5,B.cell 6,B.cell 7,B.cell 8,B.cell 9,B.free 0,B.free 1,B.free 2,B.free 3,B.free 4,B.free 5,B.free 6,B.free 7,B.free 8,B.free 9,B.lt⟩
theorem WR(a0 a b a3 b0 b1 b2 c:Int)(w:World):(Op.equalIn 10000 136 (.agg #[.int .u64 a0,.int .u64 a,.int .u64 b,.int .u64 a3]) (.agg #[.int .u64 b0,.int .u64 b1,.int .u64 b2,.int .u64 c])).run Tryz.prog w=.ok (a0==b0&&(a==b1&&(b==b2&&a3==c))) w:=by have u3:=Tryz.underlying105;have d:=Tryz.isAgg105;have z3:=Tryz.sizeOf105;rw[show(10000:Nat)=9999+1 from rfl,Op.equalIn];simp only[qjm,jqa Tryz.underlying136,qjl];simp only[Std.Legacy.Range.forIn_eq_forIn_range',Std.Legacy.Range.size,Nat.sub_zero,Nat.add_sub_cancel,Nat.div_one,List.range'_succ,List.range'_zero,List.forIn_cons,List.forIn_nil];go_simp;by_cases h0:a0=b0<;>by_cases h1:a=b1<;>by_cases h2:b=b2<;>by_cases h3:a3=c<;>simp[h0,h1,h2,h3]
def neL(s t:Nat->Nat):Bool:=!((s 0:Int)==(t 0:Int)&&((s 1:Int)==(t 1:Int)&&((s 2:Int)==(t 2:Int)&&(s 3:Int)==(t 3:Int))))
theorem Ic(s t:Nat->Nat):neL s t=true↔¬∀q,q<4->s q=t q:=by
 unfold neL;simp only[qjj,Bool.and_eq_false_iff,qqe,ne_eq];constructor
 ·intro h c;have c0:=c 0 (by decide);have c1:=c 1 (by decide);have c2:=c 2 (by decide);have c3:=c 3 (by decide);rcases h with h|h|h|h;·exact h (by rw[c0])
  ·exact h (by rw[c1])
  ·exact h (by rw[c2])
  ·exact h (by rw[c3])
 ·intro h;apply jqy;intro c;simp only[not_or,Classical.not_not]at c;apply h;intro q a;obtain⟨c0,c1,c2,c3⟩:=c;rcases q with _|_|_|_|q;·show s 0=t 0;omega
  ·show s 1=t 1;omega
  ·show s 2=t 2;omega
  ·show s 3=t 3;omega
  ·omega
