/- Joint text: OShD, OShE, OOwnL, OWithin, OGone. By an AI agent. -/
import Derived.Test.YtgdibfnpkcdiiaaGreatDoorRzy
import Derived.Test.YtgdibfnpkcdiiaaGreatDoorR22
import Derived.Test.YtgdibfnpkcdiiaaGreatDoorR23
import Derived.Test.YtgdibfnpkcdiiaaGreatDoorR01
set_option linter.all false
set_option maxRecDepth 100000
set_option maxHeartbeats 64000000
namespace Go.Proofs.YtgdibfnpkcdiiaaGreatDoor
open Go.RowKit Go.Maps
def lI(B:ae)(args:List Int)(i:Nat):List Int:=(args.take i).map B.root++args.drop i
theorem QJ(B:ae)(args:List Int)(i:Nat){x:Int}(h:args[i]? =some x):(lI B args i)[i]? =some x:=by have hi:=(qqi.1 h).1;unfold lI;rw[qze (by rw[qqv,jqm];omega),qqv,jqm,jzd oqo,jzj,jzq,qzz,h]
theorem IK(B:ae)(args:List Int)(i:Nat){x:Int}(h:args[i]? =some x):(lI B args i).set i (B.root x)=lI B args (i+1):=by have hi:=(qqi.1 h).1;unfold lI;rw[jzx _ _ (by rw[qqv,jqm];omega),qqv,jqm,jzd oqo,jzj,jqo hi,qqj,jqu,h];simp
theorem ints_set(l:List Int)(i:Nat)(x:Int):(l.flatMap dx).set i (.int .i64 x)=(l.set i x).flatMap dx:=by
 have e:∀l:List Int,l.flatMap dx=l.map λk=>Value.int .i64 k:=λl=>by induction l with|nil=>rfl|cons a l ih=>rw[jqj,ih];rfl
 rw[e,e,List.map_set]
theorem ints_at(l:List Int)(i:Nat):(l.flatMap dx)[i]? =(l[i]?).map λk=>Value.int .i64 k:=by
 have e:∀l:List Int,l.flatMap dx=l.map λk=>Value.int .i64 k:=λl=>by induction l with|nil=>rfl|cons a l ih=>rw[jqj,ih];rfl
 rw[e,qqp]
theorem Vw(b c n i:Nat)(h:i<n):((adS b c n).flatMap yK)[i]? =some (.pointer (some ⟨b,c+i,none⟩)):=by
 have e:∀l:List Addr,l.flatMap yK=l.map λk=>Value.pointer (some k):=λl=>by induction l with|nil=>rfl|cons a l ih=>rw[jqj,ih];rfl
 rw[e,adS,qzx,qqp,qqz h];rfl
theorem Iu(g b0 b1 b2 n:Nat)(B:ae)(gp:PrG)(v a b m:Int)(bin:Nat)(args:List Int)(f arr t:Int)(A:Option Addr)(d o:Nat)(w:World)(h:bQ w g b0 b1 b2 n B)(ha:okN a)(hg:∀u∈args,okN u)(o0:d=args.length)(hn:d<=1000)(ho:w.ownsRow 0 3 1 (.slice A d o) d (args.flatMap dx)):Calls Tryz.prog 154 #[.pointer (some ⟨g,0,none⟩),prV gp,ax ⟨⟨11,v,a,b,m,bin,args,f,arr,t⟩,.slice A d o⟩] w λe w'=>e=.returned (ax ⟨⟨11,v,a,b,m,bin,args.map B.root,f,arr,t⟩,.slice A d o⟩)/\w'.ownsRow 0 3 1 (.slice A d o) d ((args.map B.root).flatMap dx)/\KO (λk=>(Value.slice A d o).ownBlock=some k) w w':=by
 have H:=hqh h;have lg:=h.blk.lt;clear h;have HG:=hqh hg;have J:=hqh o0;have I:=hqh ho;obtain⟨p,hA⟩:∃p,0<d->A=some ⟨p,0,none⟩:=by
  rcases ho.2 with⟨hv,h0⟩|⟨g',cap,R,hv,_⟩;·exact⟨0,λc=>by omega⟩
  ·injection hv with e;exact⟨g',λ_=>e⟩
 clear hg o0 ho;obtain⟨⟨ga,gf,gm⟩,g1,i1,gl⟩:=gp;unfold prV;rw[show ax ⟨⟨11,v,a,b,m,bin,args,f,arr,t⟩,.slice A d o⟩=.agg #[.int .u8 (11:Nat),.int .i64 v,.int .i64 a,.int .i64 b,.int .i64 m,.int .u8 bin,.slice A d o,.int .i64 f,.int .i64 arr,.int .i64 t]from rfl];simp only[];go_enter Tryz.func154,Tryz.ntmps154;go_upto_region 1 with fail;have Q:=l9 w #[g1,i1,.int .i64 gm] #[.int .u8 (11:Nat),.int .i64 v,.int .i64 a,.int .i64 b,.int .i64 m,.int .u8 bin,.slice A d o,.int .i64 f,.int .i64 arr,.int .i64 t] bS;unfold bS at Q;generalize v1:((w.alloc _).alloc _).alloc _=w3 at Q⊢;clear v1;obtain⟨q1,q2,q3,q4⟩:=Q;have s0:=hqh q1;have N:=hqh q2;have Z:=hqh q3;have i0:=hqh q4;clear q1 q2 q3 q4;have TK:=Cg v a b m bin f arr t args p 0 d o A hA hn (w.heap.size+1) w3 N.o;go_wp2_with(first| (go_at_call 135;refine TK.mono ?_;rintro e w4⟨⟨sl,rfl,T⟩,m0⟩;obtain⟨pA,pc,t1⟩:=dN T;subst t1;have Y:=hqh T;have C:=hqh m0;clear T m0 TK)|fail);have s3:=i0.o.size;have s4:=C.o.size;have M:=hqh (i0.o.trans (C.o.mono s3));have q0:=hqh (own_below I.o M.o);have e1:=hqh (N.o.below C.o);have x0:=hqh (Z.o.below C.o);have s:=hqh (show∀k,(Value.slice A d o).ownBlock=some k->k<w.heap.size/\k≠g/\k≠b0/\k≠b1/\k≠b2 from λk hk=>by obtain⟨R,S⟩:=aT I.o hk;exact⟨(I.o.lt k hk).2,H.o.apart S (by decide)⟩);clear C N Z s0 I;go_loopg [17]d(λgk v wr=>∃i:Nat,i<=d/\d-i<=gk/\v=.int .i64 i/\Hid (wr.ownsRow 0 3 1 (.slice A d o) d ((lI B args i).flatMap dx))/\Hid (KO (λk=>(Value.slice A d o).ownBlock=some k) w4 wr));case atStart=>exact⟨0,qqy _,qqf _,rfl,by simpa [lI]using q0,hqh (KO.refl _ _)⟩
 case round=>
  obtain⟨i,hi,y1,rfl,D,y⟩:=hrel;have G:=hqh ((H.o.below M.o).keep y.o (λc=>(s.o _ c).2.1 rfl) (λc=>(s.o _ c).2.2.1 rfl) (λc=>(s.o _ c).2.2.2.1 rfl) (λc=>(s.o _ c).2.2.2.2 rfl));have z:∀q,w.heap.size<=q->¬(Value.slice A d o).ownBlock=some q:=λq F c=>by have:=(s.o _ c).1;omega
  have P:=hqh (y.o.blk e1.o (z _ oqo));have e0:=hqh (y.o.blk x0.o (z _ oqo));have V:=hqh ((KO.below (O:=λk=>(Value.slice A d o).ownBlock=some k) M.o).trans y.o);have L:=hqh (dm Y.o y.o (λq F=>z q (by have:=(Y.o.lt q F).1;omega)));clear z;by_cases o1:i<d;case neg=>
   have q:decide ((i:Int)<(d:Int))=false:=qqt oqo;have n1:i=d:=oqo;have X:=hqh (show wr.ownsRow 0 3 1 (.slice A d o) d ((args.map B.root).flatMap dx)by have:=D.o;unfold lI at this;rw[jqc (by have:=J.o;omega),jxt (by have:=J.o;omega),List.append_nil]at this;exact this);clear n1 D L;go_upto_region 6 with fail;refine wp_region_draw (List.replicate 12 true) (λW=>Below wr.heap.size wr W) 0 bY (λ_ a a2 _ hd h=>by cases a;cases a2;cases hd;exact h) kqk (λ_ _ h=>h) ?_;iterate 12 refine aI (λK hK=>?_);rw[qzb kqk];refine⟨_,λx1 hZ=>(by have q:=G.o.below hZ;have k0:=q.blk.cell 0;have ka:=(P.o.below hZ).cell 2;have kl:=q.iE ha;clear q;go_simp;try rfl),?_⟩;simp only[qqa];refine hK _ ?_;clear hK
   refine aW ?_;intro vs w7 hN l1 E;refine aH kqk ?_;have j0:=hqh (P.o.below E);have a1:=hqh (e0.o.below E);have r0:=hqh (own_below X.o E);have d1:=hqh (V.o.trans (KO.below E));clear hN l1 E P e0 V G X;have y0:=j0.o.cell 0;go_upto_region 34 with fail;apply jqf;refine aL rfl 71 (.tmp 5) rfl (w.heap.size+1) rfl 71 _ _ j0.o Tryz.underlying71 rfl aS ?_;refine az rfl 71 (.tmp 6) (.tmp 169) rfl (w.heap.size+1+1) _ rfl rfl 71 _ a1.o rfl aS rfl ?_;intro w9 m1 n0;go_wp2_with fail;refine bg (w.heap.size+1+1) m1 ?_;have z:∀q,(Value.slice A d o).ownBlock=some q->¬q=w.heap.size+1+1:=λq F c=>by have:=(s.o _ F).1;omega
   exact⟨rfl,dm r0.o n0 z,d1.o.then' n0 λq F c=>by omega⟩
  case pos=>
   have q:decide ((i:Int)<(d:Int))=true:=qqx oqo;have z1:(i:Int)<(d:Int):=oqo;have j1:=hA oqo;subst j1;obtain⟨pb,d2,s1,_,_⟩:=L.o.form oqo;injection s1 with p1 _ r1;subst p1;subst r1;obtain⟨u,hu⟩:∃u,args[i]? =some u:=⟨_,qqh (by have:=J.o;omega)⟩;have p0:wr.cell? ⟨pb,i,none⟩=some (.pointer (some ⟨p,i,none⟩)):=by rw[L.o.cellAt i oqo,Vw p 0 d i o1,qja]
   have c0:wr.cell? ⟨p,i,none⟩=some (.int .i64 u):=by rw[D.o.cellAt i oqo,ints_at,QJ B args i hu];rfl
   have f0:wr.frozen? ⟨p,i,none⟩=false:=by obtain⟨R,S⟩:=aT D.o (b:=p) rfl;exact Blk.free (t:=3) (cs:=R) S i
   have l0:=aK c0;have RT:=fI g b0 b1 b2 n u B.cp wr G.o.blk G.o.cp (HG.o u (qqr hu));have HS:=hqh (IK B args i hu);obtain⟨ru,U⟩:∃r,r=(B.cp u).getD u:=⟨_,rfl⟩;rw[<-U]at RT;have d0:=hqh (show ru=B.root u from U);clear hu U;go_wp2_with(first|(go_at_call 137;refine RT.mono ?_;rintro e w5⟨rfl,rfl⟩)|fail);cases gk with|zero=>omega|succ gk=>
    go_roundg gk;case measure=>omega
    case rel=>
     refine⟨i+1,by omega,by omega,by simp,hqh ?_,hqh ?_⟩;·have:=kC (j:=i) D.o (.int .i64 ru);rw[ints_set,d0.o,HS.o]at this;rw[d0.o];exact this
     ·exact y.o.trans (KO.set (O:=λk=>(Value.slice (some ⟨p,0,none⟩) d o).ownBlock=some k) (a:=⟨p,i,none⟩) rfl _)
def jc(w:World)(O:Nat->Prop)(y:InV):Prop:=(y.1.op≠11/\y.1.args=[]/\ay w y.2 [])\/(w.ownsRow 0 3 1 y.2 y.1.args.length (y.1.args.flatMap dx)/\∀b,y.2.ownBlock=some b->O b)
theorem jc.keep{w w':World}{O O':Nat->Prop}{y:InV}(h:jc w O y)(k:KO O' w w')(hn:∀b,y.1.op=11->y.2.ownBlock=some b->¬O' b)(ha:y.1.op≠11->y.1.args=[]):jc w' O y:=by
 by_cases e:y.1.op=11
 ·rcases h with⟨h1,_⟩|⟨h1,h2⟩;·exact absurd e h1
  ·exact Or.inr ⟨dm h1 k λb a=>hn b e a,h2⟩
 ·left;rcases h with⟨h0,h1,A,c,h2,_⟩|⟨h1,_⟩;·exact⟨e,h1,A,c,h2,qqy _,Or.inl rfl⟩
  ·obtain⟨A,c,hv⟩:=dN h1;rw[ha e]at hv;exact⟨e,ha e,A,c,hv,qqy _,Or.inl rfl⟩
theorem jc.weak{w:World}{O O':Nat->Prop}{y:InV}(h:jc w O y)(a:∀b,O b->O' b):jc w O' y:=h.imp id λ⟨h1,h2⟩=>⟨h1,λb c=>a b (h2 b c)⟩
theorem jc.ints{w:World}{O:Nat->Prop}{y:InV}(h:jc w O y):ay w y.2 y.1.args:=by
 rcases h with⟨_,h1,h2⟩|⟨h1,_⟩;·rw[h1];exact h2
 ·exact Cw h1 rfl
structure XOk(p:PrW)(f:FnP)(x:In):Prop where
 one:dJ p f x=true
 vars:f.vars<=200
 n:I64 x.n
theorem XOk.inN{p:PrW}{f:FnP}{x:In}(h:XOk p f x):InN x/\(∀u∈x.args,okN u)/\(mK x.op=true->x.bin∈jE):=by
 have h1:=cz.1 h.one;have hv:=h.vars;have small:∀k:Int,0<=k->k<=200->okN k:=λk h0 h2=>M5 ⟨by omega,by omega⟩;have sm:∀(b:Bool)(k:Int),0<=k->(if b then k<f.vars else k=0)->okN k:=λb k h0 h2=>by
  cases b;·simp at h2;exact small k h0 oqo
  ·simp at h2;exact small k h0 oqo
 refine⟨⟨sm _ _ h1.2.1.1 h1.2.1.2,sm _ _ h1.2.2.1.1 h1.2.2.1.2,sm _ _ h1.2.2.2.1.1 h1.2.2.2.1.2,M5 h.n,?_⟩,λu hu=>?_,λc=>?_⟩
 ·have a:=h1.2.2.2.2.2.2.2.2.1;have:x.bin<=200:=by cases hc:mK x.op with|false=>rw[hc]at a;simp at a;omega|true=>rw[hc]at a;simp[jE]at a;omega
  unfold Lit.wf;have d:IntKind.min .u8=0:=by decide
  have a2:IntKind.max .u8=255:=by decide
  simp only[d,a2,qqn,qqu];omega
 ·have:=DL h.one u hu;exact small u this.1 oqo
 ·have a:=h1.2.2.2.2.2.2.2.2.1;rw[c]at a;exact a
theorem XOk.args{p:PrW}{f:FnP}{x:In}(h:XOk p f x)(a:x.op≠11):x.args=[]:=by have h1:=(cz.1 h.one).2.2.2.2.2.2.2.2.2.1;unfold fG mD at h1;rw[qzc (by simpa using a)]at h1;exact jze oqo
def KI(O:Nat->Prop)(w:World)(y:In)(e:Ending)(w':World):Prop:=(∃a,e=.returned (ax ⟨y,a⟩)/\jc w' O ⟨y,a⟩)/\Below w.heap.size w w'
theorem iy{w w':World}{O:Nat->Prop}{y z:In}{e:Ending}(h:(∃a,e=.returned (ax ⟨y,a⟩)/\ay w' a [])/\Below w.heap.size w w')(b:y=z)(ha:z.args=[])(ho:z.op≠11):KI O w z e w':=by obtain⟨⟨av,h1,h2⟩,h3⟩:=h;subst b;exact⟨⟨av,h1,Or.inl ⟨ho,ha,h2⟩⟩,h3⟩
section
variable {g b0 b1 b2 n:Nat}{B:ae}{gp:PrG}{x:In}{av:Value}{w:World}{O:Nat->Prop}{f:FnP}
theorem sO(b:ae){x:In}(h:x.args=[]):(b.dQ x).args=[]:=by
 unfold ae.dQ;split;·rfl
 ·split;·rfl
  ·exact h
theorem JA{x:In}(n m:Option Int)(h:x.args=[]):(au x n m).args=[]:=by
 have hm:∀v a,(aJ (aQ v a)).args=[]:=λv a=>by unfold aJ;split<;>rfl
 unfold au;split;·exact hm _ _
 ·split;·exact hm _ _
  ·split;·exact hm _ _
   ·split;·exact hm _ _
    ·split;·rfl
     ·exact h
theorem Bz(D:Nat->Int->Int->Int)(b:ae){x:In}(h:x.args=[]):(b.gU D x).args=[]:=by
 unfold ae.gU;split;·rfl
 ·split
  ·split;·rfl
   ·exact sO b rfl
  ·exact JA _ _ h
theorem sw(D:Nat->Int->Int->Int)(arr:List Int)(b:ae){x:In}(h:x.args=[]):(b.bE D arr x).args=[]:=by
 unfold ae.bE;split;·exact sO b h
 ·split;·exact Bz D b h
  ·split
   ·split;·split<;>first|rfl|exact h
    ·exact h
   ·split
    ·split;·split<;>first|rfl|exact h
     ·exact h
    ·split
     ·split;·split<;>rfl
      ·exact h
     ·exact h
theorem Cx(b:ae){x:In}(h:x.op=2):(b.dQ x).op<=3:=by
 unfold ae.dQ;split;·exact qqy _
 ·split;·exact(by decide:1<=3)
  ·omega
theorem LM{x:In}(n m:Option Int)(h:x.op=3):(au x n m).op<=3:=by
 have hm:∀v a,(aJ (aQ v a)).op<=3:=λv a=>by
  unfold aJ;split;·exact qqy _
  ·exact(by decide:2<=3)
 unfold au;split;·exact hm _ _
 ·split;·exact hm _ _
  ·split;·exact hm _ _
   ·split;·exact hm _ _
    ·split;·exact(by decide:1<=3)
     ·omega
theorem Q5(D:Nat->Int->Int->Int)(b:ae){x:In}(h:x.op=3):(b.gU D x).op<=3:=by
 unfold ae.gU;split;·exact(by decide:1<=3)
 ·split
  ·split;·exact qqy _
   ·exact Cx b rfl
  ·exact LM _ _ h
theorem Ka(D:Nat->Int->Int->Int)(arr:List Int)(b:ae){x:In}(h:x.op≠11):(b.bE D arr x).op≠11:=by
 unfold ae.bE;split;·rename_i e;have:=Cx b e;omega
 ·split;·rename_i e;have:=Q5 D b e;omega
  ·split
   ·split;·split<;>first|decide|exact h
    ·exact h
   ·split
    ·split;·split<;>first|decide|exact h
     ·exact h
    ·split
     ·split;·split<;>simp
      ·exact h
     ·exact h
theorem vz(D:Nat->Int->Int->Int)(arr:List Int)(b:ae){x:In}(h:x.op≠11):(b.shorter D arr x).op≠11:=Ka D arr b (by
 unfold ae.rooted;split;·exact h
 ·split;·exact h
  ·exact h)
theorem CE(h:bQ w g b0 b1 b2 n B)(o:XOk gp.p f x)(ho:x.op≠11)(C:ay w gp.av gp.p.arrays)(E:gp.p.arrays.length<=16)(ha:ay w av []):Calls Tryz.prog 154 #[.pointer (some ⟨g,0,none⟩),prV gp,ax ⟨x,av⟩] w (KI O w (B.shorter doW gp.p.arrays x)):=by
 have r:=o.args ho;have j:=vz doW gp.p.arrays B ho;have h1:=cz.1 o.one;obtain⟨⟨kv,c,q,D,s⟩,_,u⟩:=o.inN;obtain⟨A,d,rfl,_,_⟩:=ha;obtain⟨op,v,a,b,m,bin,args,i,arr,t⟩:=x;simp only at r ho kv c q D s u;subst r;have z:=h1.1;have p:=h1.2.2.2.2.2.1;clear h1 o;simp only at z p;have y:op=1\/op=2\/op=3\/op=4\/op=5\/op=6\/op=7\/op=8\/op=9\/op=10\/op=12\/op=13\/op=14:=oqo;rcases y with rfl|rfl|rfl|rfl|rfl|rfl|rfl|rfl|rfl|rfl|rfl|rfl|rfl;·exact(M4 g b0 b1 b2 n B gp v a b m bin i arr t A d w h c).mono λe w' k=>iy k rfl rfl j
 ·exact(Cc g b0 b1 b2 n B gp v a b m bin i arr t A d w h c).mono λe w' k=>iy k rfl (sO _ rfl) j
 ·exact(KV g b0 b1 b2 n B gp v a b m bin i arr t A d w h kv c q s (u rfl)).mono λe w' k=>iy k rfl (Bz _ _ rfl) j
 ·exact(MN g b0 b1 b2 n B gp v a b m bin i arr t A d w h c).mono λe w' k=>iy k rfl rfl j
 ·exact(NF g b0 b1 b2 n B gp v a b m bin i arr t A d w h c q).mono λe w' k=>iy k rfl rfl j
 ·exact(Lt g b0 b1 b2 n B gp v a b m bin i arr t A d w h c C ⟨p.1,p.2⟩ oqo).mono λe w' k=>iy k rfl (sw _ _ _ rfl) j
 ·exact(Ls g b0 b1 b2 n B gp v a b m bin i arr t A d w h c).mono λe w' k=>iy k rfl (sw _ _ _ rfl) j
 ·exact(Ni g b0 b1 b2 n B gp v a b m bin i arr t A d w h c).mono λe w' k=>iy k rfl rfl j
 ·exact(LP g b0 b1 b2 n B gp v a b m bin i arr t A d w h c).mono λe w' k=>iy k rfl rfl j
 ·exact(Ir g b0 b1 b2 n B gp v a b m bin i arr t A d w h c).mono λe w' k=>iy k rfl rfl j
 ·exact(Kz g b0 b1 b2 n B gp v a b m bin i arr t A d w h c).mono λe w' k=>iy k rfl rfl j
 ·exact(J2 g b0 b1 b2 n B gp v a b m bin i arr t A d w h c).mono λe w' k=>iy k rfl rfl j
 ·exact(JP g b0 b1 b2 n B gp v a b m bin i arr t A d w h c).mono λe w' k=>iy k rfl (sw _ _ _ rfl) j
theorem xn(h:bQ w g b0 b1 b2 n B)(i:XOk gp.p f x)(y:ay w gp.av gp.p.arrays)(s:gp.p.arrays.length<=16)(j:x.args.length<=1000)(ha:jc w O ⟨x,av⟩):Calls Tryz.prog 154 #[.pointer (some ⟨g,0,none⟩),prV gp,ax ⟨x,av⟩] w λe w'=>(∃d,e=.returned (ax ⟨B.shorter doW gp.p.arrays x,d⟩)/\jc w' O ⟨B.shorter doW gp.p.arrays x,d⟩/\((B.shorter doW gp.p.arrays x).op=11->x.op=11/\d=av))/\KO (λk=>x.op=11/\av.ownBlock=some k) w w':=by
 by_cases ho:x.op=11
 ·obtain⟨k1,k2,_⟩:=i.inN;have hs:B.shorter doW gp.p.arrays x={x with args:=x.args.map B.root}:=by
   unfold ae.shorter;have hr:B.rooted x={x with args:=x.args.map B.root}:=by unfold ae.rooted;rw[qzc (by rw[ho];decide),qzc (by rw[ho];decide),qzb ho]
   rw[hr];unfold ae.bE;simp only[];rw[qzc oqo,qzc oqo,qzc oqo,qzc oqo,qzc oqo]
  rw[hs];obtain⟨op,v,a,b,m,bin,args,r,arr,t⟩:=x;simp only at ho j hs k2;subst ho;rcases ha with⟨h1,_⟩|⟨p,z⟩;·exact absurd rfl h1
  obtain⟨A,q,o⟩:=dN p;dsimp only at o;subst o;refine(Iu g b0 b1 b2 n B gp v a b m bin args r arr t A args.length q w h k1.a k2 rfl j p).mono ?_;rintro C w1⟨rfl,h1,h2⟩;exact⟨⟨_,rfl,Or.inr ⟨by simpa using h1,z⟩,λ_=>⟨rfl,rfl⟩⟩,h2.weak λk hk=>⟨rfl,hk⟩⟩
 ·have u:=i.args ho;refine(CE (O:=O) h i ho y s (by have:=ha.ints;rw[u]at this;exact this)).mono ?_;rintro e w1⟨⟨d,h1,h2⟩,h3⟩;exact⟨⟨d,h1,h2,λc=>absurd c (vz _ _ _ ho)⟩,KO.below h3⟩
end
structure bP(w:World)(O:Nat->Prop)(lv:Value)(l:List InV):Prop where
 row:w.ownsRow 0 71 10 lv l.length (l.flatMap bI)uf:∀b,lv.ownBlock=some b->O b
 args:∀y∈l,jc w O y
 no:∀y∈l,y.1.op≠11->y.1.args=[]ne:∀(i j:Nat)(y z:InV),i≠j->l[i]? =some y->l[j]? =some z->y.1.op=11->z.1.op=11->∀b,y.2.ownBlock=some b->z.2.ownBlock≠some b
section
variable {w w':World}{O O':Nat->Prop}{lv:Value}{l:List InV}
theorem bP.ins(h:bP w O lv l):dW w lv l:=sP bI 10 (λ_=>rfl) h.row λb o y c a=>⟨a 0 oqo,a 1 oqo,a 2 oqo,a 3 oqo,a 4 oqo,a 5 oqo,a 6 oqo,a 7 oqo,a 8 oqo,a 9 oqo,(h.args y c).ints⟩
theorem bP.keep(h:bP w O lv l)(k:KO O' w w')(hn:∀b,O b->¬O' b):bP w' O lv l where
 row:=dm h.row k λb a=>hn b (h.uf b a);uf:=h.uf;args:=λy c=>(h.args y c).keep k (λb e a=>by
  rcases h.args y c with⟨h1,_⟩|⟨_,h2⟩;·exact absurd e h1
  ·exact hn b (h2 b a)) (h.no y c);no:=h.no;ne:=h.ne
theorem bP.below(h:bP w O lv l)(a:Below w.heap.size w w'):bP w' O lv l:=h.keep (KO.below (O:=λ_=>False) a) λ_ _ c=>c
theorem bP.weak(h:bP w O lv l)(a:∀b,O b->O' b):bP w O' lv l:=⟨h.row,λb c=>a b (h.uf b c),λy d=>(h.args y d).weak a,h.no,h.ne⟩
def zk:List Value->Nat->List Value->List Value|xs,_,[]=>xs|xs,o,c::cs=>zk (xs.set o c) (o+1) cs
theorem DJ:∀(cs M A R:List Value),M.length=cs.length->zk (A++(M++R)) A.length cs=A++(cs++R)|[],[],A,R,_=>rfl|[],_::_,_,_,h=>by simp at h|_::_,[],_,_,h=>by simp at h|c::cs,m::M,A,R,h=>by have ih:=DJ cs M (A++[c]) R (by simpa using h);simp only[qzl,qzv,jxp,List.append_assoc,jjb,List.nil_append,qja]at ih;show zk ((A++(m::M++R)).set A.length c) (A.length+1) cs=_;rw[jzx _ _ (qqf _),jzj];exact ih
theorem QS{α:Type}(C:α->List Value)(z:Nat)(hz:∀x,(C x).length=z){l:List α}{i:Nat}{x:α}(y:α)(h:l[i]? =some x):zk (l.flatMap C) (i*z) (C y)=(l.set i y).flatMap C:=by
 have hi:=(qqi.1 h).1;have b:l[i]=x:=(qqi.1 h).2;have e:l=l.take i++x::l.drop (i+1):=by have h1:=(List.take_append_drop i l).symm;rw[jqo hi,b]at h1;exact h1
 have a:l.set i y=l.take i++y::l.drop (i+1):=by
  conv=>lhs;rw[e]
  rw[jzx _ _ (by rw[jqm];omega),jqm,jzd oqo,jzj];rfl
 have hl:((l.take i).flatMap C).length=i*z:=by rw[qB C z hz,jqm,jzd oqo]
 rw[a,jzu,jqj,<-hl];have:=DJ (C y) (C x) ((l.take i).flatMap C) ((l.drop (i+1)).flatMap C) (by rw[hz,hz]);rw[<-this];congr 1;conv=>lhs;rw[e]
 rw[jzu,jqj]
theorem EF{base e size n g cap:Nat}:∀(cs:List Value)(o:Nat)(w:World)(xs:List Value),w.ownsRow base e size (.slice (some ⟨g,0,none⟩) n cap) n xs->(w.setCells g o cs).ownsRow base e size (.slice (some ⟨g,0,none⟩) n cap) n (zk xs o cs)|[],_,_,_,h=>h|c::cs,o,w,xs,h=>EF cs (o+1) _ _ (kC h c)
theorem KO.puts{O:Nat->Prop}{g:Nat}(b:O g):∀(cs:List Value)(o:Nat)(w:World),KO O w (w.setCells g o cs)|[],_,w=>KO.refl O w|c::cs,o,w=>(KO.set (O:=O) (a:=⟨g,o,none⟩) b c).trans (KO.puts b cs (o+1) _)
theorem vG{y:In}{v:Value}(h:v.oneCell'=true):(bI (y,v)).toArray.all (·.oneCell')=true:=all_oneCell_toArray λu hu=>by simp only[bI,qzh,qjh,jxo]at hu;rcases hu with rfl|rfl|rfl|rfl|rfl|rfl|rfl|rfl|rfl|rfl<;>first|rfl|exact h
theorem Nh{g n cap:Nat}(hr:w.ownsRow 0 71 10 (.slice (some ⟨g,0,none⟩) n cap) l.length (l.flatMap bI)){i:Nat}{y:InV}(hi:l[i]? =some y):w.there g (i*10) 10:=λj hj=>by have h:=(qqi.1 hi).1;obtain⟨A,c,hv⟩:=dN hr;injection hv with _ d _;have h1:(i+1)*10<=l.length*10:=jqk _ h;subst d;rw[hr.cellAt (i*10+j) oqo,jC bI 10 (λ_=>rfl) l i j y hi hj];obtain⟨a,e⟩:=aT hr (b:=g) rfl;refine⟨?_,Blk.free (t:=71) (cs:=a) e _⟩;match j,hj with|0,_=>rfl|1,_=>rfl|2,_=>rfl|3,_=>rfl|4,_=>rfl|5,_=>rfl|6,_=>rfl|7,_=>rfl|8,_=>rfl|9,_=>rfl
theorem bP.typ{g n cap:Nat}{w0:World}(h:bP w0 O (.slice (some ⟨g,0,none⟩) n cap) l):∀b,(Value.slice (some ⟨g,0,none⟩) n cap).ownBlock=some b->∀z∈l,z.1.op=11->z.2.ownBlock≠some b:=λb e z hz h1 hc=>by
 obtain⟨c1,c⟩:=aT h.row e;rcases h.args z hz with⟨q,_⟩|⟨q,_⟩;·exact q h1
 ·obtain⟨c2,a⟩:=aT q hc;rw[c]at a;injection a with a;injection a with _ d;cases d
theorem bP.there{g n cap:Nat}{w0:World}(h:bP w0 O (.slice (some ⟨g,0,none⟩) n cap) l){i:Nat}{x:InV}(hi:l[i]? =some x)(hk:KO (λk=>x.1.op=11/\x.2.ownBlock=some k) w0 w):w.there g (i*10) 10:=Nh (dm h.row hk λb a c=>h.typ b a x (qqr hi) c.1 c.2) hi
theorem bP.set{g n cap:Nat}{w0:World}(h:bP w0 O (.slice (some ⟨g,0,none⟩) n cap) l){i:Nat}{x y:InV}(hi:l[i]? =some x)(hk:KO (λk=>x.1.op=11/\x.2.ownBlock=some k) w0 w)(ha:jc w O y)(r:y.1.op=11->x.1.op=11/\y.2=x.2)(s:y.1.op≠11->y.1.args=[]):bP (w.setCells g (i*10) (bI y)) O (.slice (some ⟨g,0,none⟩) n cap) (l.set i y):=by
 have typ:=h.typ;have D:=qqr hi;have C:=dm h.row hk λb m c=>typ b m x D c.1 c.2;have t:∀z,jc w O z->(z.1.op≠11->z.1.args=[])->(z.1.op=11->z.2.ownBlock≠some g)->jc (w.setCells g (i*10) (bI y)) O z:=λz hz h1 h2=>hz.keep (KO.puts (O:=λk=>k=g) rfl _ _ _) (λb e m c=>by have c:b=g:=c;rw[c]at m;exact h2 e m) h1;have hlen:(l.set i y).length=l.length:=qjg ..;refine⟨?_,h.uf,λz hz=>?_,λz hz=>?_,λa b z z' G F H h1 h2 q v=>?_⟩
 ·rw[hlen];have hn:n=l.length:=by obtain⟨A,c,hv⟩:=dN C;injection hv
  subst hn;have:=EF (bI y) (i*10) w _ C;rw[QS bI 10 (λ_=>rfl) y hi]at this;exact this
 ·obtain⟨j,hj⟩:=jqr.1 hz;by_cases e:j=i;·subst e;rw[jqn (qqi.1 hi).1]at hj;cases hj;exact t y ha s λc1 c2=>by obtain⟨d1,d2⟩:=r c1;rw[d2]at c2;exact typ g rfl x D d1 c2
  ·rw[jqt (λc=>e c.symm)]at hj;have p:=qqr hj;exact t z ((h.args z p).keep hk (λb E m c=>h.ne j i z x e hj hi E c.1 b m c.2) (h.no z p)) (h.no z p) λc1 c2=>typ g rfl z p c1 c2
 ·rcases List.mem_or_eq_of_mem_set hz with hz|rfl;·exact h.no z hz
  ·exact s
 ·have get:∀(c:Nat)(u:InV),(l.set i y)[c]? =some u->u.1.op=11->∃o,l[c]? =some o/\o.1.op=11/\u.2=o.2:=λc u hc ho=>by
   by_cases e:c=i;·subst e;rw[jqn (qqi.1 hi).1]at hc;cases hc;obtain⟨d1,d2⟩:=r ho;exact⟨x,hi,d1,d2⟩
   ·rw[jqt (λd=>e d.symm)]at hc;exact⟨u,hc,ho,rfl⟩
  obtain⟨u,u1,u2,u3⟩:=get a z F h1;obtain⟨o,v1,v2,v3⟩:=get b z' H h2;rw[u3]at v;rw[v3];exact h.ne a b u o G u1 v1 u2 v2 q v
end
theorem dK.empty{κ:Type}{k e:TypeId}{good:κ->Prop}{kl:κ->Lit}{w:World}{b:Nat}(h:w.heap[b]? =some (.map #[] 0)):dK k good kl e w b 0 (λ_=>none):=by obtain⟨D,⟨es,c,h1,h2,h3,i⟩,j⟩:=dK.made (κ:=κ) (k:=k) (good:=good) (kl:=kl) (e:=e) w;have hn:(w.alloc (.map #[] 0)).heap[w.heap.size]? =some (.map #[] 0):=jxk w _;rw[hn]at h1;injection h1 with h1;injection h1 with a d;subst a;subst d;exact⟨D,⟨#[],0,h,h2,h3,i⟩,j⟩
theorem qM(w:World):Calls Tryz.prog 93 #[] w λe w'=>∃g b0 b1 b2,e=.returned (.pointer (some ⟨g,0,none⟩))/\Below w.heap.size w w'/\w.heap.size<=b0/\bQ w' g b0 b1 b2 0 .new:=(MG w).mono λ_ _⟨b0,b1,b2,g,h1,h2,h3,b,c,d,h,i,j,a⟩=>⟨g,b0,b1,b2,h1,h2,h3,⟨h,dK.empty i,dK.empty j,dK.empty a,b,c,d⟩⟩
structure wG(w0:World)(O:Nat->Prop)(arr:List Int)(vars:Int)(lv:Value)(l:List InV)(i:Nat)(w:World)(g b0 b1 b2:Nat)(B:ae)(li:List InV):Prop where
 own:bP w O lv li
 ko:KO O w0 w
 blk:bQ w g b0 b1 b2 (2*i) B
 new:w0.heap.size<=b0
 ok:B.Ok vars
 nums:B.gJ
 len:li.length=l.length
 code:∀j,(li.map (·.1))[j]? =if j<i then(aG doW arr (l.map (·.1)))[j]? else(l.map (·.1))[j]?
 rest:(aG doW arr (l.map (·.1))).drop i=bD doW arr (dh (l.map (·.1))) i B ((l.map (·.1)).drop i)
theorem ry:ae.new.gJ:=⟨λ_ _ e=>(by cases e)⟩
theorem wG.all{w0 w:World}{O:Nat->Prop}{arr:List Int}{vars:Int}{lv:Value}{l li:List InV}{g b0 b1 b2:Nat}{B:ae}(h:wG w0 O arr vars lv l l.length w g b0 b1 b2 B li):li.map (·.1)=aG doW arr (l.map (·.1)):=by
 apply jqq;intro j;rw[h.code j];split;·rfl
 ·rename_i hj;have:(aG doW arr (l.map (·.1))).length=l.length:=by have:=iQ doW arr (dh (l.map (·.1))) (l.map (·.1)) 0 .new;rw[qqv]at this;exact this
  rw[qza (by simp;omega),qza oqo]
theorem wG.at{w0 w:World}{O:Nat->Prop}{arr:List Int}{vars:Int}{lv:Value}{l li:List InV}{i:Nat}{g b0 b1 b2:Nat}{B:ae}(h:wG w0 O arr vars lv l i w g b0 b1 b2 B li){x:InV}(d:l[i]? =some x){a:ae}(b:a=if dh (l.map (·.1)) i then .new else B):(aG doW arr (l.map (·.1)))[i]? =some (a.shorter doW arr x.1)/\(aG doW arr (l.map (·.1))).drop (i+1)=bD doW arr (dh (l.map (·.1))) (i+1) (a.does (a.shorter doW arr x.1)) ((l.map (·.1)).drop (i+1)):=by
 have hm:(l.map (·.1))[i]? =some x.1:=by rw[qqp,d];rfl
 have c:=(qqi.1 hm).1;have e:(l.map (·.1))[i]=x.1:=(qqi.1 hm).2;have hr:=h.rest;rw[jqo c,e]at hr;simp only[bD]at hr;rw[<-b]at hr;constructor;·have:=jqi (λq:List In=>q[0]?) hr;simpa using this
 ·have:=jqi List.tail hr;simpa using this
theorem Iy(gp:PrG)(f:FnP)(lv:Value)(l:List InV)(O:Nat->Prop)(w:World)(o5:∀w',KO O w w'->ay w' gp.av gp.p.arrays)(e4:gp.p.arrays.length<=16)(h:bP w O lv l)(hO:∀k,O k->k<w.heap.size)(hx:∀y∈l,XOk gp.p f y.1)(m5:f.code.length=l.length)(hn:l.length<=8000)(j5:∀y∈l,y.1.args.length<=1000)(h0:0<l.length):Calls Tryz.prog 126 #[prV gp,lv] w λe w'=>e=.returned (.tuple #[])/\∃l',l'.map (·.1)=aG doW gp.p.arrays (l.map (·.1))/\bP w' O lv l'/\KO O w w':=by
 have b5:=hqh o5;have H:=hqh h;have E:=hqh hO;have HX:=hqh hx;have HF:=hqh m5;have p5:=hqh j5;obtain⟨n,o2⟩:∃n,n=l.length:=⟨_,rfl⟩;obtain⟨G,c,rfl,i5⟩:∃G c,lv=.slice (some ⟨G,0,none⟩) n c/\O G:=by obtain⟨G,cap,hv,_,_⟩:=h.row.form h0;exact⟨G,cap,by rw[o2];exact hv,h.uf G (by rw[hv];rfl)⟩
 have r4:=hqh i5;have LD:=xA (.slice (some ⟨G,0,none⟩) n c) l;rw[<-o2]at h0 hn LD;have HN:=hqh o2;clear o5 h hO hx m5 j5 o2 i5;have LD:=λW(hW:bP W O (.slice (some ⟨G,0,none⟩) n c) l)=>LD W hW.ins oqo (λy X k=>by have:=rD (HX.o y X).one (by unfold iG;simpa using k);rw[HF.o,<-HN.o]at this;exact this);have g1:=hqh LD;clear LD;obtain⟨⟨R,gf,S⟩,r0,s0,gl⟩:=gp;dsimp only at e4;unfold prV;dsimp only;go_enter Tryz.func126,Tryz.ntmps126;have n2:=(Below.refl w.heap.size w).alloc (Nat.le_refl _) (.cells #[r0,s0,.int .i64 S] 25);have P0:=Blk.new w 25 #[r0,s0,.int .i64 S];go_upto_region 1 with fail;generalize o6:w.alloc (.cells #[r0,s0,.int .i64 S] 25)=w1 at n2 P0⊢;clear o6;have x2:=hqh n2;have m3:=hqh P0;have l3:=hqh (H.o.below n2);clear n2 P0;have s4:=hqh (g1.o w1 l3.o);go_upto_region 3 with(first| (go_at_call 92;refine s4.o.mono ?_;rintro e w2⟨⟨bv,rfl,r1⟩,l5⟩;have d3:=hqh r1;have a1:=hqh l5;clear r1 l5)| (go_at_call 93;refine(qM w2).mono ?_;rintro e w3⟨g0,b4,g5,h5,rfl,x0,t1,hr0⟩;have q0:=hqh x0;have g3:=hqh t1;have e5:=hqh hr0;clear x0 t1 hr0)|fail);have s1:=x2.o.size;have s2:=a1.o.size;have s3:=q0.o.size;have s5:=hqh ((x2.o.trans (a1.o.mono s1)).trans (q0.o.mono oqo));obtain⟨D,cb,b6,d6,g6⟩:∃D cb,bv=.slice (some ⟨D,0,none⟩) (n+1:Nat) cb/\w1.heap.size<=D/\D<w2.heap.size:=by have:=d3.o;unfold bJ at this;obtain⟨G',cap,hv,_,_⟩:=this.form (by simp);have hl:=this.lt G' (by rw[hv];rfl);exact⟨G',cap,by rw[hv];simp,hl.1,hl.2⟩
 subst b6;have q5:=hqh (show bJ w3 w1.heap.size _ _ from own_below d3.o q0.o);have x4:=hqh ((m3.o.below a1.o).below q0.o);have w4:=hqh ((l3.o.below a1.o).below q0.o);have r5:=hqh (show wG w O R f.vars (.slice (some ⟨G,0,none⟩) n c) l 0 w3 g0 b4 g5 h5 .new l from⟨w4.o,KO.below s5.o,e5.o,by have:=g3.o;omega,ae.nY _,ry,rfl,λj=>by rw[qzc oqo],by simp[aG]⟩);have e6:D<b4:=by have:=g3.o;omega
 have w6:w.heap.size<w3.heap.size:=x4.o.lt;have s6:w.heap.size<D:=by have:=m3.o.lt;omega
 clear g1 s4 l3 d3 m3 w4 e5 g3 x2 a1 q0 s1 s2 s3 d6 g6;go_wp2_with fail;go_loopg [5,13]n(λgk v5 v wr=>∃(i g b0 b1 b2:Nat)(B:ae)(li:List InV),i<=n/\n-i<=gk/\v=.int .i64 i/\v5=.pointer (some ⟨g,0,none⟩)/\Hid (wG w O R f.vars (.slice (some ⟨G,0,none⟩) n c) l i wr g b0 b1 b2 B li)/\Hid (bJ wr w1.heap.size (.slice (some ⟨D,0,none⟩) (n+1:Nat) cb) ((List.range (n+1)).map (dh (l.map (·.1)))))/\Hid (Blk wr w.heap.size 25 #[r0,s0,.int .i64 S])/\D<b0);case atStart=>exact⟨0,g0,b4,g5,h5,.new,l,qqy _,qqf _,rfl,rfl,r5,q5,x4,e6⟩
 case round=>
  obtain⟨i,g,b0,b1,b2,B,li,hi,t6,rfl,rfl,A,l2,d5,h6⟩:=hrel;by_cases n5:i<n;case neg=>
   have q:decide ((i:Int)<(n:Int))=false:=qqt oqo;have m6:i=l.length:=by have:=HN.o;omega
   go_wp2_with fail;go_end0;have hI:=A.o;rw[m6]at hI;exact⟨rfl,li,hI.all,hI.own,hI.ko⟩
  case pos=>
   have q:decide ((i:Int)<(n:Int))=true:=qqx oqo;have v6:(i:Int)<(n:Int):=oqo;obtain⟨y,X⟩:∃y,li[i]? =some y:=⟨_,qqh (by rw[A.o.len,<-HN.o];exact n5)⟩;obtain⟨z,hz⟩:∃z,l[i]? =some z:=⟨_,qqh (by rw[<-HN.o];exact n5)⟩;have q2:y.1=z.1:=by have:=A.o.code i;rw[qzc oqo,qqp,qqp,X,hz]at this;exact jzp this
   have F:=hqh (show XOk ⟨R,gf,S⟩ f y.1 by rw[q2];exact HX.o z (qqr hz));have r2:=hqh (show y.1.args.length<=1000 by rw[q2];exact p5.o z (qqr hz));have t2:=λ(B':ae)(hB:B'=if dh (l.map (·.1)) i then .new else B)=>A.o.at hz hB;rw[<-q2]at t2;have v2:=hqh t2;clear t2;have m2:=A.o.own.args y (qqr X);have i3:=hqh (show∀k,y.1.op=11->y.2.ownBlock=some k->O k from λk e hk=>by
    rcases m2 with⟨h1,_⟩|⟨_,h2⟩;·exact absurd e h1
    ·exact h2 k hk);have a6:fu wr G (i*10) y:=by
    obtain⟨A',c',e',_,d2⟩:=A.o.own.ins;rcases d2 with e|⟨b,o,e,k⟩;·rw[e]at X;simp at X
    ·injection e' with u _ _;rw[e]at u;injection u with u;injection u with u M;have:=k i y X;rw[<-u,<-M,qja]at this;exact this
   have HY:=hqh X;obtain⟨y0,y1,y2,y3,y4,y5,y6,y7,y8,y9,aA,ac,i4,_,_⟩:=a6;have lb:=aK y0;clear X hz q2;obtain⟨⟨op,v,a,b',m,bin,args,ff,arr,t⟩,av⟩:=y;dsimp only at i4 F r2 i3 v2 m2;obtain⟨an,d4⟩:∃k,k=args.length:=⟨_,rfl⟩;rw[<-d4]at i4;subst i4;have i2:=hqh d4;have j2:=hqh m2;clear d4 m2;simp only[]at y0 y1 y2 y3 y4 y5 y6 y7 y8 y9;go_upto_region 6 with fail;clear y0 y1 y2 y3 y4 y5 y6 y7 y8 y9;have bx:=Blk.new wr 71 #[.int .u8 op,.int .i64 v,.int .i64 a,.int .i64 b',.int .i64 m,.int .u8 bin,.slice aA an ac,.int .i64 ff,.int .i64 arr,.int .i64 t];have ha:=(qjk wr.heap.size wr).alloc (qqf _) (.cells #[.int .u8 op,.int .i64 v,.int .i64 a,.int .i64 b',.int .i64 m,.int .u8 bin,.slice aA an ac,.int .i64 ff,.int .i64 arr,.int .i64 t] 71);generalize p6:wr.alloc _=wa at bx ha⊢;clear p6;have q4:=hqh bx;have d0:=hqh ha;clear bx ha;have r1:bJ wa w1.heap.size _ _:=own_below l2.o d0.o;have r6:D<wr.heap.size:=(l2.o.lt D rfl).2;have kb:=(bJ.cell r1 (i:=i) (b:=dh (l.map (·.1)) i) (by rw[qqp,qqz oqo];rfl)).1;clear r1;obtain⟨ko,rfl⟩:∃k,gk=k+1:=⟨gk-1,by omega⟩;have x6:w.heap.size<=wr.heap.size:=A.o.ko.size;have n6:=A.o.new;obtain⟨ld,n4⟩:∃b,b=dh (l.map (·.1)) i:=⟨_,rfl⟩;rw[<-n4]at kb;have g1:=hqh n4;clear n4;cases ld;case true=>
    go_upto_region 8 with(first| (go_at_call 93;refine(qM wa).mono ?_;rintro e wb⟨gg,c0,c1,c2,rfl,x0,t1,hr0⟩;have HF:=hqh t1;have Z:=hqh (hr0.mono (qqy (2*i)));have L:=hqh (d0.o.trans (x0.mono d0.o.size));have o3:=hqh (q4.o.below x0);clear x0 hr0 t1)|fail);have l4:w.heap.size<=c0:=by have:=HF.o;have:=d0.o.size;omega
    have m4:D<c0:=by have:=HF.o;have:=d0.o.size;omega
    obtain⟨K,i0⟩:∃b,b=ae.new:=⟨_,rfl⟩;rw[<-i0]at Z;have e0:=hqh (v2.o K (by rw[<-g1.o,i0];rfl));have j1:=hqh (show K.Ok f.vars by rw[i0];exact ae.nY _);have i1:=hqh (show K.gJ by rw[i0];exact ry);clear i0 HF kb;have i6:=Z.o.ne;have d1:=hqh (A.o.ko.trans (KO.below L.o));have n3:=hqh (show bJ wb w1.heap.size _ _ from own_below l2.o L.o);have l1:=hqh (A.o.own.below L.o);have Q:=hqh (d5.o.below L.o);have C:=xn (gp:=⟨⟨R,gf,S⟩,r0,s0,gl⟩) (f:=f) (O:=O) (x:=⟨op,v,a,b',m,bin,args,ff,arr,t⟩) (av:=.slice aA an ac) Z.o F.o (b5.o wb d1.o) e4 r2.o (by rw[i2.o];rw[i2.o]at j2;exact j2.o.keep (KO.below (O:=λ_=>False) L.o) (λ_ _ _ c=>c) F.o.args);obtain⟨Y,J⟩:∃Y,Y=K.shorter doW R ⟨op,v,a,b',m,bin,args,ff,arr,t⟩:=⟨_,rfl⟩;have m1:=hqh C;clear C;have w5:=hqh J;have U:okI ⟨R,gf,S⟩ f Y:=by rw[J];exact sW j1.o F.o.one
    have T:I64 Y.n:=by rw[J];exact qR mO i1.o F.o.n
    have x3:=hqh (show InN Y by
     rcases U with e|e;·rw[e];exact⟨by unfold okN;decide,by unfold okN;decide,by unfold okN;decide,by unfold okN;decide,by decide⟩
     ·exact(XOk.mk e F.o.vars T).inN.1);have r3:=hqh U;have q3:=hqh T;have p3:=hqh (show Y.op≠11->Y.args=[]from λc=>by
     rcases U with e|e;·rw[e]
     ·exact(XOk.mk e F.o.vars T).args c);rw[<-J]at e0;have C:=m1.o;unfold prV ax at C;dsimp only at C;rw[<-J]at C;clear J U T m1;have p0:=Q.o.cell 0;have p1:=Q.o.cell 1;have p2:=Q.o.cell 2;apply jqf;iterate 12 go_step
    refine aL rfl 71 (.tmp 7) rfl wr.heap.size rfl 71 _ _ o3.o Tryz.underlying71 rfl aS ?_;simp only[qqa];go_step;go_step;refine C.mono ?_;rintro e wc⟨⟨x5,rfl,j0,n1⟩,V⟩;have a2:=V.weak (O':=O) (λk hk=>i3.o k hk.1 hk.2);obtain⟨p,r,l0,_,_⟩:=j0.ints;dsimp only at l0;obtain⟨s,q1⟩:∃k,k=Y.args.length:=⟨_,rfl⟩;rw[<-q1]at l0;subst l0;clear q1;go_simp;go_step;iterate 3 go_step
    have I:=bP.set (y:=(Y,.slice p s r)) l1.o HY.o V j0 n1 p3.o;have g2:=bP.there l1.o HY.o V;refine jxs rfl 71 (.tmp 29) (.tmp 28) rfl G (i*10) (bI (Y,.slice p s r)).toArray rfl rfl g2 aS (vG rfl) ?_;have n0:KO O wb (wc.setCells G (i*10) (bI (Y,.slice p s r)).toArray.toList):=a2.trans (KO.puts r4.o _ _ _);have I:bP (wc.setCells G (i*10) (bI (Y,.slice p s r)).toArray.toList) O (.slice (some ⟨G,0,none⟩) n c) (li.set i (Y,.slice p s r)):=I;generalize p4:wc.setCells _ _ _=wd at n0 I⊢;clear p4;have j3:=hqh I;have N:=hqh n0;have v1:=(qqi.1 HY.o).1;have h4:fu wd G (i*10) (Y,.slice p s r):=by
     obtain⟨A',c',e',_,d2⟩:=I.ins;have o0:(li.set i (Y,.slice p s r))[i]? =some (Y,.slice p s r):=jqn v1;rcases d2 with e|⟨b,o,e,k⟩;·rw[e]at o0;simp at o0
     ·injection e' with u _ _;rw[e]at u;injection u with u;injection u with u M;have:=k i _ o0;rw[<-u,<-M,qja]at this;exact this
    clear I n0 V a2 j0 n1 g2 v1;have e3:=hqh (Z.o.keep N.o (λk=>by have:=E.o _ k;omega) (λk=>by have:=E.o _ k;omega) (λk=>by have:=E.o _ k;omega) (λk=>by have:=E.o _ k;omega));have DO:=uS gg c0 c1 c2 (2*i) K Y (.slice p s r) wd e3.o x3.o (by unfold maxLen;omega);unfold ax at DO;dsimp only at DO;obtain⟨z0,z1,z2,z3,z4,z5,z6,z7,z8,z9,_⟩:=h4;dsimp only at z0 z1 z2 z3 z4 z5 z6 z7 z8 z9;have lG:=aK z0;clear p0 p1 p2 C;go_wp2_with(first| (go_at_call 97;refine DO.mono ?_;rintro e we⟨rfl,o1,x1⟩;have b3:=hqh o1;have P:=hqh x1;clear o1 x1)|fail);have o4:∀k,O k->¬iK c0 c1 c2 k:=λk hk c=>by have:=E.o k hk;unfold iK at c;omega
    go_roundg ko;case measure=>omega
    case rel=>
     refine⟨i+1,gg,c0,c1,c2,K.does Y,li.set i (Y,.slice p s r),by omega,by omega,by simp,rfl,hqh ⟨j3.o.keep P.o o4,?_,b3.o,l4,j1.o.does r3.o,i1.o.does q3.o,by rw[qjg];exact A.o.len,λj=>?_,e0.o.2⟩,hqh ?_,hqh ?_,m4⟩;·exact(d1.o.trans N.o).then' P.o λk hk c=>by unfold iK at c;omega
     ·rw[List.map_set];by_cases e:j=i;·subst e;rw[qzb oqo,jqn (by rw[qqv];exact(qqi.1 HY.o).1)];exact e0.o.1.symm
      ·rw[jqt (λd=>e d.symm),A.o.code j];by_cases M:j<i;·rw[qzb M,qzb oqo]
       ·rw[qzc M,qzc oqo]
     ·refine dm (dm n3.o N.o (λk hk c=>?_)) P.o (λk hk c=>?_)
      ·have e:D=k:=by simpa [Value.ownBlock]using hk
       have:=E.o k c;omega
      ·have e:D=k:=by simpa [Value.ownBlock]using hk
       unfold iK at c;omega
     ·exact P.o.blk (N.o.blk Q.o (λk=>by have:=E.o _ k;omega)) (λc=>by unfold iK at c;omega)
   case false=>
    go_upto_region 8 with fail;obtain⟨wb,q6⟩:∃x,x=wa:=⟨_,rfl⟩;subst q6;have Z:=hqh (A.o.blk.below d0.o);have L:=d0;have o3:=q4;obtain⟨c0,m0⟩:∃x,x=b0:=⟨_,rfl⟩;subst m0;obtain⟨c1,m0⟩:∃x,x=b1:=⟨_,rfl⟩;subst m0;obtain⟨c2,m0⟩:∃x,x=b2:=⟨_,rfl⟩;subst m0;obtain⟨gg,m0⟩:∃x,x=g:=⟨_,rfl⟩;subst m0;have l4:w.heap.size<=c0:=n6;have m4:D<c0:=h6;obtain⟨K,i0⟩:∃b,b=B:=⟨_,rfl⟩;subst i0;have e0:=hqh (v2.o K (by rw[<-g1.o];rfl));have j1:=hqh A.o.ok;have i1:=hqh A.o.nums;clear kb;have i6:=Z.o.ne;have d1:=hqh (A.o.ko.trans (KO.below L.o));have n3:=hqh (show bJ wb w1.heap.size _ _ from own_below l2.o L.o);have l1:=hqh (A.o.own.below L.o);have Q:=hqh (d5.o.below L.o);have C:=xn (gp:=⟨⟨R,gf,S⟩,r0,s0,gl⟩) (f:=f) (O:=O) (x:=⟨op,v,a,b',m,bin,args,ff,arr,t⟩) (av:=.slice aA an ac) Z.o F.o (b5.o wb d1.o) e4 r2.o (by rw[i2.o];rw[i2.o]at j2;exact j2.o.keep (KO.below (O:=λ_=>False) L.o) (λ_ _ _ c=>c) F.o.args);obtain⟨Y,J⟩:∃Y,Y=K.shorter doW R ⟨op,v,a,b',m,bin,args,ff,arr,t⟩:=⟨_,rfl⟩;have m1:=hqh C;clear C;have w5:=hqh J;have U:okI ⟨R,gf,S⟩ f Y:=by rw[J];exact sW j1.o F.o.one
    have T:I64 Y.n:=by rw[J];exact qR mO i1.o F.o.n
    have x3:=hqh (show InN Y by
     rcases U with e|e;·rw[e];exact⟨by unfold okN;decide,by unfold okN;decide,by unfold okN;decide,by unfold okN;decide,by decide⟩
     ·exact(XOk.mk e F.o.vars T).inN.1);have r3:=hqh U;have q3:=hqh T;have p3:=hqh (show Y.op≠11->Y.args=[]from λc=>by
     rcases U with e|e;·rw[e]
     ·exact(XOk.mk e F.o.vars T).args c);rw[<-J]at e0;have C:=m1.o;unfold prV ax at C;dsimp only at C;rw[<-J]at C;clear J U T m1;have p0:=Q.o.cell 0;have p1:=Q.o.cell 1;have p2:=Q.o.cell 2;apply jqf;iterate 12 go_step
    refine aL rfl 71 (.tmp 7) rfl wr.heap.size rfl 71 _ _ o3.o Tryz.underlying71 rfl aS ?_;simp only[qqa];go_step;go_step;refine C.mono ?_;rintro e wc⟨⟨x5,rfl,j0,n1⟩,V⟩;have a2:=V.weak (O':=O) (λk hk=>i3.o k hk.1 hk.2);obtain⟨p,r,l0,_,_⟩:=j0.ints;dsimp only at l0;obtain⟨s,q1⟩:∃k,k=Y.args.length:=⟨_,rfl⟩;rw[<-q1]at l0;subst l0;clear q1;go_simp;go_step;iterate 3 go_step
    have I:=bP.set (y:=(Y,.slice p s r)) l1.o HY.o V j0 n1 p3.o;have g2:=bP.there l1.o HY.o V;refine jxs rfl 71 (.tmp 29) (.tmp 28) rfl G (i*10) (bI (Y,.slice p s r)).toArray rfl rfl g2 aS (vG rfl) ?_;have n0:KO O wb (wc.setCells G (i*10) (bI (Y,.slice p s r)).toArray.toList):=a2.trans (KO.puts r4.o _ _ _);have I:bP (wc.setCells G (i*10) (bI (Y,.slice p s r)).toArray.toList) O (.slice (some ⟨G,0,none⟩) n c) (li.set i (Y,.slice p s r)):=I;generalize p4:wc.setCells _ _ _=wd at n0 I⊢;clear p4;have j3:=hqh I;have N:=hqh n0;have v1:=(qqi.1 HY.o).1;have h4:fu wd G (i*10) (Y,.slice p s r):=by
     obtain⟨A',c',e',_,d2⟩:=I.ins;have o0:(li.set i (Y,.slice p s r))[i]? =some (Y,.slice p s r):=jqn v1;rcases d2 with e|⟨b,o,e,k⟩;·rw[e]at o0;simp at o0
     ·injection e' with u _ _;rw[e]at u;injection u with u;injection u with u M;have:=k i _ o0;rw[<-u,<-M,qja]at this;exact this
    clear I n0 V a2 j0 n1 g2 v1;have e3:=hqh (Z.o.keep N.o (λk=>by have:=E.o _ k;omega) (λk=>by have:=E.o _ k;omega) (λk=>by have:=E.o _ k;omega) (λk=>by have:=E.o _ k;omega));have DO:=uS gg c0 c1 c2 (2*i) K Y (.slice p s r) wd e3.o x3.o (by unfold maxLen;omega);unfold ax at DO;dsimp only at DO;obtain⟨z0,z1,z2,z3,z4,z5,z6,z7,z8,z9,_⟩:=h4;dsimp only at z0 z1 z2 z3 z4 z5 z6 z7 z8 z9;have lG:=aK z0;clear p0 p1 p2 C;go_wp2_with(first| (go_at_call 97;refine DO.mono ?_;rintro e we⟨rfl,o1,x1⟩;have b3:=hqh o1;have P:=hqh x1;clear o1 x1)|fail);have o4:∀k,O k->¬iK c0 c1 c2 k:=λk hk c=>by have:=E.o k hk;unfold iK at c;omega
    go_roundg ko;case measure=>omega
    case rel=>
     refine⟨i+1,gg,c0,c1,c2,K.does Y,li.set i (Y,.slice p s r),by omega,by omega,by simp,rfl,hqh ⟨j3.o.keep P.o o4,?_,b3.o,l4,j1.o.does r3.o,i1.o.does q3.o,by rw[qjg];exact A.o.len,λj=>?_,e0.o.2⟩,hqh ?_,hqh ?_,m4⟩;·exact(d1.o.trans N.o).then' P.o λk hk c=>by unfold iK at c;omega
     ·rw[List.map_set];by_cases e:j=i;·subst e;rw[qzb oqo,jqn (by rw[qqv];exact(qqi.1 HY.o).1)];exact e0.o.1.symm
      ·rw[jqt (λd=>e d.symm),A.o.code j];by_cases M:j<i;·rw[qzb M,qzb oqo]
       ·rw[qzc M,qzc oqo]
     ·refine dm (dm n3.o N.o (λk hk c=>?_)) P.o (λk hk c=>?_)
      ·have e:D=k:=by simpa [Value.ownBlock]using hk
       have:=E.o k c;omega
      ·have e:D=k:=by simpa [Value.ownBlock]using hk
       unfold iK at c;omega
     ·exact P.o.blk (N.o.blk Q.o (λk=>by have:=E.o _ k;omega)) (λc=>by unfold iK at c;omega)
theorem Qa(v:Value)(l:List InV)(F:Nat)(w:World)(b:InV->Bool)(h:dW w v l)(hl:l.length<=1000000)(T:∀a W,(callFunc F #[a]).run Tryz.prog W=.ok (.enter F #[a]) W)(hc:∀x∈l,∀W,Below w.heap.size w W->Calls Tryz.prog F #[(ax x)] W λe K=>e=.returned (.bool (b x))/\Below W.heap.size W K):Calls Tryz.prog 109 #[v,.func (.func F) #[] #[]] w λe w'=>(∃r:Int,e=.returned (.int .i64 r)/\(0<=r↔l.any b=true))/\Below w.heap.size w w':=by
 obtain⟨A,c,rfl,M,h⟩:=h;obtain⟨n,hn⟩:∃n,n=l.length:=⟨_,rfl⟩;rw[<-hn];have H:=hqh h;have z:=hqh hn;have I:=hqh hl;have t:=hqh hc;clear h hn M hl hc;go_enter Tryz.func109,Tryz.ntmps109;go_wp2_with fail;have R:(Tryz.prog.info? 71).map (λi=>(i.zero,i.size,i.bytes))=some (some (.agg #[.int .u8 0,.int .i64 0,.int .i64 0,.int .i64 0,.int .i64 0,.int .u8 0,.slice none 0 0,.int .i64 0,.int .i64 0,.int .i64 0]),10,96):=kqk;go_loopg [8]n(λgk v wr=>∃i:Nat,i<=n/\n-i<=gk/\v=.int .i64 i/\Hid (Below w.heap.size w wr)/\Hid ((l.take i).any b=false));case atStart=>exact⟨0,qqy _,qqf _,rfl,hqh (qjk _ _),hqh (by simp)⟩
 case round=>
  obtain⟨i,hi,U,rfl,d,u⟩:=hrel;by_cases P:i<n;case neg=>have q:decide ((i:Int)<(n:Int))=false:=qqt oqo;go_wp2_with fail;go_ret;refine⟨⟨-1,rfl,⟨λh=>absurd h oqo,λh=>?_⟩⟩,d.o⟩;have:=u.o;rw[jqc (by have:=z.o;omega),h]at this;cases this
  case pos=>
   have q:decide ((i:Int)<(n:Int))=true:=qqx oqo;have N:i<l.length:=by rw[<-z.o];exact P
   obtain⟨y,m⟩:∃y,l[i]? =some y:=⟨_,qqh N⟩;obtain⟨j,o,rfl,L⟩:∃j o,A=some ⟨j,o,none⟩/\fu wr j (o+i*10) y:=by
    rcases H.o with rfl|⟨j,o,e,k⟩;·simp at m
    ·exact⟨j,o,e,(k i y m).below d.o⟩
   obtain⟨Q,X,Y,Z,y4,y5,y6,y7,y8,y9,_⟩:=L;unfold ax at t;have lb:=aK Q;have S:=I.o;have E:=hqh (t.o y (qqr m) wr d.o);have C:=hqh m;clear m;have V:(i:Int)<(n:Int):=oqo;go_wp2_with fail;refine E.o.mono ?_;rintro e w1⟨rfl,D⟩;have s:=hqh (d.o.trans (D.mono (by have:=d.o.size;omega)));clear D;cases p:b y;case true=>have J:=hqh (show l.any b=true from jqv.2 ⟨y,qqr C.o,p⟩);clear p;go_wp2_with fail;go_ret;exact⟨⟨(i:Int),rfl,λ_=>J.o,λ_=>by omega⟩,s.o⟩
   case false=>have G:=hqh (show(l.take (i+1)).any b=false by rw[jqu,C.o];simp[u.o,p]);clear p;go_wp2_with fail;cases gk with|zero=>omega|succ gk=>
     go_roundg gk;case measure=>omega
     case rel=>exact⟨i+1,by omega,by omega,by simp,s,G⟩
theorem Q7(v:Value)(l:List InV)(F:Nat)(w:World)(b:InV->Bool)(h:dW w v l)(hl:l.length<=1000000)(d:∀a W,(callFunc F #[a]).run Tryz.prog W=.ok (.enter F #[a]) W)(hc:∀x∈l,∀W,Below w.heap.size w W->Calls Tryz.prog F #[(ax x)] W λe m=>e=.returned (.bool (b x))/\Below W.heap.size W m):Calls Tryz.prog 46 #[v,.func (.func F) #[] #[]] w λe w'=>e=.returned (.bool (l.any b))/\Below w.heap.size w w':=by
 have j:=hqh (Qa v l F w b h hl d hc);clear h hl d hc;go_enter Tryz.func46,Tryz.ntmps46;go_wp2_with fail;refine j.o.mono ?_;rintro e w1⟨⟨r,rfl,hr⟩,c⟩;have HR:=hqh hr;have i:=hqh c;clear hr c;have hd:l.any b=decide (0<=r):=by rw[qzd,qqu];exact HR.o.symm
 have k:=hqh hd;clear hd;cases h0:decide (0<=r);all_goals go_wp2_with fail
 all_goals go_ret
 all_goals exact⟨aO (by rw[k.o,h0]),i.o⟩
theorem M9(y:InV)(w:World):Calls Tryz.prog 155 #[ax y] w λe w'=>e=.returned (.bool (y.1.op !=0))/\Below w.heap.size w w':=by obtain⟨⟨op,v,a,b,n,bin,args,f,arr,t⟩,av⟩:=y;unfold ax;dsimp only;have c:=(Below.refl w.heap.size w).alloc (Nat.le_refl _) (.cells #[.int .u8 op,.int .i64 v,.int .i64 a,.int .i64 b,.int .i64 n,.int .u8 bin,av,.int .i64 f,.int .i64 arr,.int .i64 t] 71);have d:=hqh c;clear c;go_enter Tryz.func155,Tryz.ntmps155;go_wp2_with fail;go_ret;refine⟨aO ?_,d.o⟩;rw[qzd];simp only[qjj,qqe,jxl,ne_eq];omega
theorem Qz(v:Value)(l:List InV)(w:World)(h:dW w v l)(hl:l.length<=1000000):Calls Tryz.prog 46 #[v,.func (.func 155) #[] #[]] w λe w'=>e=.returned (.bool (l.any λy=>y.1.op !=0))/\Below w.heap.size w w':=Q7 v l 155 w (λy=>y.1.op !=0) h hl (λa U=>enters_of Tryz.func155 kqk rfl #[a] U) λx _ W _=>M9 x W
