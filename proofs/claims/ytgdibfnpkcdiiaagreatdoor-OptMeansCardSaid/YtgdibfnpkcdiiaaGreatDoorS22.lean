/- Joint text: OShE, OOwnL, OWithin, OGone. By an AI agent. -/
import Derived.Test.YtgdibfnpkcdiiaaGreatDoorSzy
import Derived.Test.YtgdibfnpkcdiiaaGreatDoorS21
import Derived.Test.YtgdibfnpkcdiiaaGreatDoorS02
set_option linter.all false
set_option maxRecDepth 100000
set_option maxHeartbeats 64000000
namespace Go.Proofs.YtgdibfnpkcdiiaaGreatDoor
open Go.RowKit Go.Maps
def jA(w:World)(O:Nat->Prop)(y:InV):Prop:=(y.1.op≠11/\y.1.args=[]/\aD w y.2 [])\/(w.ownsRow 0 3 1 y.2 y.1.args.length (y.1.args.flatMap bQ)/\∀b,y.2.ownBlock=some b->O b)
def jA.keep{w w':World}{O O':Nat->Prop}{y:InV}(h:jA w O y)(k:KO O' w w')(hn:∀b,y.1.op=11->y.2.ownBlock=some b->¬O' b)(ha:y.1.op≠11->y.1.args=[]):jA w' O y:=by
 by_cases e:y.1.op=11
 ·rcases h with⟨h1,_⟩|⟨h1,h2⟩;·exact absurd e h1
  ·exact Or.inr ⟨di h1 k λb a=>hn b e a,h2⟩
 ·left;rcases h with⟨h0,h1,A,c,h2,_⟩|⟨h1,_⟩;·exact⟨e,h1,A,c,h2,qqy _,Or.inl rfl⟩
  ·obtain⟨A,c,hv⟩:=dM h1;rw[ha e]at hv;exact⟨e,ha e,A,c,hv,qqy _,Or.inl rfl⟩
def jA.weak{w:World}{O O':Nat->Prop}{y:InV}(h:jA w O y)(a:∀b,O b->O' b):jA w O' y:=h.imp id λ⟨h1,h2⟩=>⟨h1,λb c=>a b (h2 b c)⟩
def jA.ints{w:World}{O:Nat->Prop}{y:InV}(h:jA w O y):aD w y.2 y.1.args:=by
 rcases h with⟨_,h1,h2⟩|⟨h1,_⟩;·rw[h1];exact h2
 ·exact rG h1 rfl
structure XOk(p:PrW)(f:FnP)(x:In):Prop where
 one:dw p f x=true
 vars:f.vars<=200
 n:I64 x.n
def XOk.inN{p:PrW}{f:FnP}{x:In}(h:XOk p f x):InN x/\(∀u∈x.args,okN u)/\(og x.op=true->x.bin∈jw):=by
 have h1:=dB.1 h.one;have hv:=h.vars;have small:∀k:Int,0<=k->k<=200->okN k:=λk h0 h2=>MU ⟨by omega,by omega⟩;have sm:∀(b:Bool)(k:Int),0<=k->(if b then k<f.vars else k=0)->okN k:=λb k h0 h2=>by
  cases b;·simp at h2;exact small k h0 oqo
  ·simp at h2;exact small k h0 oqo
 refine⟨⟨sm _ _ h1.2.1.1 h1.2.1.2,sm _ _ h1.2.2.1.1 h1.2.2.1.2,sm _ _ h1.2.2.2.1.1 h1.2.2.2.1.2,MU h.n,?_⟩,λu hu=>?_,λc=>?_⟩
 ·have a:=h1.2.2.2.2.2.2.2.2.1;have:x.bin<=200:=by cases hc:og x.op with|false=>rw[hc]at a;simp at a;omega|true=>rw[hc]at a;simp[jw]at a;omega
  unfold Lit.wf;have d:IntKind.min .u8=0:=by decide
  have a2:IntKind.max .u8=255:=by decide
  simp only[d,a2,qqn,qqu];omega
 ·have:=Gl h.one u hu;exact small u this.1 oqo
 ·have a:=h1.2.2.2.2.2.2.2.2.1;rw[c]at a;exact a
def XOk.args{p:PrW}{f:FnP}{x:In}(h:XOk p f x)(a:x.op≠11):x.args=[]:=by have h1:=(dB.1 h.one).2.2.2.2.2.2.2.2.2.1;unfold fC nY at h1;rw[qzc (by simpa using a)]at h1;exact jzd oqo
def Nw(O:Nat->Prop)(w:World)(y:In)(e:Ending)(w':World):Prop:=(∃a,e=.returned (aJ ⟨y,a⟩)/\jA w' O ⟨y,a⟩)/\Below w.heap.size w w'
def iT{w w':World}{O:Nat->Prop}{y z:In}{e:Ending}(h:(∃a,e=.returned (aJ ⟨y,a⟩)/\aD w' a [])/\Below w.heap.size w w')(b:y=z)(ha:z.args=[])(ho:z.op≠11):Nw O w z e w':=by obtain⟨⟨av,h1,h2⟩,h3⟩:=h;subst b;exact⟨⟨av,h1,Or.inl ⟨ho,ha,h2⟩⟩,h3⟩
section
variable {g b0 b1 b2 n:Nat}{B:af}{gp:PrG}{x:In}{av:Value}{w:World}{O:Nat->Prop}{f:FnP}
def uC(b:af){x:In}(h:x.args=[]):(b.dR x).args=[]:=by
 unfold af.dR;split;·rfl
 ·split;·rfl
  ·exact h
def Ki{x:In}(n m:Option Int)(h:x.args=[]):(ak x n m).args=[]:=by
 have hm:∀v a,(aS (bn v a)).args=[]:=λv a=>by unfold aS;split<;>rfl
 unfold ak;split;·exact hm _ _
 ·split;·exact hm _ _
  ·split;·exact hm _ _
   ·split;·exact hm _ _
    ·split;·rfl
     ·exact h
def Dc(D:Nat->Int->Int->Int)(b:af){x:In}(h:x.args=[]):(b.iK D x).args=[]:=by
 unfold af.iK;split;·rfl
 ·split
  ·split;·rfl
   ·exact uC b rfl
  ·exact Ki _ _ h
def uG(D:Nat->Int->Int->Int)(arr:List Int)(b:af){x:In}(h:x.args=[]):(b.bB D arr x).args=[]:=by
 unfold af.bB;split;·exact uC b h
 ·split;·exact Dc D b h
  ·split
   ·split;·split<;>first|rfl|exact h
    ·exact h
   ·split
    ·split;·split<;>first|rfl|exact h
     ·exact h
    ·split
     ·split;·split<;>rfl
      ·exact h
     ·exact h
def DN(b:af){x:In}(h:x.op=2):(b.dR x).op<=3:=by
 unfold af.dR;split;·exact qqy _
 ·split;·exact(by decide:1<=3)
  ·omega
def Nf{x:In}(n m:Option Int)(h:x.op=3):(ak x n m).op<=3:=by
 have hm:∀v a,(aS (bn v a)).op<=3:=λv a=>by
  unfold aS;split;·exact qqy _
  ·exact(by decide:2<=3)
 unfold ak;split;·exact hm _ _
 ·split;·exact hm _ _
  ·split;·exact hm _ _
   ·split;·exact hm _ _
    ·split;·exact(by decide:1<=3)
     ·omega
def Ql(D:Nat->Int->Int->Int)(b:af){x:In}(h:x.op=3):(b.iK D x).op<=3:=by
 unfold af.iK;split;·exact(by decide:1<=3)
 ·split
  ·split;·exact qqy _
   ·exact DN b rfl
  ·exact Nf _ _ h
def Lp(D:Nat->Int->Int->Int)(arr:List Int)(b:af){x:In}(h:x.op≠11):(b.bB D arr x).op≠11:=by
 unfold af.bB;split;·rename_i e;have:=DN b e;omega
 ·split;·rename_i e;have:=Ql D b e;omega
  ·split
   ·split;·split<;>first|decide|exact h
    ·exact h
   ·split
    ·split;·split<;>first|decide|exact h
     ·exact h
    ·split
     ·split;·split<;>simp
      ·exact h
     ·exact h
def wD(D:Nat->Int->Int->Int)(arr:List Int)(b:af){x:In}(h:x.op≠11):(b.shorter D arr x).op≠11:=Lp D arr b (by
 unfold af.rooted;split;·exact h
 ·split;·exact h
  ·exact h)
def Ea(h:cZ w g b0 b1 b2 n B)(o:XOk gp.p f x)(ho:x.op≠11)(C:aD w gp.av gp.p.arrays)(E:gp.p.arrays.length<=16)(ha:aD w av []):Calls Tryz.prog 154 #[.pointer (some ⟨g,0,none⟩),prV gp,aJ ⟨x,av⟩] w (Nw O w (B.shorter doW gp.p.arrays x)):=by
 have r:=o.args ho;have j:=wD doW gp.p.arrays B ho;have h1:=dB.1 o.one;obtain⟨⟨kv,c,q,D,s⟩,_,u⟩:=o.inN;obtain⟨A,d,rfl,_,_⟩:=ha;obtain⟨op,v,a,b,m,bin,args,i,arr,t⟩:=x;simp only at r ho kv c q D s u;subst r;have z:=h1.1;have p:=h1.2.2.2.2.2.1;clear h1 o;simp only at z p;have y:op=1\/op=2\/op=3\/op=4\/op=5\/op=6\/op=7\/op=8\/op=9\/op=10\/op=12\/op=13\/op=14:=oqo;rcases y with rfl|rfl|rfl|rfl|rfl|rfl|rfl|rfl|rfl|rfl|rfl|rfl|rfl;·exact(uI 1 (by decide) g b0 b1 b2 n B gp v a b m bin i arr t A d w h c).mono λe w' k=>iT k rfl rfl j
 ·exact(Dt g b0 b1 b2 n B gp v a b m bin i arr t A d w h c).mono λe w' k=>iT k rfl (uC _ rfl) j
 ·exact(OT g b0 b1 b2 n B gp v a b m bin i arr t A d w h kv c q s (u rfl)).mono λe w' k=>iT k rfl (Dc _ _ rfl) j
 ·exact(qb 4 (by decide) g b0 b1 b2 n B gp v a b m bin i arr t A d w h c).mono λe w' k=>iT k rfl rfl j
 ·exact(PK g b0 b1 b2 n B gp v a b m bin i arr t A d w h c q).mono λe w' k=>iT k rfl rfl j
 ·exact(NP g b0 b1 b2 n B gp v a b m bin i arr t A d w h c C ⟨p.1,p.2⟩ oqo).mono λe w' k=>iT k rfl (uG _ _ _ rfl) j
 ·exact(Ny g b0 b1 b2 n B gp v a b m bin i arr t A d w h c).mono λe w' k=>iT k rfl (uG _ _ _ rfl) j
 ·exact(uI 8 (by decide) g b0 b1 b2 n B gp v a b m bin i arr t A d w h c).mono λe w' k=>iT k rfl rfl j
 ·exact(qb 9 (by decide) g b0 b1 b2 n B gp v a b m bin i arr t A d w h c).mono λe w' k=>iT k rfl rfl j
 ·exact(qb 10 (by decide) g b0 b1 b2 n B gp v a b m bin i arr t A d w h c).mono λe w' k=>iT k rfl rfl j
 ·exact(qb 12 (by decide) g b0 b1 b2 n B gp v a b m bin i arr t A d w h c).mono λe w' k=>iT k rfl rfl j
 ·exact(uI 13 (by decide) g b0 b1 b2 n B gp v a b m bin i arr t A d w h c).mono λe w' k=>iT k rfl rfl j
 ·exact(KQ g b0 b1 b2 n B gp v a b m bin i arr t A d w h c).mono λe w' k=>iT k rfl (uG _ _ _ rfl) j
def yI(h:cZ w g b0 b1 b2 n B)(i:XOk gp.p f x)(y:aD w gp.av gp.p.arrays)(s:gp.p.arrays.length<=16)(j:x.args.length<=1000)(ha:jA w O ⟨x,av⟩):Calls Tryz.prog 154 #[.pointer (some ⟨g,0,none⟩),prV gp,aJ ⟨x,av⟩] w λe w'=>(∃d,e=.returned (aJ ⟨B.shorter doW gp.p.arrays x,d⟩)/\jA w' O ⟨B.shorter doW gp.p.arrays x,d⟩/\((B.shorter doW gp.p.arrays x).op=11->x.op=11/\d=av))/\KO (λk=>x.op=11/\av.ownBlock=some k) w w':=by
 by_cases ho:x.op=11
 ·obtain⟨k1,k2,_⟩:=i.inN;have hs:B.shorter doW gp.p.arrays x={x with args:=x.args.map B.root}:=by
   unfold af.shorter;have hr:B.rooted x={x with args:=x.args.map B.root}:=by unfold af.rooted;rw[qzc (by rw[ho];decide),qzc (by rw[ho];decide),qzb ho]
   rw[hr];unfold af.bB;simp only[];rw[qzc oqo,qzc oqo,qzc oqo,qzc oqo,qzc oqo]
  rw[hs];obtain⟨op,v,a,b,m,bin,args,r,arr,t⟩:=x;simp only at ho j hs k2;subst ho;rcases ha with⟨h1,_⟩|⟨p,z⟩;·exact absurd rfl h1
  obtain⟨A,q,o⟩:=dM p;dsimp only at o;subst o;refine(Mx g b0 b1 b2 n B gp v a b m bin args r arr t A args.length q w h k1.a k2 rfl j p).mono ?_;rintro C w1⟨rfl,h1,h2⟩;exact⟨⟨_,rfl,Or.inr ⟨by simpa using h1,z⟩,λ_=>⟨rfl,rfl⟩⟩,h2.weak λk hk=>⟨rfl,hk⟩⟩
 ·have u:=i.args ho;refine(Ea (O:=O) h i ho y s (by have:=ha.ints;rw[u]at this;exact this)).mono ?_;rintro e w1⟨⟨d,h1,h2⟩,h3⟩;exact⟨⟨d,h1,h2,λc=>absurd c (wD _ _ _ ho)⟩,KO.below h3⟩
end
structure bP(w:World)(O:Nat->Prop)(lv:Value)(l:List InV):Prop where
 row:w.ownsRow 0 71 10 lv l.length (l.flatMap aY)uV:∀b,lv.ownBlock=some b->O b
 args:∀y∈l,jA w O y
 no:∀y∈l,y.1.op≠11->y.1.args=[]ne:∀(i j:Nat)(y z:InV),i≠j->l[i]? =some y->l[j]? =some z->y.1.op=11->z.1.op=11->∀b,y.2.ownBlock=some b->z.2.ownBlock≠some b
section
variable {w w':World}{O O':Nat->Prop}{lv:Value}{l:List InV}
def bP.ins(h:bP w O lv l):dS w lv l:=Ez aY 10 (λ_=>rfl) h.row λb o y c a=>⟨a 0 oqo,a 1 oqo,a 2 oqo,a 3 oqo,a 4 oqo,a 5 oqo,a 6 oqo,a 7 oqo,a 8 oqo,a 9 oqo,(h.args y c).ints⟩
def bP.keep(h:bP w O lv l)(k:KO O' w w')(hn:∀b,O b->¬O' b):bP w' O lv l where
 row:=di h.row k λb a=>hn b (h.uV b a);uV:=h.uV;args:=λy c=>(h.args y c).keep k (λb e a=>by
  rcases h.args y c with⟨h1,_⟩|⟨_,h2⟩;·exact absurd e h1
  ·exact hn b (h2 b a)) (h.no y c);no:=h.no;ne:=h.ne
def bP.below(h:bP w O lv l)(a:Below w.heap.size w w'):bP w' O lv l:=h.keep (KO.below (O:=λ_=>False) a) λ_ _ c=>c
def bP.weak(h:bP w O lv l)(a:∀b,O b->O' b):bP w O' lv l:=⟨h.row,λb c=>a b (h.uV b c),λy d=>(h.args y d).weak a,h.no,h.ne⟩
def AY:List Value->Nat->List Value->List Value|xs,_,[]=>xs|xs,o,c::cs=>AY (xs.set o c) (o+1) cs
def EO:∀(cs M A R:List Value),M.length=cs.length->AY (A++(M++R)) A.length cs=A++(cs++R)|[],[],A,R,_=>rfl|[],_::_,_,_,h=>by simp at h|_::_,[],_,_,h=>by simp at h|c::cs,m::M,A,R,h=>by have ih:=EO cs M (A++[c]) R (by simpa using h);simp only[qzl,qzv,jqz,List.append_assoc,jqm,jzj,qja]at ih;show AY ((A++(m::M++R)).set A.length c) (A.length+1) cs=_;rw[jzv _ _ (qqf _),jzg];exact ih
def Rs{α:Type}(C:α->List Value)(z:Nat)(hz:∀x,(C x).length=z){l:List α}{i:Nat}{x:α}(y:α)(h:l[i]? =some x):AY (l.flatMap C) (i*z) (C y)=(l.set i y).flatMap C:=by
 have hi:=(qqi.1 h).1;have b:l[i]=x:=(qqi.1 h).2;have e:l=l.take i++x::l.drop (i+1):=by have h1:=(List.take_append_drop i l).symm;rw[jqq hi,b]at h1;exact h1
 have a:l.set i y=l.take i++y::l.drop (i+1):=by
  conv=>lhs;rw[e]
  rw[jzv _ _ (by rw[jqg];omega),jqg,jqy oqo,jzg];rfl
 have hl:((l.take i).flatMap C).length=i*z:=by rw[oU C z hz,jqg,jqy oqo]
 rw[a,jza,jqe,<-hl];have:=EO (C y) (C x) ((l.take i).flatMap C) ((l.drop (i+1)).flatMap C) (by rw[hz,hz]);rw[<-this];congr 1;conv=>lhs;rw[e]
 rw[jza,jqe]
def FB{base e size n g cap:Nat}:∀(cs:List Value)(o:Nat)(w:World)(xs:List Value),w.ownsRow base e size (.slice (some ⟨g,0,none⟩) n cap) n xs->(w.setCells g o cs).ownsRow base e size (.slice (some ⟨g,0,none⟩) n cap) n (AY xs o cs)|[],_,_,_,h=>h|c::cs,o,w,xs,h=>FB cs (o+1) _ _ (je h c)
def KO.puts{O:Nat->Prop}{g:Nat}(b:O g):∀(cs:List Value)(o:Nat)(w:World),KO O w (w.setCells g o cs)|[],_,w=>KO.refl O w|c::cs,o,w=>(KO.set (O:=O) (a:=⟨g,o,none⟩) b c).trans (KO.puts b cs (o+1) _)
def xm{y:In}{v:Value}(h:v.oneCell'=true):(aY (y,v)).toArray.all (·.oneCell')=true:=all_oneCell_toArray λu hu=>by simp only[aY,qzh,qjh,jzq]at hu;rcases hu with rfl|rfl|rfl|rfl|rfl|rfl|rfl|rfl|rfl|rfl<;>first|rfl|exact h
def PY{g n cap:Nat}(hr:w.ownsRow 0 71 10 (.slice (some ⟨g,0,none⟩) n cap) l.length (l.flatMap aY)){i:Nat}{y:InV}(hi:l[i]? =some y):w.there g (i*10) 10:=λj hj=>by have h:=(qqi.1 hi).1;obtain⟨A,c,hv⟩:=dM hr;injection hv with _ d _;have h1:(i+1)*10<=l.length*10:=jqo _ h;subst d;rw[hr.cellAt (i*10+j) oqo,iD aY 10 (λ_=>rfl) l i j y hi hj];obtain⟨a,e⟩:=aQ hr (b:=g) rfl;refine⟨?_,Blk.free (t:=71) (cs:=a) e _⟩;match j,hj with|0,_=>rfl|1,_=>rfl|2,_=>rfl|3,_=>rfl|4,_=>rfl|5,_=>rfl|6,_=>rfl|7,_=>rfl|8,_=>rfl|9,_=>rfl
def bP.typ{g n cap:Nat}{w0:World}(h:bP w0 O (.slice (some ⟨g,0,none⟩) n cap) l):∀b,(Value.slice (some ⟨g,0,none⟩) n cap).ownBlock=some b->∀z∈l,z.1.op=11->z.2.ownBlock≠some b:=λb e z hz h1 hc=>by
 obtain⟨c1,c⟩:=aQ h.row e;rcases h.args z hz with⟨q,_⟩|⟨q,_⟩;·exact q h1
 ·obtain⟨c2,a⟩:=aQ q hc;rw[c]at a;injection a with a;injection a with _ d;cases d
def bP.there{g n cap:Nat}{w0:World}(h:bP w0 O (.slice (some ⟨g,0,none⟩) n cap) l){i:Nat}{x:InV}(hi:l[i]? =some x)(hk:KO (λk=>x.1.op=11/\x.2.ownBlock=some k) w0 w):w.there g (i*10) 10:=PY (di h.row hk λb a c=>h.typ b a x (qqr hi) c.1 c.2) hi
def bP.set{g n cap:Nat}{w0:World}(h:bP w0 O (.slice (some ⟨g,0,none⟩) n cap) l){i:Nat}{x y:InV}(hi:l[i]? =some x)(hk:KO (λk=>x.1.op=11/\x.2.ownBlock=some k) w0 w)(ha:jA w O y)(r:y.1.op=11->x.1.op=11/\y.2=x.2)(s:y.1.op≠11->y.1.args=[]):bP (w.setCells g (i*10) (aY y)) O (.slice (some ⟨g,0,none⟩) n cap) (l.set i y):=by
 have typ:=h.typ;have D:=qqr hi;have C:=di h.row hk λb m c=>typ b m x D c.1 c.2;have t:∀z,jA w O z->(z.1.op≠11->z.1.args=[])->(z.1.op=11->z.2.ownBlock≠some g)->jA (w.setCells g (i*10) (aY y)) O z:=λz hz h1 h2=>hz.keep (KO.puts (O:=λk=>k=g) rfl _ _ _) (λb e m c=>by have c:b=g:=c;rw[c]at m;exact h2 e m) h1;have hlen:(l.set i y).length=l.length:=qjg ..;refine⟨?_,h.uV,λz hz=>?_,λz hz=>?_,λa b z z' G F H h1 h2 q v=>?_⟩
 ·rw[hlen];have hn:n=l.length:=by obtain⟨A,c,hv⟩:=dM C;injection hv
  subst hn;have:=FB (aY y) (i*10) w _ C;rw[Rs aY 10 (λ_=>rfl) y hi]at this;exact this
 ·obtain⟨j,hj⟩:=jqs.1 hz;by_cases e:j=i;·subst e;rw[jqb (qqi.1 hi).1]at hj;cases hj;exact t y ha s λc1 c2=>by obtain⟨d1,d2⟩:=r c1;rw[d2]at c2;exact typ g rfl x D d1 c2
  ·rw[jqd (λc=>e c.symm)]at hj;have p:=qqr hj;exact t z ((h.args z p).keep hk (λb E m c=>h.ne j i z x e hj hi E c.1 b m c.2) (h.no z p)) (h.no z p) λc1 c2=>typ g rfl z p c1 c2
 ·rcases List.mem_or_eq_of_mem_set hz with hz|rfl;·exact h.no z hz
  ·exact s
 ·have get:∀(c:Nat)(u:InV),(l.set i y)[c]? =some u->u.1.op=11->∃o,l[c]? =some o/\o.1.op=11/\u.2=o.2:=λc u hc ho=>by
   by_cases e:c=i;·subst e;rw[jqb (qqi.1 hi).1]at hc;cases hc;obtain⟨d1,d2⟩:=r ho;exact⟨x,hi,d1,d2⟩
   ·rw[jqd (λd=>e d.symm)]at hc;exact⟨u,hc,ho,rfl⟩
  obtain⟨u,u1,u2,u3⟩:=get a z F h1;obtain⟨o,v1,v2,v3⟩:=get b z' H h2;rw[u3]at v;rw[v3];exact h.ne a b u o G u1 v1 u2 v2 q v
end
def dJ.empty{κ:Type}{k e:TypeId}{good:κ->Prop}{kl:κ->Lit}{w:World}{b:Nat}(h:w.heap[b]? =some (.map #[] 0)):dJ k good kl e w b 0 (λ_=>none):=by obtain⟨D,⟨es,c,h1,h2,h3,i⟩,j⟩:=dJ.made (κ:=κ) (k:=k) (good:=good) (kl:=kl) (e:=e) w;have hn:(w.alloc (.map #[] 0)).heap[w.heap.size]? =some (.map #[] 0):=jxg w _;rw[hn]at h1;injection h1 with h1;injection h1 with a d;subst a;subst d;exact⟨D,⟨#[],0,h,h2,h3,i⟩,j⟩
def Da(w:World):Calls Tryz.prog 93 #[] w λe w'=>∃g b0 b1 b2,e=.returned (.pointer (some ⟨g,0,none⟩))/\Below w.heap.size w w'/\w.heap.size<=b0/\cZ w' g b0 b1 b2 0 .new:=(Pg w).mono λ_ _⟨b0,b1,b2,g,h1,h2,h3,b,c,d,h,i,j,a⟩=>⟨g,b0,b1,b2,h1,h2,h3,⟨h,dJ.empty i,dJ.empty j,dJ.empty a,b,c,d⟩⟩
structure xR(w0:World)(O:Nat->Prop)(arr:List Int)(vars:Int)(lv:Value)(l:List InV)(i:Nat)(w:World)(g b0 b1 b2:Nat)(B:af)(li:List InV):Prop where
 own:bP w O lv li
 ko:KO O w0 w
 blk:cZ w g b0 b1 b2 (2*i) B
 new:w0.heap.size<=b0
 ok:B.Ok vars
 nums:B.jh
 len:li.length=l.length
 code:∀j,(li.map (·.1))[j]? =if j<i then(aK doW arr (l.map (·.1)))[j]? else(l.map (·.1))[j]?
 rest:(aK doW arr (l.map (·.1))).drop i=bG doW arr (eu (l.map (·.1))) i B ((l.map (·.1)).drop i)
def BC:af.new.jh:=⟨λ_ _ e=>(by cases e)⟩
def xR.all{w0 w:World}{O:Nat->Prop}{arr:List Int}{vars:Int}{lv:Value}{l li:List InV}{g b0 b1 b2:Nat}{B:af}(h:xR w0 O arr vars lv l l.length w g b0 b1 b2 B li):li.map (·.1)=aK doW arr (l.map (·.1)):=by
 apply jqk;intro j;rw[h.code j];split;·rfl
 ·rename_i hj;have:(aK doW arr (l.map (·.1))).length=l.length:=by have:=jZ doW arr (eu (l.map (·.1))) (l.map (·.1)) 0 .new;rw[qqv]at this;exact this
  rw[qza (by simp;omega),qza oqo]
def xR.at{w0 w:World}{O:Nat->Prop}{arr:List Int}{vars:Int}{lv:Value}{l li:List InV}{i:Nat}{g b0 b1 b2:Nat}{B:af}(h:xR w0 O arr vars lv l i w g b0 b1 b2 B li){x:InV}(d:l[i]? =some x){a:af}(b:a=if eu (l.map (·.1)) i then .new else B):(aK doW arr (l.map (·.1)))[i]? =some (a.shorter doW arr x.1)/\(aK doW arr (l.map (·.1))).drop (i+1)=bG doW arr (eu (l.map (·.1))) (i+1) (a.does (a.shorter doW arr x.1)) ((l.map (·.1)).drop (i+1)):=by
 have hm:(l.map (·.1))[i]? =some x.1:=by rw[qqp,d];rfl
 have c:=(qqi.1 hm).1;have e:(l.map (·.1))[i]=x.1:=(qqi.1 hm).2;have hr:=h.rest;rw[jqq c,e]at hr;simp only[bG]at hr;rw[<-b]at hr;constructor;·have:=jqp (λq:List In=>q[0]?) hr;simpa using this
 ·have:=jqp List.tail hr;simpa using this
def Ku(gp:PrG)(f:FnP)(lv:Value)(l:List InV)(O:Nat->Prop)(w:World)(r5:∀w',KO O w w'->aD w' gp.av gp.p.arrays)(i4:gp.p.arrays.length<=16)(h:bP w O lv l)(hO:∀k,O k->k<w.heap.size)(hx:∀y∈l,XOk gp.p f y.1)(p5:f.code.length=l.length)(hn:l.length<=8000)(n5:∀y∈l,y.1.args.length<=1000)(h0:0<l.length):Calls Tryz.prog 126 #[prV gp,lv] w λe w'=>e=.returned (.tuple #[])/\∃l',l'.map (·.1)=aK doW gp.p.arrays (l.map (·.1))/\bP w' O lv l'/\KO O w w':=by
 have e5:=hqh r5;have H:=hqh h;have E:=hqh hO;have HX:=hqh hx;have HF:=hqh p5;have s5:=hqh n5;obtain⟨n,r2⟩:∃n,n=l.length:=⟨_,rfl⟩;obtain⟨G,c,rfl,m5⟩:∃G c,lv=.slice (some ⟨G,0,none⟩) n c/\O G:=by obtain⟨G,cap,hv,_,_⟩:=h.row.form h0;exact⟨G,cap,by rw[r2];exact hv,h.uV G (by rw[hv];rfl)⟩
 have w4:=hqh m5;have LD:=IQ (.slice (some ⟨G,0,none⟩) n c) l;rw[<-r2]at h0 hn LD;have HN:=hqh r2;clear r5 h hO hx p5 n5 r2 m5;have LD:=λW(hW:bP W O (.slice (some ⟨G,0,none⟩) n c) l)=>LD W hW.ins oqo (λy X k=>by have:=vM (HX.o y X).one (by unfold jq;simpa using k);rw[HF.o,<-HN.o]at this;exact this);have i1:=hqh LD;clear LD;obtain⟨⟨R,gf,S⟩,s0,x0,gl⟩:=gp;dsimp only at i4;unfold prV;dsimp only;go_enter Tryz.func126,Tryz.ntmps126;have q2:=(Below.refl w.heap.size w).alloc (Nat.le_refl _) (.cells #[s0,x0,.int .i64 S] 25);have P0:=Blk.new w 25 #[s0,x0,.int .i64 S];go_upto_region 1 with fail;generalize q6:w.alloc (.cells #[s0,x0,.int .i64 S] 25)=w1 at q2 P0⊢;clear q6;have d3:=hqh q2;have o3:=hqh P0;have n3:=hqh (H.o.below q2);clear q2 P0;have x4:=hqh (i1.o w1 n3.o);go_upto_region 3 with(first| (go_at_call 92;refine x4.o.mono ?_;rintro e w2⟨⟨bv,rfl,t1⟩,o5⟩;have g3:=hqh t1;have d1:=hqh o5;clear t1 o5)| (go_at_call 93;refine(Da w2).mono ?_;rintro e w3⟨g0,e4,i5,l5,rfl,a1,v1,hr0⟩;have r0:=hqh a1;have j3:=hqh v1;have h5:=hqh hr0;clear a1 v1 hr0)|fail);have s1:=d3.o.size;have s2:=d1.o.size;have s3:=r0.o.size;have a6:=hqh ((d3.o.trans (d1.o.mono s1)).trans (r0.o.mono oqo));obtain⟨D,cb,g6,h6,l6⟩:∃D cb,bv=.slice (some ⟨D,0,none⟩) (n+1:Nat) cb/\w1.heap.size<=D/\D<w2.heap.size:=by have:=g3.o;unfold dh at this;obtain⟨G',cap,hv,_,_⟩:=this.form (by simp);have hl:=this.lt G' (by rw[hv];rfl);exact⟨G',cap,by rw[hv];simp,hl.1,hl.2⟩
 subst g6;have w5:=hqh (show dh w3 w1.heap.size _ _ from own_below g3.o r0.o);have d5:=hqh ((o3.o.below d1.o).below r0.o);have b5:=hqh ((n3.o.below d1.o).below r0.o);have x5:=hqh (show xR w O R f.vars (.slice (some ⟨G,0,none⟩) n c) l 0 w3 g0 e4 i5 l5 .new l from⟨b5.o,KO.below a6.o,h5.o,by have:=j3.o;omega,af.qW _,BC,rfl,λj=>by rw[qzc oqo],by simp[aK]⟩);have i6:D<e4:=by have:=j3.o;omega
 have a7:w.heap.size<w3.heap.size:=d5.o.lt;have v6:w.heap.size<D:=by have:=o3.o.lt;omega
 clear i1 x4 n3 g3 o3 b5 h5 j3 d3 d1 r0 s1 s2 s3 h6 l6;go_wp2_with fail;go_loopg [5,13]n(λgk v5 v wr=>∃(i g b0 b1 b2:Nat)(B:af)(li:List InV),i<=n/\n-i<=gk/\v=.int .i64 i/\v5=.pointer (some ⟨g,0,none⟩)/\Hid (xR w O R f.vars (.slice (some ⟨G,0,none⟩) n c) l i wr g b0 b1 b2 B li)/\Hid (dh wr w1.heap.size (.slice (some ⟨D,0,none⟩) (n+1:Nat) cb) ((List.range (n+1)).map (eu (l.map (·.1)))))/\Hid (Blk wr w.heap.size 25 #[s0,x0,.int .i64 S])/\D<b0);case atStart=>exact⟨0,g0,e4,i5,l5,.new,l,qqy _,qqf _,rfl,rfl,x5,w5,d5,i6⟩
 case round=>
  obtain⟨i,g,b0,b1,b2,B,li,hi,w6,rfl,rfl,A,n2,g5,m6⟩:=hrel;by_cases q5:i<n;case neg=>
   have q:decide ((i:Int)<(n:Int))=false:=qqt oqo;have o6:i=l.length:=by have:=HN.o;omega
   go_wp2_with fail;go_end0;have hI:=A.o;rw[o6]at hI;exact⟨rfl,li,hI.all,hI.own,hI.ko⟩
  case pos=>
   have q:decide ((i:Int)<(n:Int))=true:=qqx oqo;have x6:(i:Int)<(n:Int):=oqo;obtain⟨y,X⟩:∃y,li[i]? =some y:=⟨_,qqh (by rw[A.o.len,<-HN.o];exact q5)⟩;obtain⟨z,hz⟩:∃z,l[i]? =some z:=⟨_,qqh (by rw[<-HN.o];exact q5)⟩;have t2:y.1=z.1:=by have:=A.o.code i;rw[qzc oqo,qqp,qqp,X,hz]at this;exact jzt this
   have F:=hqh (show XOk ⟨R,gf,S⟩ f y.1 by rw[t2];exact HX.o z (qqr hz));have v2:=hqh (show y.1.args.length<=1000 by rw[t2];exact s5.o z (qqr hz));have x2:=λ(B':af)(hB:B'=if eu (l.map (·.1)) i then .new else B)=>A.o.at hz hB;rw[<-t2]at x2;have b3:=hqh x2;clear x2;have o2:=A.o.own.args y (qqr X);have l3:=hqh (show∀k,y.1.op=11->y.2.ownBlock=some k->O k from λk e hk=>by
    rcases o2 with⟨h1,_⟩|⟨_,h2⟩;·exact absurd e h1
    ·exact h2 k hk);have e6:gF wr G (i*10) y:=by
    obtain⟨A',c',e',_,g2⟩:=A.o.own.ins;rcases g2 with e|⟨b,o,e,k⟩;·rw[e]at X;simp at X
    ·injection e' with u _ _;rw[e]at u;injection u with u;injection u with u M;have:=k i y X;rw[<-u,<-M,qja]at this;exact this
   have HY:=hqh X;obtain⟨y0,y1,y2,y3,y4,y5,y6,y7,y8,y9,aA,ac,m4,_,_⟩:=e6;have lb:=aB y0;clear X hz t2;obtain⟨⟨op,v,a,b',m,bin,args,ff,arr,t⟩,av⟩:=y;dsimp only at m4 F v2 l3 b3 o2;obtain⟨an,h4⟩:∃k,k=args.length:=⟨_,rfl⟩;rw[<-h4]at m4;subst m4;have l2:=hqh h4;have m2:=hqh o2;clear h4 o2;simp only[]at y0 y1 y2 y3 y4 y5 y6 y7 y8 y9;go_upto_region 6 with fail;clear y0 y1 y2 y3 y4 y5 y6 y7 y8 y9;have bx:=Blk.new wr 71 #[.int .u8 op,.int .i64 v,.int .i64 a,.int .i64 b',.int .i64 m,.int .u8 bin,.slice aA an ac,.int .i64 ff,.int .i64 arr,.int .i64 t];have ha:=(qjk wr.heap.size wr).alloc (qqf _) (.cells #[.int .u8 op,.int .i64 v,.int .i64 a,.int .i64 b',.int .i64 m,.int .u8 bin,.slice aA an ac,.int .i64 ff,.int .i64 arr,.int .i64 t] 71);generalize r6:wr.alloc _=wa at bx ha⊢;clear r6;have s4:=hqh bx;have d0:=hqh ha;clear bx ha;have t1:dh wa w1.heap.size _ _:=own_below n2.o d0.o;have t6:D<wr.heap.size:=(n2.o.lt D rfl).2;have kb:=(dh.cell t1 (i:=i) (b:=eu (l.map (·.1)) i) (by rw[qqp,qqz oqo];rfl)).1;clear t1;obtain⟨ko,rfl⟩:∃k,gk=k+1:=⟨gk-1,by omega⟩;have b7:w.heap.size<=wr.heap.size:=A.o.ko.size;have p6:=A.o.new;obtain⟨ld,p4⟩:∃b,b=eu (l.map (·.1)) i:=⟨_,rfl⟩;rw[<-p4]at kb;have i1:=hqh p4;clear p4;cases ld;case true=>
    go_upto_region 8 with(first| (go_at_call 93;refine(Da wa).mono ?_;rintro e wb⟨gg,c0,c1,c2,rfl,a1,v1,hr0⟩;have HF:=hqh v1;have Z:=hqh (hr0.mono (qqy (2*i)));have L:=hqh (d0.o.trans (a1.mono d0.o.size));have q3:=hqh (s4.o.below a1);clear a1 hr0 v1)|fail);have n4:w.heap.size<=c0:=by have:=HF.o;have:=d0.o.size;omega
    have o4:D<c0:=by have:=HF.o;have:=d0.o.size;omega
    obtain⟨K,i0⟩:∃b,b=af.new:=⟨_,rfl⟩;rw[<-i0]at Z;have e0:=hqh (b3.o K (by rw[<-i1.o,i0];rfl));have l1:=hqh (show K.Ok f.vars by rw[i0];exact af.qW _);have j1:=hqh (show K.jh by rw[i0];exact BC);clear i0 HF kb;have n6:=Z.o.ne;have g1:=hqh (A.o.ko.trans (KO.below L.o));have p3:=hqh (show dh wb w1.heap.size _ _ from own_below n2.o L.o);have m1:=hqh (A.o.own.below L.o);have Q:=hqh (g5.o.below L.o);have C:=yI (gp:=⟨⟨R,gf,S⟩,s0,x0,gl⟩) (f:=f) (O:=O) (x:=⟨op,v,a,b',m,bin,args,ff,arr,t⟩) (av:=.slice aA an ac) Z.o F.o (e5.o wb g1.o) i4 v2.o (by rw[l2.o];rw[l2.o]at m2;exact m2.o.keep (KO.below (O:=λ_=>False) L.o) (λ_ _ _ c=>c) F.o.args);obtain⟨Y,J⟩:∃Y,Y=K.shorter doW R ⟨op,v,a,b',m,bin,args,ff,arr,t⟩:=⟨_,rfl⟩;have n1:=hqh C;clear C;have b6:=hqh J;have U:okI ⟨R,gf,S⟩ f Y:=by rw[J];exact uq l1.o F.o.one
    have T:I64 Y.n:=by rw[J];exact sN mG j1.o F.o.n
    have d4:=hqh (show InN Y by
     rcases U with e|e;·rw[e];exact⟨by unfold okN;decide,by unfold okN;decide,by unfold okN;decide,by unfold okN;decide,by decide⟩
     ·exact(XOk.mk e F.o.vars T).inN.1);have b4:=hqh U;have x3:=hqh T;have r3:=hqh (show Y.op≠11->Y.args=[]from λc=>by
     rcases U with e|e;·rw[e]
     ·exact(XOk.mk e F.o.vars T).args c);rw[<-J]at e0;have C:=n1.o;unfold prV aJ at C;dsimp only at C;rw[<-J]at C;clear J U T n1;have p0:=Q.o.cell 0;have p1:=Q.o.cell 1;have p2:=Q.o.cell 2;apply jqn;iterate 12 go_step
    refine aU rfl 71 (.tmp 7) rfl wr.heap.size rfl 71 _ _ q3.o Tryz.underlying71 rfl aX ?_;simp only[qqa];go_step;go_step;refine C.mono ?_;rintro e wc⟨⟨d6,rfl,j0,o1⟩,V⟩;have d2:=V.weak (O':=O) (λk hk=>l3.o k hk.1 hk.2);obtain⟨p,r,l0,_,_⟩:=j0.ints;dsimp only at l0;obtain⟨s,r1⟩:∃k,k=Y.args.length:=⟨_,rfl⟩;rw[<-r1]at l0;subst l0;clear r1;go_simp;go_step;iterate 3 go_step
    have I:=bP.set (y:=(Y,.slice p s r)) m1.o HY.o V j0 o1 r3.o;have j2:=bP.there m1.o HY.o V;refine jje rfl 71 (.tmp 29) (.tmp 28) rfl G (i*10) (aY (Y,.slice p s r)).toArray rfl rfl j2 aX (xm rfl) ?_;have o0:KO O wb (wc.setCells G (i*10) (aY (Y,.slice p s r)).toArray.toList):=d2.trans (KO.puts w4.o _ _ _);have I:bP (wc.setCells G (i*10) (aY (Y,.slice p s r)).toArray.toList) O (.slice (some ⟨G,0,none⟩) n c) (li.set i (Y,.slice p s r)):=I;generalize r4:wc.setCells _ _ _=wd at o0 I⊢;clear r4;have m3:=hqh I;have N:=hqh o0;have x1:=(qqi.1 HY.o).1;have l4:gF wd G (i*10) (Y,.slice p s r):=by
     obtain⟨A',c',e',_,g2⟩:=I.ins;have q0:(li.set i (Y,.slice p s r))[i]? =some (Y,.slice p s r):=jqb x1;rcases g2 with e|⟨b,o,e,k⟩;·rw[e]at q0;simp at q0
     ·injection e' with u _ _;rw[e]at u;injection u with u;injection u with u M;have:=k i _ q0;rw[<-u,<-M,qja]at this;exact this
    clear I o0 V d2 j0 o1 j2 x1;have i3:=hqh (Z.o.keep N.o (λk=>by have:=E.o _ k;omega) (λk=>by have:=E.o _ k;omega) (λk=>by have:=E.o _ k;omega) (λk=>by have:=E.o _ k;omega));have DO:=CF gg c0 c1 c2 (2*i) K Y (.slice p s r) wd i3.o d4.o (by unfold maxLen;omega);unfold aJ at DO;dsimp only at DO;obtain⟨z0,z1,z2,z3,z4,z5,z6,z7,z8,z9,_⟩:=l4;dsimp only at z0 z1 z2 z3 z4 z5 z6 z7 z8 z9;have lG:=aB z0;clear p0 p1 p2 C;go_wp2_with(first| (go_at_call 97;refine DO.mono ?_;rintro e we⟨rfl,q1,a2⟩;have e3:=hqh q1;have P:=hqh a2;clear q1 a2)|fail);have q4:∀k,O k->¬jv c0 c1 c2 k:=λk hk c=>by have:=E.o k hk;unfold jv at c;omega
    go_roundg ko;case measure=>omega
    case rel=>
     refine⟨i+1,gg,c0,c1,c2,K.does Y,li.set i (Y,.slice p s r),by omega,by omega,by simp,rfl,hqh ⟨m3.o.keep P.o q4,?_,e3.o,n4,l1.o.does b4.o,j1.o.does x3.o,by rw[qjg];exact A.o.len,λj=>?_,e0.o.2⟩,hqh ?_,hqh ?_,o4⟩;·exact(g1.o.trans N.o).then' P.o λk hk c=>by unfold jv at c;omega
     ·rw[List.map_set];by_cases e:j=i;·subst e;rw[qzb oqo,jqb (by rw[qqv];exact(qqi.1 HY.o).1)];exact e0.o.1.symm
      ·rw[jqd (λd=>e d.symm),A.o.code j];by_cases M:j<i;·rw[qzb M,qzb oqo]
       ·rw[qzc M,qzc oqo]
     ·refine di (di p3.o N.o (λk hk c=>?_)) P.o (λk hk c=>?_)
      ·have e:D=k:=by simpa [Value.ownBlock]using hk
       have:=E.o k c;omega
      ·have e:D=k:=by simpa [Value.ownBlock]using hk
       unfold jv at c;omega
     ·exact P.o.blk (N.o.blk Q.o (λk=>by have:=E.o _ k;omega)) (λc=>by unfold jv at c;omega)
   case false=>
    go_upto_region 8 with fail;obtain⟨wb,s6⟩:∃x,x=wa:=⟨_,rfl⟩;subst s6;have Z:=hqh (A.o.blk.below d0.o);have L:=d0;have q3:=s4;obtain⟨c0,m0⟩:∃x,x=b0:=⟨_,rfl⟩;subst m0;obtain⟨c1,m0⟩:∃x,x=b1:=⟨_,rfl⟩;subst m0;obtain⟨c2,m0⟩:∃x,x=b2:=⟨_,rfl⟩;subst m0;obtain⟨gg,m0⟩:∃x,x=g:=⟨_,rfl⟩;subst m0;have n4:w.heap.size<=c0:=p6;have o4:D<c0:=m6;obtain⟨K,i0⟩:∃b,b=B:=⟨_,rfl⟩;subst i0;have e0:=hqh (b3.o K (by rw[<-i1.o];rfl));have l1:=hqh A.o.ok;have j1:=hqh A.o.nums;clear kb;have n6:=Z.o.ne;have g1:=hqh (A.o.ko.trans (KO.below L.o));have p3:=hqh (show dh wb w1.heap.size _ _ from own_below n2.o L.o);have m1:=hqh (A.o.own.below L.o);have Q:=hqh (g5.o.below L.o);have C:=yI (gp:=⟨⟨R,gf,S⟩,s0,x0,gl⟩) (f:=f) (O:=O) (x:=⟨op,v,a,b',m,bin,args,ff,arr,t⟩) (av:=.slice aA an ac) Z.o F.o (e5.o wb g1.o) i4 v2.o (by rw[l2.o];rw[l2.o]at m2;exact m2.o.keep (KO.below (O:=λ_=>False) L.o) (λ_ _ _ c=>c) F.o.args);obtain⟨Y,J⟩:∃Y,Y=K.shorter doW R ⟨op,v,a,b',m,bin,args,ff,arr,t⟩:=⟨_,rfl⟩;have n1:=hqh C;clear C;have b6:=hqh J;have U:okI ⟨R,gf,S⟩ f Y:=by rw[J];exact uq l1.o F.o.one
    have T:I64 Y.n:=by rw[J];exact sN mG j1.o F.o.n
    have d4:=hqh (show InN Y by
     rcases U with e|e;·rw[e];exact⟨by unfold okN;decide,by unfold okN;decide,by unfold okN;decide,by unfold okN;decide,by decide⟩
     ·exact(XOk.mk e F.o.vars T).inN.1);have b4:=hqh U;have x3:=hqh T;have r3:=hqh (show Y.op≠11->Y.args=[]from λc=>by
     rcases U with e|e;·rw[e]
     ·exact(XOk.mk e F.o.vars T).args c);rw[<-J]at e0;have C:=n1.o;unfold prV aJ at C;dsimp only at C;rw[<-J]at C;clear J U T n1;have p0:=Q.o.cell 0;have p1:=Q.o.cell 1;have p2:=Q.o.cell 2;apply jqn;iterate 12 go_step
    refine aU rfl 71 (.tmp 7) rfl wr.heap.size rfl 71 _ _ q3.o Tryz.underlying71 rfl aX ?_;simp only[qqa];go_step;go_step;refine C.mono ?_;rintro e wc⟨⟨d6,rfl,j0,o1⟩,V⟩;have d2:=V.weak (O':=O) (λk hk=>l3.o k hk.1 hk.2);obtain⟨p,r,l0,_,_⟩:=j0.ints;dsimp only at l0;obtain⟨s,r1⟩:∃k,k=Y.args.length:=⟨_,rfl⟩;rw[<-r1]at l0;subst l0;clear r1;go_simp;go_step;iterate 3 go_step
    have I:=bP.set (y:=(Y,.slice p s r)) m1.o HY.o V j0 o1 r3.o;have j2:=bP.there m1.o HY.o V;refine jje rfl 71 (.tmp 29) (.tmp 28) rfl G (i*10) (aY (Y,.slice p s r)).toArray rfl rfl j2 aX (xm rfl) ?_;have o0:KO O wb (wc.setCells G (i*10) (aY (Y,.slice p s r)).toArray.toList):=d2.trans (KO.puts w4.o _ _ _);have I:bP (wc.setCells G (i*10) (aY (Y,.slice p s r)).toArray.toList) O (.slice (some ⟨G,0,none⟩) n c) (li.set i (Y,.slice p s r)):=I;generalize r4:wc.setCells _ _ _=wd at o0 I⊢;clear r4;have m3:=hqh I;have N:=hqh o0;have x1:=(qqi.1 HY.o).1;have l4:gF wd G (i*10) (Y,.slice p s r):=by
     obtain⟨A',c',e',_,g2⟩:=I.ins;have q0:(li.set i (Y,.slice p s r))[i]? =some (Y,.slice p s r):=jqb x1;rcases g2 with e|⟨b,o,e,k⟩;·rw[e]at q0;simp at q0
     ·injection e' with u _ _;rw[e]at u;injection u with u;injection u with u M;have:=k i _ q0;rw[<-u,<-M,qja]at this;exact this
    clear I o0 V d2 j0 o1 j2 x1;have i3:=hqh (Z.o.keep N.o (λk=>by have:=E.o _ k;omega) (λk=>by have:=E.o _ k;omega) (λk=>by have:=E.o _ k;omega) (λk=>by have:=E.o _ k;omega));have DO:=CF gg c0 c1 c2 (2*i) K Y (.slice p s r) wd i3.o d4.o (by unfold maxLen;omega);unfold aJ at DO;dsimp only at DO;obtain⟨z0,z1,z2,z3,z4,z5,z6,z7,z8,z9,_⟩:=l4;dsimp only at z0 z1 z2 z3 z4 z5 z6 z7 z8 z9;have lG:=aB z0;clear p0 p1 p2 C;go_wp2_with(first| (go_at_call 97;refine DO.mono ?_;rintro e we⟨rfl,q1,a2⟩;have e3:=hqh q1;have P:=hqh a2;clear q1 a2)|fail);have q4:∀k,O k->¬jv c0 c1 c2 k:=λk hk c=>by have:=E.o k hk;unfold jv at c;omega
    go_roundg ko;case measure=>omega
    case rel=>
     refine⟨i+1,gg,c0,c1,c2,K.does Y,li.set i (Y,.slice p s r),by omega,by omega,by simp,rfl,hqh ⟨m3.o.keep P.o q4,?_,e3.o,n4,l1.o.does b4.o,j1.o.does x3.o,by rw[qjg];exact A.o.len,λj=>?_,e0.o.2⟩,hqh ?_,hqh ?_,o4⟩;·exact(g1.o.trans N.o).then' P.o λk hk c=>by unfold jv at c;omega
     ·rw[List.map_set];by_cases e:j=i;·subst e;rw[qzb oqo,jqb (by rw[qqv];exact(qqi.1 HY.o).1)];exact e0.o.1.symm
      ·rw[jqd (λd=>e d.symm),A.o.code j];by_cases M:j<i;·rw[qzb M,qzb oqo]
       ·rw[qzc M,qzc oqo]
     ·refine di (di p3.o N.o (λk hk c=>?_)) P.o (λk hk c=>?_)
      ·have e:D=k:=by simpa [Value.ownBlock]using hk
       have:=E.o k c;omega
      ·have e:D=k:=by simpa [Value.ownBlock]using hk
       unfold jv at c;omega
     ·exact P.o.blk (N.o.blk Q.o (λk=>by have:=E.o _ k;omega)) (λc=>by unfold jv at c;omega)
def Tk(v:Value)(l:List InV)(F:Nat)(w:World)(b:InV->Bool)(h:dS w v l)(hl:l.length<=1000000)(T:∀a W,(callFunc F #[a]).run Tryz.prog W=.ok (.enter F #[a]) W)(hc:∀x∈l,∀W,Below w.heap.size w W->Calls Tryz.prog F #[(aJ x)] W λe K=>e=.returned (.bool (b x))/\Below W.heap.size W K):Calls Tryz.prog 109 #[v,.func (.func F) #[] #[]] w λe w'=>(∃r:Int,e=.returned (.int .i64 r)/\(0<=r↔l.any b=true))/\Below w.heap.size w w':=by
 obtain⟨A,c,rfl,M,h⟩:=h;obtain⟨n,hn⟩:∃n,n=l.length:=⟨_,rfl⟩;rw[<-hn];have H:=hqh h;have z:=hqh hn;have I:=hqh hl;have t:=hqh hc;clear h hn M hl hc;go_enter Tryz.func109,Tryz.ntmps109;go_wp2_with fail;have R:(Tryz.prog.info? 71).map (λi=>(i.zero,i.size,i.bytes))=some (some (.agg #[.int .u8 0,.int .i64 0,.int .i64 0,.int .i64 0,.int .i64 0,.int .u8 0,.slice none 0 0,.int .i64 0,.int .i64 0,.int .i64 0]),10,96):=kqk;go_loopg [8]n(λgk v wr=>∃i:Nat,i<=n/\n-i<=gk/\v=.int .i64 i/\Hid (Below w.heap.size w wr)/\Hid ((l.take i).any b=false));case atStart=>exact⟨0,qqy _,qqf _,rfl,hqh (qjk _ _),hqh (by simp)⟩
 case round=>
  obtain⟨i,hi,U,rfl,d,u⟩:=hrel;by_cases P:i<n;case neg=>have q:decide ((i:Int)<(n:Int))=false:=qqt oqo;go_wp2_with fail;go_ret;refine⟨⟨-1,rfl,⟨λh=>absurd h oqo,λh=>?_⟩⟩,d.o⟩;have:=u.o;rw[jqc (by have:=z.o;omega),h]at this;cases this
  case pos=>
   have q:decide ((i:Int)<(n:Int))=true:=qqx oqo;have N:i<l.length:=by rw[<-z.o];exact P
   obtain⟨y,m⟩:∃y,l[i]? =some y:=⟨_,qqh N⟩;obtain⟨j,o,rfl,L⟩:∃j o,A=some ⟨j,o,none⟩/\gF wr j (o+i*10) y:=by
    rcases H.o with rfl|⟨j,o,e,k⟩;·simp at m
    ·exact⟨j,o,e,(k i y m).below d.o⟩
   obtain⟨Q,X,Y,Z,y4,y5,y6,y7,y8,y9,_⟩:=L;unfold aJ at t;have lb:=aB Q;have S:=I.o;have E:=hqh (t.o y (qqr m) wr d.o);have C:=hqh m;clear m;have V:(i:Int)<(n:Int):=oqo;go_wp2_with fail;refine E.o.mono ?_;rintro e w1⟨rfl,D⟩;have s:=hqh (d.o.trans (D.mono (by have:=d.o.size;omega)));clear D;cases p:b y;case true=>have J:=hqh (show l.any b=true from jze.2 ⟨y,qqr C.o,p⟩);clear p;go_wp2_with fail;go_ret;exact⟨⟨(i:Int),rfl,λ_=>J.o,λ_=>by omega⟩,s.o⟩
   case false=>have G:=hqh (show(l.take (i+1)).any b=false by rw[jqw,C.o];simp[u.o,p]);clear p;go_wp2_with fail;cases gk with|zero=>omega|succ gk=>
     go_roundg gk;case measure=>omega
     case rel=>exact⟨i+1,by omega,by omega,by simp,s,G⟩
def QP(v:Value)(l:List InV)(F:Nat)(w:World)(b:InV->Bool)(h:dS w v l)(hl:l.length<=1000000)(d:∀a W,(callFunc F #[a]).run Tryz.prog W=.ok (.enter F #[a]) W)(hc:∀x∈l,∀W,Below w.heap.size w W->Calls Tryz.prog F #[(aJ x)] W λe m=>e=.returned (.bool (b x))/\Below W.heap.size W m):Calls Tryz.prog 46 #[v,.func (.func F) #[] #[]] w λe w'=>e=.returned (.bool (l.any b))/\Below w.heap.size w w':=by
 have j:=hqh (Tk v l F w b h hl d hc);clear h hl d hc;go_enter Tryz.func46,Tryz.ntmps46;go_wp2_with fail;refine j.o.mono ?_;rintro e w1⟨⟨r,rfl,hr⟩,c⟩;have HR:=hqh hr;have i:=hqh c;clear hr c;have hd:l.any b=decide (0<=r):=by rw[qzd,qqu];exact HR.o.symm
 have k:=hqh hd;clear hd;cases h0:decide (0<=r);all_goals go_wp2_with fail
 all_goals go_ret
 all_goals exact⟨bR (by rw[k.o,h0]),i.o⟩
def Oc(y:InV)(w:World):Calls Tryz.prog 155 #[aJ y] w λe w'=>e=.returned (.bool (y.1.op !=0))/\Below w.heap.size w w':=by obtain⟨⟨op,v,a,b,n,bin,args,f,arr,t⟩,av⟩:=y;unfold aJ;dsimp only;have c:=(Below.refl w.heap.size w).alloc (Nat.le_refl _) (.cells #[.int .u8 op,.int .i64 v,.int .i64 a,.int .i64 b,.int .i64 n,.int .u8 bin,av,.int .i64 f,.int .i64 arr,.int .i64 t] 71);have d:=hqh c;clear c;go_enter Tryz.func155,Tryz.ntmps155;go_wp2_with fail;go_ret;refine⟨bR ?_,d.o⟩;rw[qzd];simp only[qjj,qqe,jxw,ne_eq];omega
def Qd(v:Value)(l:List InV)(w:World)(h:dS w v l)(hl:l.length<=1000000):Calls Tryz.prog 46 #[v,.func (.func 155) #[] #[]] w λe w'=>e=.returned (.bool (l.any λy=>y.1.op !=0))/\Below w.heap.size w w':=QP v l 155 w (λy=>y.1.op !=0) h hl (λa U=>enters_of Tryz.func155 kqk rfl #[a] U) λx _ W _=>Oc x W
